/- Part 6 of the proof: Pe5 Pe6 Pe7 Pe8 Pe9 Pk5 KX UE KA KC KW KV PeA UG UX. -/
import Derived.Test.YtknkhdjhongklaaGreatQd5
set_option linter.unusedSimpArgs false
set_option linter.unusedVariables false
set_option maxRecDepth 100000
namespace Go.Proofs.YtknkhdjhongklaaGreat
section
open Go.RowKit
section
variable {w:Wd} {A:Int→Prop}
theorem OU {kind a:Int} (hk:kind=1∨kind=2):Mf w kind a=if 0≤a∧a<w.up.length then Di w a.toNat (decide (kind=2)) else w:=by
  unfold Mf
  rcases hk with rfl|rfl<;>simp
theorem UM {a:Int}:Mf w 3 a=if 0≤a∧a<w.net.length then Mq { w with net:=w.net.eraseIdx a.toNat } (Ob w.net a.toNat).t.toNat (Ob w.net a.toNat).p else w:=by
  unfold Mf;simp
theorem VM {a:Int}:Mf w 4 a=if 0≤a∧a<w.net.length then { w with net:=w.net.eraseIdx a.toNat } else w:=by
  unfold Mf;simp
theorem XM {a:Int}:Mf w 5 a=if 0≤a∧a<w.net.length then (if w.net.length<16 then { w with net:=w.net++[Ob w.net a.toNat] } else w) else w:=by
  unfold Mf;simp
theorem bN {a:Int}:Mf w 6 a=if 0≤a∧a<w.up.length then Nq w a.toNat else w:=by
  unfold Mf;simp
theorem bO {kind a:Int} (h1:kind≠1) (h2:kind≠2) (h3:kind≠3) (h4:kind≠4) (h5:kind≠5) (h6:kind≠6):Mf w kind a=w:=by
  unfold Mf;simp [h1,h2,h3,h4,h5,h6]
theorem bP (h:WV w Hc) {k:Nat} (hk:k<w.ls.length) (u:Bool) (ha:iz w.sq (lk w.ls k).a.toNat<99) (hb:iz w.sq (lk w.ls k).b.toNat<99):∃A,WV (Ci { w with up:=w.up.set k u } (lk w.ls k).a.toNat) A∧iz (Ci { w with up:=w.up.set k u } (lk w.ls k).a.toNat).sq (lk w.ls k).b.toNat<99:=by
  have hdb:=h.db
  have hsq:=h.sq
  have ho:=h.g.ok (Gk hk)
  unfold Nh at ho
  refine ⟨_,FU (LM h hk u) (i:=(lk w.ls k).a.toNat) (by show _<w.db.length;omega) (by show iz w.sq _<99;omega),?_⟩
  show iz (w.sq.set (lk w.ls k).a.toNat _) (lk w.ls k).b.toNat<99
  rw [DC (by omega),if_neg (by omega)]
  omega
theorem bQ (h:WV w Hc) {k:Nat} (hk:k<w.ls.length) (u:Bool):Wm (w.n,w.ls,w.up,w.sq,w.db,w.net,(k:Int),u,())=some (wt (Di w k u)):=by
  have hdb:=h.db
  have hsq:=h.sq
  have hup:=h.up
  have ho:=h.g.ok (Gk hk)
  unfold Nh at ho
  have main:w.up.getD k false≠u→iz w.sq (lk w.ls k).a.toNat<99→iz w.sq (lk w.ls k).b.toNat<99→JC (w.n,0,[],[],[],[],[],(lk w.ls k).a,(lk w.ls k).b,(lk w.ls k).c,w.ls,w.up.set k u,w.sq,w.db,w.net,())=some (.inl (wt (Di w k u))):=fun hu ha hb=>by
    obtain ⟨A,v,hv⟩:=bP h hk u ha hb
    unfold JC
    refine Aa.out (Vb (bM (LM h hk u) (i:=(lk w.ls k).a) (by omega) (by show _<w.n;omega) ha) ?_)
    dsimp only [wt]
    refine Vb (bM v (i:=(lk w.ls k).b) (by omega) (by show _<w.n;omega) hv) (.some ?_)
    unfold Di
    rw [if_neg (by rintro (e|e|e);exact hu e;omega;omega)]
    rfl
  unfold Wm
  simp only [Ta,Lg,Nw,Kg]
  refine Aa.out (Aa.gd (Ia (by omega) (by omega)) (Aa.gd (Ia (by omega) (by omega)) (Aa.ite (fun hc=>.some ?_) (fun hc=>?_))))
  ·have hc:w.up.getD k false=u:=by simpa using hc
   unfold Di;rw [if_pos (.inl hc)];rfl
  have hc:w.up.getD k false≠u:=by simpa using hc
  refine Aa.gd (Ia (by omega) (by omega)) (Aa.ite (fun ha=>.some ?_) (fun ha=>?_))
  ·have ha:=oT ha
   unfold Di;rw [if_pos (.inr (.inl ha))];rfl
  have ha:=oF ha
  refine Aa.gd (Ia (by omega) (by omega)) (Aa.ite (fun hb=>.some ?_) (fun hb=>?_))
  ·have hb:=oT hb
   unfold Di;rw [if_pos (.inr (.inr hb))];rfl
  have hb:=oF hb
  refine Vb (TM h.sm) ?_
  dsimp only [wt]
  refine Aa.gd (Ia (by omega) (by omega)) (Vb (main hc (by omega) (by omega)) (.some rfl))
theorem uK (h:WV w A) {t:Nat} (ht:t<w.db.length) {l:Ls} (hl:Cf l):NM (w.n,w.ls,w.up,w.sq,w.db,w.net,(t:Int),l.o,l.s,l.e,())=some (wt (Mq w t l)):=by
  have hd:=h.ok t ht
  unfold NM
  simp only [Ta,Ei]
  refine Aa.out (Aa.gd (Ia (by omega) (by omega)) (Vb (YT (Ab w.db t) l hd.so hd.sm hl.sm) ?_))
  dsimp only
  unfold Mq
  refine Aa.ite (fun hc=>.some ?_) (fun hc=>?_)
  ·have hc:¬Pe (Ab w.db t) l=0:=by simpa using hc
   rw [if_neg hc];rfl
  ·have hc:Pe (Ab w.db t) l=0:=by simpa using hc
   rw [if_pos hc]
   refine Vb (TM h.sm) ?_
   dsimp only
   refine Aa.gd (Ia (by omega) (by omega)) ?_
   exact Vb (bI { w with db:=w.db.set t (Ad (Ab w.db t) l) } (t:Int) l.o l h.g h.up h.net hl.sm) (.some rfl)
theorem uL (h:WV w A) {k:Nat} (hk:k<w.ls.length):Vm (w.n,w.ls,w.up,w.sq,w.db,w.net,(k:Int),())=some (wt (Nq w k)):=by
  have hdb:=h.db
  have hup:=h.up
  have ho:=h.g.ok (Gk hk)
  unfold Nh at ho
  have va:=h.ok (lk w.ls k).a.toNat (by omega)
  have vb:=h.ok (lk w.ls k).b.toNat (by omega)
  have vm:=PT va (Jq.1 vb).1
  have la:=va.len
  have lb:=vb.len
  unfold Vm Nq
  simp only [Ta,Ei,Lg,Nw]
  refine Aa.out (Aa.gd (Ia (by omega) (by omega)) (Aa.gd (Ia (by omega) (by omega)) (Aa.ite (fun hc=>.some ?_) (fun hc=>?_))))
  ·have hc:¬w.up.getD k false=true:=by simpa using hc
   rw [if_neg hc];rfl
  ·have hc:w.up.getD k false=true:=by simpa using hc
   rw [if_pos hc]
   refine Vb (TM h.sm) ?_
   dsimp only
   refine Aa.gd (Ia (by omega) (by omega)) (Aa.gd (Ia (by omega) (by omega)) (Vb (tK _ _ va.so va.sm vb.sm (by omega) (by omega)) ?_))
   dsimp only
   refine Aa.gd (Ia (by omega) (by omega)) (Vb (IM _ vm.sm) ?_)
   refine Aa.gd (Ia (by omega) (by rw [List.length_set];omega)) (.some rfl)
theorem uM (k:Nat):Int.toNat ((k:Int)+1)=k+1:=by omega
theorem uN {α:Type} (l:List α) (j:Nat):List.take (l.length-j) (List.drop j l)=List.drop j l:=List.take_of_length_le (by simp)
theorem PU {lo hi:Int} {n:Nat} (h1:0≤lo) (h2:lo≤hi) (h3:hi≤n):Tl lo hi n=true:=by unfold Tl;simp;omega
theorem uO (h:WV w Hc) {kind:Int} (hk:kind=3∨kind=4∨kind=5) (a:Int):Pq (w.n,w.ls,w.up,w.sq,w.db,w.net,kind,a,())=some (wt (Mf w kind a)):=by
  have hnet:=h.net
  have hdb:=h.db
  unfold Pq
  simp (disch:=omega) only [Qo,Option.bind_some,La,Ua]
  refine Aa.out (Aa.ite (fun hc=>.some ?_) (fun hc=>?_))
  ·have hc:=Rh (show Mc a 0 ((w.net.length:Int)-1)=false by simpa using hc)
   rcases hk with rfl|rfl|rfl
   ·rw [UM,if_neg (by omega)];rfl
   ·rw [VM,if_neg (by omega)];rfl
   ·rw [XM,if_neg (by omega)];rfl
  have hc:0≤a∧a≤(w.net.length:Int)-1:=by simpa [Mc] using hc
  obtain ⟨k,rfl⟩:=Int.eq_ofNat_of_zero_le hc.1
  have hkn:k<w.net.length:=by omega
  have hm:Ob w.net k∈w.net:=Um hkn
  have hP:=h.poss _ (.inr ⟨_,hm,rfl⟩)
  have ht:=h.tgt _ hm
  have hV:=hP.1
  have w1:wrap64 ((k:Int)+1)=((k:Int)+1):=Ua (by omega) (by omega)
  simp only [w1,Ta,uM,Zo,Int.toNat_zero,List.drop_zero,Nat.sub_zero,List.nil_append,uN,←List.eraseIdx_eq_take_drop_succ]
  clear w1
  refine Aa.gd (Ia (by omega) (by omega)) ?_
  by_cases h5:kind=5
  ·subst h5
   rw [XM,if_pos ⟨by omega,by omega⟩,Ta]
   refine Aa.gd rfl (Aa.ite (fun hf=>?_) (fun hf=>?_))
   ·have hf:=oT hf
    rw [if_pos (by omega)]
    have e:IC (w.n,w.ls,w.up,w.sq,w.db,w.net,0,[],[],[],[],[],(Ob w.net k).t,(Ob w.net k).p.o,(Ob w.net k).p.s,(Ob w.net k).p.e,())=some (.inl (w.n,w.ls,w.up,w.sq,w.db,0,[],[],[],[],[],w.net++[Ob w.net k],())):=by
      unfold IC
      refine Aa.out (Aa.gd (decide_eq_true (by simp only [List.length_nil];omega)) (Aa.gd (decide_eq_true (by simp only [List.nil_append,List.length_singleton];omega)) (.some (by simp))))
    exact Vb e (.some rfl)
   ·have hf:=oF hf
    rw [if_neg (by omega)]
    exact .some rfl
  refine Aa.no (dF h5) (Aa.gd (PU (by omega) (by omega) (by omega)) (Aa.gd (PU (by omega) (by omega) (by omega)) ?_))
  refine Aa.gd (decide_eq_true (by simp only [List.length_nil,List.length_take];omega)) (Aa.gd (decide_eq_true (by simp only [List.length_take,List.length_drop];omega)) ?_)
  by_cases h3:kind=3
  ·subst h3
   rw [UM,if_pos ⟨by omega,by omega⟩,Ta]
   refine Aa.gd rfl ?_
   obtain ⟨t,ht'⟩:=Int.eq_ofNat_of_zero_le ht.1
   rw [ht']
   exact Vb (uK (IU h k) (t:=t) (by show t<w.db.length;omega) hV) (.some rfl)
  ·have h4:kind=4:=by omega
   subst h4
   rw [VM,if_pos ⟨by omega,by omega⟩,Ta]
   exact Aa.no rfl (.some rfl)
theorem uP (h:WV w Hc) (kind a:Int):QM (w.n,w.ls,w.up,w.sq,w.db,w.net,kind,a,())=some (wt (Mf w kind a)):=by
  have hup:=h.up
  have h14:=h.lsl
  have hnet:∀kind,kind=3∨kind=4∨kind=5→Aa ((Pq (w.n,w.ls,w.up,w.sq,w.db,w.net,kind,a,())).bind fun r0=>some ((r0.1,r0.2.1,r0.2.2.1,r0.2.2.2.1,r0.2.2.2.2.1,r0.2.2.2.2.2.1,()))) (·=wt (Mf w kind a)):=fun kind hk=>Vb (uO h hk a) (.some rfl)
  unfold QM
  dsimp only
  by_cases h3:kind=3
  ·subst h3;exact Aa.out (Aa.gd rfl (Aa.gd rfl (hnet 3 (.inl rfl))))
  by_cases h4:kind=4
  ·subst h4;exact Aa.out (Aa.no rfl (Aa.gd rfl (Aa.gd rfl (hnet 4 (.inr (.inl rfl))))))
  by_cases h5:kind=5
  ·subst h5;exact Aa.out (Aa.no rfl (Aa.no rfl (Aa.gd rfl (hnet 5 (.inr (.inr rfl))))))
  refine Aa.out (Aa.no (dF h3) (Aa.no (dF h4) (Aa.no (dF h5) (Vb (Qo _ _ _) ?_))))
  simp (disch:=omega) only [La,Ua]
  have out:¬(0≤a∧a<w.up.length)→Mf w kind a=w:=fun hh=>by
    unfold Mf
    simp only [h3,h4,h5,false_and,if_false]
    rw [if_neg (fun q=>hh q.2),if_neg (fun q=>hh q.2)]
  refine Aa.ite (fun hc=>.some ?_) (fun hc=>?_)
  ·have hc:=Rh (show Mc a 0 ((w.up.length:Int)-1)=false by simpa using hc)
   rw [out (by omega)];rfl
  have hc:0≤a∧a≤(w.up.length:Int)-1:=by simpa [Mc] using hc
  obtain ⟨k,rfl⟩:=Int.eq_ofNat_of_zero_le hc.1
  by_cases h1:kind=1
  ·subst h1
   rw [OU (.inl rfl),if_pos ⟨by omega,by omega⟩,Ta]
   exact Aa.gd rfl (Aa.gd rfl (Vb (bQ h (by omega) _) (.some rfl)))
  by_cases h2:kind=2
  ·subst h2
   rw [OU (.inr rfl),if_pos ⟨by omega,by omega⟩,Ta]
   exact Aa.no rfl (Aa.gd rfl (Vb (bQ h (by omega) _) (.some rfl)))
  refine Aa.no (dF h1) (Aa.no (dF h2) ?_)
  by_cases h6:kind=6
  ·subst h6
   rw [bN,if_pos ⟨by omega,by omega⟩,Ta]
   exact Aa.gd rfl (Vb (uL h (by omega)) (.some rfl))
  ·refine Aa.no (dF h6) (.some ?_)
   rw [bO h1 h2 h3 h4 h5 h6];rfl
end
end
section
open Go.RowKit
section
variable {w:Wd} {A:Int→Prop}
theorem bR (net:List Pk) (k:Nat) (hk:k<net.length) (hn:net.length≤16):Yy ((k:Int),(k:Int)+1,net,())=some (net.eraseIdx k,()):=by
  unfold Yy
  rw [List.eraseIdx_eq_take_drop_succ]
  exact Aa.out (Aa.gd (decide_eq_true ⟨by omega,rfl,by show (k:Int)<(net.length:Int);omega,by show net.length≤16777216;omega⟩) (.some rfl))
theorem uQ (h:WV w Hc) (kind a:Int):RM (kind,a,w.n,w.ls,w.up,w.sq,w.db,w.net,())=some (wt (Mf w kind a)):=by
  have hup:=h.up
  have h14:=h.lsl
  have hnet:=h.net
  have hdb:=h.db
  have hsq:=h.sq
  unfold RM
  simp (disch:=omega) only [Gq,Option.bind_some,La,Ua]
  by_cases h12:kind=1∨kind=2
  ·rw [OU h12]
   cases hin:Mc a 0 ((w.up.length:Int)-1) with
   |false =>
    have hc:=Rh hin
    rw [if_neg (by omega)]
    rcases h12 with rfl|rfl
    ·exact Aa.out (Aa.gd rfl (Aa.no rfl (Aa.no rfl (Aa.no rfl (Aa.no rfl (Aa.no rfl (.some rfl)))))))
    ·exact Aa.out (Aa.no rfl (Aa.gd rfl (Aa.no rfl (Aa.no rfl (Aa.no rfl (Aa.no rfl (Aa.no rfl (.some rfl))))))))
   |true =>
    have hc:=Ui hin
    obtain ⟨k,rfl⟩:=Int.eq_ofNat_of_zero_le hc.1
    have hk:k<w.ls.length:=by omega
    have ho:=h.g.ok (Gk hk)
    unfold Nh at ho
    rw [if_pos ⟨by omega,by omega⟩,Ta]
    have main:∀u:Bool,w.up.getD k false≠u→iz w.sq (lk w.ls k).a.toNat<99→iz w.sq (lk w.ls k).b.toNat<99→Aa ((Il ((lk w.ls k).a,w.n,w.ls,w.up.set k u,w.sq,w.db,w.net,())).bind fun r2=>(Il (((lk w.ls k).b,(r2.1,(r2.2.1,(r2.2.2.1,(r2.2.2.2.1,(r2.2.2.2.2.1,(r2.2.2.2.2.2.1,()))))))))).bind fun r3=>some ((r3.1,r3.2.1,r3.2.2.1,r3.2.2.2.1,r3.2.2.2.2.1,r3.2.2.2.2.2.1,()))) (·=wt (Di w k u)):=fun u hu ha hb=>by
      obtain ⟨A,v,hv⟩:=bP h hk u ha hb
      refine Vb (bL (LM h hk u) (i:=(lk w.ls k).a) (by omega) (by show _<w.n;omega) ha) ?_
      dsimp only [wt]
      refine Vb (bL v (i:=(lk w.ls k).b) (by omega) (by show _<w.n;omega) hv) (.some ?_)
      unfold Di
      rw [if_neg (by rintro (e|e|e);exact hu e;omega;omega)]
      rfl
    have same:∀u:Bool,¬(w.up.getD k false≠u∧iz w.sq (lk w.ls k).a.toNat<99∧iz w.sq (lk w.ls k).b.toNat<99)→(w.n,w.ls,w.up,w.sq,w.db,w.net,())=wt (Di w k u):=fun u hh=>by
      unfold Di
      rw [if_pos (by
        by_cases e1:w.up.getD k false=u
        ·exact .inl e1
        ·by_cases e2:iz w.sq (lk w.ls k).a.toNat<99
         ·exact .inr (.inr (by
            by_cases e3:iz w.sq (lk w.ls k).b.toNat<99
            ·exact (hh ⟨e1,e2,e3⟩).elim
            ·omega))
         ·exact .inr (.inl (by omega)))]
      rfl
    simp only [Ta,Lg,Nw,Kg]
    rcases h12 with rfl|rfl
    ·refine Aa.out (Aa.gd rfl (Aa.gd rfl (Aa.gd (Ia (by omega) (by omega)) (Aa.gd (Ia (by omega) (by omega)) ?_))))
     refine Aa.ite (fun hu=>?_) (fun hu=>.some (same _ (fun q=>q.1 (by simpa using hu))))
     refine Aa.gd (Ia (by omega) (by omega)) (Aa.ite (fun ha=>?_) (fun ha=>.some (same _ (fun q=>oF ha q.2.1))))
     refine Aa.gd (Ia (by omega) (by omega)) (Aa.ite (fun hb=>?_) (fun hb=>.some (same _ (fun q=>oF hb q.2.2))))
     exact Aa.gd (Ia (by omega) (by omega)) (main _ (by simpa using hu) (oT ha) (oT hb))
    ·refine Aa.out (Aa.no rfl (Aa.gd rfl (Aa.gd rfl (Aa.gd (Ia (by omega) (by omega)) (Aa.gd (Ia (by omega) (by omega)) ?_)))))
     refine Aa.ite (fun hu=>?_) (fun hu=>.some (same _ (fun q=>q.1 (by simpa using hu))))
     refine Aa.gd (Ia (by omega) (by omega)) (Aa.ite (fun ha=>?_) (fun ha=>.some (same _ (fun q=>oF ha q.2.1))))
     refine Aa.gd (Ia (by omega) (by omega)) (Aa.ite (fun hb=>?_) (fun hb=>.some (same _ (fun q=>oF hb q.2.2))))
     exact Aa.gd (Ia (by omega) (by omega)) (main _ (by simpa using hu) (oT ha) (oT hb))
  have h1:kind≠1:=fun e=>h12 (.inl e)
  have h2:kind≠2:=fun e=>h12 (.inr e)
  refine Aa.out (Aa.no (dF h1) (Aa.no (dF h2) ?_))
  by_cases h6:kind=6
  ·subst h6
   rw [bN]
   cases hin:Mc a 0 ((w.up.length:Int)-1) with
   |false =>
    have hc:=Rh hin
    rw [if_neg (by omega)]
    exact Aa.no rfl (Aa.no rfl (Aa.no rfl (Aa.gd rfl (Aa.no rfl (.some rfl)))))
   |true =>
    have hc:=Ui hin
    obtain ⟨k,rfl⟩:=Int.eq_ofNat_of_zero_le hc.1
    have hk:k<w.ls.length:=by omega
    have ho:=h.g.ok (Gk hk)
    unfold Nh at ho
    rw [if_pos ⟨by omega,by omega⟩,Ta]
    have va:=h.ok (lk w.ls k).a.toNat (by omega)
    have vb:=h.ok (lk w.ls k).b.toNat (by omega)
    have vm:=PT va (Jq.1 vb).1
    have la:=va.len
    have lb:=vb.len
    have b25:Ee (w.n,w.ls,w.up,w.sq,w.db,(lk w.ls k).a,(lk w.ls k).b,(lk w.ls k).c,Md (Ab w.db (lk w.ls k).a.toNat) (Ab w.db (lk w.ls k).b.toNat),w.net,())=some (.inl (wt (Yo w (lk w.ls k).a.toNat (lk w.ls k).b.toNat))):=by
      unfold Ee
      dsimp only
      refine Aa.out (Vb (EM _ vm.sm) (Aa.gd (Ia (by omega) (by omega)) (Aa.gd (Ia (by omega) (by rw [List.length_set];omega)) (.some rfl))))
    unfold Nq
    simp only [Ta,Lg,Nw,Ei]
    refine Aa.no rfl (Aa.no rfl (Aa.no rfl (Aa.gd rfl (Aa.gd rfl (Aa.gd (Ia (by omega) (by omega)) (Aa.gd (Ia (by omega) (by omega)) (Aa.ite (fun hc=>?_) (fun hc=>.some ?_))))))))
    ·rw [if_pos hc]
     refine Aa.gd (Ia (by omega) (by omega)) (Aa.gd (Ia (by omega) (by omega)) (Vb (tJ _ _ va.so va.sm vb.sm (by omega) (by omega)) ?_))
     exact Vb b25 (.some rfl)
    ·rw [if_neg (by rw [hc];simp)];rfl
  by_cases h345:kind=3∨kind=4∨kind=5
  case neg =>
    have h3:kind≠3:=fun e=>h345 (.inl e)
    have h4:kind≠4:=fun e=>h345 (.inr (.inl e))
    have h5:kind≠5:=fun e=>h345 (.inr (.inr e))
    refine Aa.no (dF h3) (Aa.no (dF h4) (Aa.no (dF h5) (Aa.no (dF h6) (.some ?_))))
    rw [bO h1 h2 h3 h4 h5 h6];rfl
  cases hin:Mc a 0 ((w.net.length:Int)-1) with
  |false =>
   have hc:=Rh hin
   rcases h345 with rfl|rfl|rfl
   ·rw [UM,if_neg (by omega)]
    exact Aa.gd rfl (Aa.no rfl (Aa.no rfl (Aa.no rfl (Aa.no rfl (.some rfl)))))
   ·rw [VM,if_neg (by omega)]
    exact Aa.no rfl (Aa.gd rfl (Aa.no rfl (Aa.no rfl (Aa.no rfl (.some rfl)))))
   ·rw [XM,if_neg (by omega)]
    exact Aa.no rfl (Aa.no rfl (Aa.gd rfl (Aa.no rfl (Aa.no rfl (.some rfl)))))
  |true =>
   have hc:=Ui hin
   obtain ⟨k,rfl⟩:=Int.eq_ofNat_of_zero_le hc.1
   have hkn:k<w.net.length:=by omega
   have hm:Ob w.net k∈w.net:=Um hkn
   have hP:=h.poss _ (.inr ⟨_,hm,rfl⟩)
   have ht:=h.tgt _ hm
   have hV:=hP.1
   have w1:wrap64 ((k:Int)+1)=((k:Int)+1):=Ua (by omega) (by omega)
   rcases h345 with rfl|rfl|rfl
   ·rw [UM,if_pos ⟨by omega,by omega⟩,Ta]
    obtain ⟨t,ht'⟩:=Int.eq_ofNat_of_zero_le ht.1
    have hd:=h.ok t (by omega)
    have hdl:=hd.len
    have b11:Qq (w.n,w.ls,w.up,w.sq,w.db,3,(k:Int),(t:Int),(Ob w.net k).p.o,(Ob w.net k).p.s,(Ob w.net k).p.e,w.net,())=some (.inl (w.n,w.ls,w.up,w.sq,w.db,(t:Int),(Ob w.net k).p.o,(Ob w.net k).p.s,(Ob w.net k).p.e,w.net.eraseIdx k,())):=by
      unfold Qq
      simp only [w1]
      exact Aa.out (Vb (bR w.net k hkn hnet) (.some rfl))
    clear w1
    simp only [Ta,Zo]
    refine Aa.gd rfl (Aa.gd rfl (Aa.gd (Ia (by omega) (by omega)) ?_))
    rw [ht',Ta]
    refine Vb b11 ?_
    simp only [Ta,Ei]
    refine Aa.gd (Ia (by omega) (by omega)) (Vb (XT (Ab w.db t) (Ob w.net k).p hd.so hd.sm hV.sm (by omega)) ?_)
    dsimp only
    refine Aa.gd (Ia (by omega) (by omega)) ?_
    unfold Mq
    dsimp only
    refine Aa.ite (fun hp=>?_) (fun hp=>.some ?_)
    ·have hp:=oT hp
     rw [if_pos hp]
     exact Vb (bH { w with db:=w.db.set t (Ad (Ab w.db t) (Ob w.net k).p),net:=w.net.eraseIdx k } (t:Int) (Ob w.net k).p.o (Ob w.net k).p h.g h.up (by show (w.net.eraseIdx k).length≤16;rw [List.length_eraseIdx];split<;>omega) hV.sm) (.some rfl)
    ·have hp:=oF hp
     rw [if_neg hp]
     have:Ad (Ab w.db t) (Ob w.net k).p=Ab w.db t:=by unfold Ad;rw [if_neg hp]
     rw [this]
     have e:w.db.set t (Ab w.db t)=w.db:=uF (by omega)
     rw [e];rfl
   ·rw [VM,if_pos ⟨by omega,by omega⟩,Ta]
    have b17:Jl (w.n,w.ls,w.up,w.sq,w.db,4,(k:Int),w.net,())=some (.inl (wt { w with net:=w.net.eraseIdx k })):=by
      unfold Jl
      simp only [w1]
      exact Aa.out (Vb (bR w.net k hkn hnet) (.some rfl))
    exact Aa.no rfl (Aa.gd rfl (Aa.gd rfl (Vb b17 (.some rfl))))
   ·rw [XM,if_pos ⟨by omega,by omega⟩,Ta]
    refine Aa.no rfl (Aa.no rfl (Aa.gd rfl (Aa.gd rfl (Aa.ite (fun hf=>?_) (fun hf=>.some ?_)))))
    ·have hf:=oT hf
     rw [if_pos (by omega)]
     have b20:Dh (w.n,w.ls,w.up,w.sq,w.db,5,(k:Int),w.net,())=some (.inl (wt { w with net:=w.net++[Ob w.net k] })):=by
       unfold Dh
       simp only [Ta,Zo,AC _ _ _ hV.sm,Option.bind_some]
       exact Aa.out (Aa.gd (Ia (by omega) (by omega)) (Aa.gd (Ia (by omega) (by omega)) (Aa.gd (decide_eq_true (by simp only [List.length_singleton];omega)) (.some rfl))))
     exact Vb b20 (.some rfl)
    ·have hf:=oF hf
     rw [if_neg (by omega)];rfl
end
end
section
open Go.RowKit
noncomputable def poss (w:Wd) (l:Ls):Bool:=@decide (Xg w Hc l) (Classical.propDecidable _)
theorem Rq {w:Wd} {l:Ls}:poss w l=true↔Xg w Hc l:=by unfold poss;simp
theorem NC {w:Wd} {l:Ls}:poss w l=false↔¬Xg w Hc l:=by unfold poss;simp
theorem bS (ls:List Lk) (a b:Int):Kc ls a b<ls.length:=by
  rcases Uy ls a b with ⟨h,_⟩|⟨k,h,hk,_⟩<;>omega
section
variable {w:Wd}
set_option maxHeartbeats 2000000 in
theorem uR (g:GV w.n w.ls) (hu:w.up.length=w.ls.length) (hsq:(w.sq.length:Int)=w.n) (l:Ls) (hl:Sm l.e):BM (w.n,w.ls,w.up,w.sq,w.db,w.net,l.o,l.s,l.e,())=some (poss w l,()):=by
  have h14:=g.2.2.1
  have fl:Wa l.e:=by unfold Wa;unfold Sm at hl;omega
  have fls:Wa w.ls:=by unfold Wa;omega
  unfold Sm at hl
  have no:¬Xg w Hc l→poss w l=false:=fun h=>NC.2 h
  cases l with|mk o s es =>
  cases w with|mk n ls up sq db net =>
  dsimp only at *
  unfold BM
  dsimp only
  rw [aA o s es fl]
  refine Aa.out (Aa.ite (fun hc=>.some ?_) (fun hc=>?_))
  ·rw [no fun h=>oF (show Ch o s es=false by simpa using hc) h.1]
  have hV:Cf ⟨o,s,es⟩:=oT (show Ch o s es=true by simpa using hc)
  have h0:0≤o:=hV.1
  refine Aa.ite (fun hc=>.some ?_) (fun hc=>?_)
  ·have hc:=oT hc
   rw [no fun h=>by have:o<n:=h.2.1;omega]
  have hn:=oF hc
  simp only [Kg]
  refine Aa.gd (Ia (by omega) (by omega)) (Aa.ite (fun hc=>.some ?_) (fun hc=>?_))
  ·have hc:iz sq o.toNat<s:=oT hc
   rw [no fun h=>by have:s≤iz sq o.toNat:=h.2.2.1;omega]
  have hs:¬iz sq o.toNat<s:=oF hc
  try simp only [La]
  refine Aa.bnd (R:=fun r=>match r with| .inl x=>x=(n,ls,up,sq,db,net,o,s,es,())∧∀e∈es,lc ls o e.n=some e.c| .inr y=>y=(false,())∧¬∀e∈es,lc ls o e.n=some e.c) ?_ ?_
  ·refine Aa.count es.length (fun k t=>t=(es,(es.length:Int),(k:Int),n,ls,up,sq,db,net,o,s,es,())∧∀i,i<k→lc ls o (en es i).n=some (en es i).c) ?_ (Nat.zero_le _) (Cc (by omega)) ⟨rfl,fun i hi=>by omega⟩
   rintro k t hk ⟨rfl,hok⟩
   by_cases hlt:k<es.length
   ·have hm:en es k∈es:=by rw [Ew hlt];exact List.getElem_mem hlt
    simp (disch:=omega) only [UB,Ro,Lg,Ta,Ua,La,W9 _ _ _ _ fls,Option.bind_some]
    refine Aa.gd (decide_eq_true (by omega)) (Aa.gd (Ia (by omega) (by omega)) (Aa.ite (fun hc=>.some ⟨rfl,?_⟩) (fun hc=>?_)))
    ·have hc:=oT hc
     intro h
     have:=(Vv (h _ hm)).1
     omega
    ·have hc:=oF hc
     have hlo:=bS ls o (en es k).n
     repeat refine Aa.gd (Ia (by omega) (by omega)) ?_
     refine Aa.ite (fun hc2=>.some ⟨rfl,?_⟩) (fun hc2=>.some ⟨hlt,rfl,fun i hi=>?_⟩)
     ·have hc2:¬(lk ls (Kc ls o (en es k).n).toNat).c=(en es k).c:=by simpa using hc2
      intro h
      have:=(Vv (h _ hm)).2.2
      rw [this] at hc2
      exact hc2 rfl
     ·have hc2:(lk ls (Kc ls o (en es k).n).toNat).c=(en es k).c:=by simpa using hc2
      by_cases e:i<k
      ·exact hok i e
      ·obtain rfl:i=k:=by omega
       unfold lc
       rw [if_pos (by omega),hc2]
   ·obtain rfl:k=es.length:=by omega
    unfold UB
    simp only [La]
    refine Aa.no (dF (by omega)) (.some ⟨rfl,fun e he=>?_⟩)
    obtain ⟨i,hi,rfl⟩:=List.getElem_of_mem he
    rw [←Ew hi]
    exact hok i hi
  rintro (r|r) hr
  case inr =>
    obtain ⟨rfl,hr⟩:=hr
    exact .some (by rw [no fun h=>hr h.2.2.2.1])
  obtain ⟨rfl,hr⟩:=hr
  simp only [Kg]
  refine Aa.gd (Ia (by omega) (by omega)) (Aa.ite (fun hc=>.some ?_) (fun hc=>?_))
  ·have hc:s<iz sq o.toNat:=oT hc
   rw [Rq.2 ⟨hV,by show o<n;omega,by show s≤iz sq o.toNat;omega,hr,.inl hc⟩]
  have hlt:¬s<iz sq o.toNat:=oF hc
  refine Vb (LU ⟨n,ls,up,sq,db,net⟩ hu (by show ls.length≤1000;omega)) ?_
  dsimp only
  refine Vb (bJ (Rm g up) o s) ?_
  have hel:=aM (N:=n.toNat) (ls:=Pc ls up) o
  have hn8:=g.2.1
  refine Vb (aX ⟨o,s,es⟩ ⟨o,s,De (Pc ls up) n.toNat o⟩ fl (by unfold Wa;dsimp only;omega)) (.some ?_)
  by_cases he:es=De (Pc ls up) n.toNat o
  ·rw [Rq.2 ⟨hV,by show o<n;omega,by show s≤iz sq o.toNat;omega,hr,.inr (.inl he)⟩]
   try dsimp only
   rw [decide_eq_true (by rw [←he])]
  ·rw [no fun h=>by
     rcases h.2.2.2.2 with h|h|h
     ·exact hlt h
     ·exact he h
     ·exact h]
   try dsimp only
   rw [dF (by intro e;injection e with _ _ e;exact he e)]
set_option maxHeartbeats 2000000 in
theorem bT (g:GV w.n w.ls) (hu:w.up.length=w.ls.length) (hsq:(w.sq.length:Int)=w.n) (l:Ls) (hl:Sm l.e):FB (w.n,w.ls,w.up,w.sq,w.db,w.net,l.o,l.s,l.e,())=some (poss w l,()):=by
  have h14:=g.2.2.1
  have fl:Wa l.e:=by unfold Wa;unfold Sm at hl;omega
  have fls:Wa w.ls:=by unfold Wa;omega
  unfold Sm at hl
  have no:¬Xg w Hc l→poss w l=false:=fun h=>NC.2 h
  cases l with|mk o s es =>
  cases w with|mk n ls up sq db net =>
  dsimp only at *
  unfold FB
  dsimp only
  rw [aB o s es fl]
  refine Aa.out (Aa.ite (fun hc=>.some ?_) (fun hc=>?_))
  ·rw [no fun h=>oF (show Ch o s es=false by simpa using hc) h.1]
  have hV:Cf ⟨o,s,es⟩:=oT (show Ch o s es=true by simpa using hc)
  have h0:0≤o:=hV.1
  refine Aa.ite (fun hc=>.some ?_) (fun hc=>?_)
  ·have hc:=oT hc
   rw [no fun h=>by have:o<n:=h.2.1;omega]
  have hn:=oF hc
  simp only [Kg]
  refine Aa.gd (Ia (by omega) (by omega)) (Aa.ite (fun hc=>.some ?_) (fun hc=>?_))
  ·have hc:iz sq o.toNat<s:=oT hc
   rw [no fun h=>by have:s≤iz sq o.toNat:=h.2.2.1;omega]
  have hs:¬iz sq o.toNat<s:=oF hc
  try simp only [La]
  refine Aa.bnd (R:=fun r=>match r with| .inl x=>x=(n,ls,up,sq,db,net,o,s,es,())∧∀e∈es,lc ls o e.n=some e.c| .inr y=>y=(false,())∧¬∀e∈es,lc ls o e.n=some e.c) ?_ ?_
  ·refine Aa.count es.length (fun k t=>t=((k:Int),n,ls,up,sq,db,net,o,s,es,())∧∀i,i<k→lc ls o (en es i).n=some (en es i).c) ?_ (Nat.zero_le _) (Cc (by omega)) ⟨rfl,fun i hi=>by omega⟩
   rintro k t hk ⟨rfl,hok⟩
   by_cases hlt:k<es.length
   ·have hm:en es k∈es:=by rw [Ew hlt];exact List.getElem_mem hlt
    simp (disch:=omega) only [EB,Ro,Lg,Ta,Ua,La,SS _ _ _ _ fls,Option.bind_some]
    refine Aa.gd (decide_eq_true (by omega)) (Aa.gd (Ia (by omega) (by omega)) (Aa.ite (fun hc=>.some ⟨rfl,?_⟩) (fun hc=>?_)))
    ·have hc:=oT hc
     intro h
     have:=(Vv (h _ hm)).1
     omega
    ·have hc:=oF hc
     have hlo:=bS ls o (en es k).n
     repeat refine Aa.gd (Ia (by omega) (by omega)) ?_
     refine Aa.ite (fun hc2=>.some ⟨rfl,?_⟩) (fun hc2=>.some ⟨hlt,rfl,fun i hi=>?_⟩)
     ·have hc2:¬(lk ls (Kc ls o (en es k).n).toNat).c=(en es k).c:=by simpa using hc2
      intro h
      have:=(Vv (h _ hm)).2.2
      rw [this] at hc2
      exact hc2 rfl
     ·have hc2:(lk ls (Kc ls o (en es k).n).toNat).c=(en es k).c:=by simpa using hc2
      by_cases e:i<k
      ·exact hok i e
      ·obtain rfl:i=k:=by omega
       unfold lc
       rw [if_pos (by omega),hc2]
   ·obtain rfl:k=es.length:=by omega
    unfold EB
    simp only [La]
    refine Aa.no (dF (by omega)) (.some ⟨rfl,fun e he=>?_⟩)
    obtain ⟨i,hi,rfl⟩:=List.getElem_of_mem he
    rw [←Ew hi]
    exact hok i hi
  rintro (r|r) hr
  case inr =>
    obtain ⟨rfl,hr⟩:=hr
    exact .some (by rw [no fun h=>hr h.2.2.2.1])
  obtain ⟨rfl,hr⟩:=hr
  simp only [Kg]
  refine Aa.gd (Ia (by omega) (by omega)) (Aa.ite (fun hc=>.some ?_) (fun hc=>?_))
  ·have hc:s<iz sq o.toNat:=oT hc
   rw [Rq.2 ⟨hV,by show o<n;omega,by show s≤iz sq o.toNat;omega,hr,.inl hc⟩]
  have hlt:¬s<iz sq o.toNat:=oF hc
  refine Vb (MU ⟨n,ls,up,sq,db,net⟩ hu (by show ls.length≤1000;omega)) ?_
  dsimp only
  refine Vb (bK (Rm g up) o s) ?_
  have hel:=aM (N:=n.toNat) (ls:=Pc ls up) o
  have hn8:=g.2.1
  refine Vb (aY ⟨o,s,es⟩ ⟨o,s,De (Pc ls up) n.toNat o⟩ fl (by unfold Wa;dsimp only;omega)) (.some ?_)
  by_cases he:es=De (Pc ls up) n.toNat o
  ·rw [Rq.2 ⟨hV,by show o<n;omega,by show s≤iz sq o.toNat;omega,hr,.inr (.inl he)⟩]
   try dsimp only
   rw [decide_eq_true (by rw [←he])]
  ·rw [no fun h=>by
     rcases h.2.2.2.2 with h|h|h
     ·exact hlt h
     ·exact he h
     ·exact h]
   try dsimp only
   rw [dF (by intro e;injection e with _ _ e;exact he e)]
end
end
section
open Go.RowKit
noncomputable def wv (w:Wd):Bool:=@decide (WV w Hc) (Classical.propDecidable _)
theorem OC {w:Wd}:wv w=true↔WV w Hc:=by unfold wv;simp
theorem bU {w:Wd}:wv w=false↔¬WV w Hc:=by unfold wv;simp
def Wc (w:Wd):List Ls:=w.db.flatten++w.net.map (·.p)
theorem uS {db:List (List Ls)} {i:Nat} (h:i<db.length):Ab db i∈db:=by
  unfold Ab;rw [List.getD,List.getElem?_eq_getElem h];exact List.getElem_mem h
theorem Sq {w:Wd} {l:Ls}:Ph w l↔l∈Wc w:=by
  unfold Ph Wc
  rw [List.mem_append,List.mem_flatten,List.mem_map]
  constructor
  ·rintro (⟨i,hi,h⟩|⟨p,hp,rfl⟩)
   ·exact .inl ⟨_,uS hi,h⟩
   ·exact .inr ⟨p,hp,rfl⟩
  ·rintro (⟨d,hd,h⟩|⟨p,hp,rfl⟩)
   ·obtain ⟨i,hi,rfl⟩:=List.getElem_of_mem hd
    refine .inl ⟨i,hi,?_⟩
    unfold Ab;rw [List.getD,List.getElem?_eq_getElem hi];exact h
   ·exact .inr ⟨p,hp,rfl⟩
def Ym (w:Wd) (i:Nat):Prop:=(1≤iz w.sq i∧iz w.sq i≤99)∧Ke (Ab w.db i)
def PC (w:Wd) (i:Nat):Prop:=∃l∈Ab w.db i,l.o=i∧l.s=iz w.sq i
def Qj (xs:List Ls) (i:Nat):Prop:=∀j,j<i→(Ya xs j).o=(Ya xs i).o→(Ya xs j).s=(Ya xs i).s→Ya xs j=Ya xs i
theorem bV {w:Wd} (g:GV w.n w.ls) (hu:w.up.length=w.ls.length) (hs:(w.sq.length:Int)=w.n) (hd:(w.db.length:Int)=w.n) (hn:w.net.length≤16) (nd:∀i,i<w.db.length→Ym w i) (ow:∀i,i<w.db.length→PC w i) (tg:∀i,i<w.net.length→0≤(Ob w.net i).t∧(Ob w.net i).t<w.n) (ps:∀i,i<(Wc w).length→Xg w Hc (Ya (Wc w) i)) (ag:∀i,i<(Wc w).length→Qj (Wc w) i):WV w Hc:=by
  have idx:∀l,Ph w l→∃i,i<(Wc w).length∧Ya (Wc w) i=l:=fun l hl=>by
    obtain ⟨i,hi,rfl⟩:=List.getElem_of_mem (Sq.1 hl)
    exact ⟨i,hi,Hd hi⟩
  refine ⟨g,hu,hs,hd,hn,fun i hi=>(nd i (by omega)).1,fun i hi=>(nd i hi).2,ow,fun l hl=>?_,fun x y hx hy e1 e2=>?_,fun p hp=>?_⟩
  ·obtain ⟨i,hi,rfl⟩:=idx l hl
   exact ps i hi
  ·obtain ⟨i,hi,rfl⟩:=idx x hx
   obtain ⟨j,hj,rfl⟩:=idx y hy
   rcases Nat.lt_trichotomy i j with h|h|h
   ·exact ag j hj i h e1 e2
   ·rw [h]
   ·exact (ag i hi j h e1.symm e2.symm).symm
  ·obtain ⟨i,hi,rfl⟩:=List.getElem_of_mem hp
   have:=tg i hi
   have e:Ob w.net i=w.net[i]:=by simp [Ob,List.getD,hi]
   rwa [e] at this
section
variable {w:Wd}
theorem WV.nd (h:WV w Hc) {i:Nat} (hi:i<w.db.length):Ym w i:=⟨h.rng i (by have:=h.sq;have:=h.db;omega),h.ok i hi⟩
theorem WV.ps (h:WV w Hc) {i:Nat} (hi:i<(Wc w).length):Xg w Hc (Ya (Wc w) i):=h.poss _ (Sq.2 (Mg hi))
theorem WV.ag (h:WV w Hc) {i:Nat} (hi:i<(Wc w).length):Qj (Wc w) i:=fun j hj e1 e2=>h.agr _ _ (Sq.2 (Mg (by omega))) (Sq.2 (Mg hi)) e1 e2
theorem YM {db:List (List Ls)} {k:Nat} (hk:k≤db.length) (h:∀i,i<k→(Ab db i).length≤8):(db.take k).flatten.length≤8*k:=by
  induction k with
  |zero=>simp
  |succ k ih =>
   have:=ih (by omega) fun i hi=>h i (by omega)
   have h2:=h k (by omega)
   rw [←SM (by omega),List.flatten_append,List.length_append,List.flatten_singleton]
   omega
theorem bW {db:List (List Ls)} {k:Nat} (hk:k<db.length):(db.take (k+1)).flatten=(db.take k).flatten++Ab db k:=by
  rw [←SM hk,List.flatten_append,List.flatten_singleton]
theorem bX {net:List Pk} {k:Nat} (hk:k<net.length):(net.take (k+1)).map (·.p)=(net.take k).map (·.p)++[(Ob net k).p]:=by
  rw [←NU hk,List.map_append];rfl
theorem Ym.sm {i:Nat} (h:Ym w i):(Ab w.db i).length≤8:=h.2.len
theorem uT (x l:Ls) (hx:Wa x.e) (hl:Wa l.e):UL (x.o,x.s,x.e,l.o,l.s,l.e,())=some (decide (x.o=l.o∧x.s=l.s∧x≠l),()):=by
  unfold UL
  by_cases h1:x.o=l.o
  ·by_cases h2:x.s=l.s
   ·simp only [decide_eq_true h1,decide_eq_true h2,cond_true]
    refine Aa.out (Vb (aX x l hx hl) (.some ?_))
    by_cases h3:x=l
    ·simp [h3]
    ·simp [h1,h2,h3]
   ·simp [h1,h2]
  ·simp [h1]
theorem uU (xs:List Ls) (l:Ls) (h:xs.length≤100000) (he:∀x∈xs,Wa x.e) (hl:Wa l.e):Aa (XL (xs,l.o,l.s,l.e,())) fun r=>∃b:Bool,r=(b,())∧(b=true↔∃x∈xs,x.o=l.o∧x.s=l.s∧x≠l):=by
  unfold XL UT
  refine Aa.bnd (R:=fun r=>∃z:Int,r=(z,())∧(0≤z↔∃x∈xs,x.o=l.o∧x.s=l.s∧x≠l)) (Aa.bnd (R:=fun r=>match r with| .inl _=>¬∃x∈xs,x.o=l.o∧x.s=l.s∧x≠l| .inr y=>∃k:Nat,y=((k:Int),())∧∃x∈xs,x.o=l.o∧x.s=l.s∧x≠l) ?_ ?_) ?_
  ·refine Aa.count xs.length (fun k t=>t=(xs,l.o,l.s,l.e,(xs.length:Int),(k:Int),())∧∀i,i<k→¬((Ya xs i).o=l.o∧(Ya xs i).s=l.s∧Ya xs i≠l)) ?_ (Nat.zero_le _) (Cc (by omega)) ⟨by simp [La],fun i hi=>by omega⟩
   rintro k t hk ⟨rfl,hok⟩
   by_cases hlt:k<xs.length
   ·simp (disch:=omega) only [NB,Wg,Ta,Ua,uT _ l (he _ (Mg hlt)) hl,Option.bind_some]
    refine Aa.gd (decide_eq_true (by omega)) (Aa.gd (Ia (by omega) (by omega)) (Aa.ite (fun hc=>.some ?_) (fun hc=>.some ⟨hlt,rfl,fun i hi=>?_⟩)))
    ·exact ⟨k,rfl,_,Mg hlt,oT hc⟩
    ·by_cases e:i<k
     ·exact hok i e
     ·obtain rfl:i=k:=by omega
      exact oF hc
   ·obtain rfl:k=xs.length:=by omega
    unfold NB
    refine Aa.no (dF (by first|omega|(dsimp only;omega))) (.some ?_)
    rintro ⟨x,hx,hh⟩
    obtain ⟨i,hi,rfl⟩:=List.getElem_of_mem hx
    rw [←Hd hi] at hh
    exact hok i hi hh
  ·rintro (r|r) hr
   ·exact .some ⟨-1,rfl,fun h=>by omega,fun h=>(hr h).elim⟩
   ·obtain ⟨k,rfl,hx⟩:=hr
    exact .some ⟨k,rfl,fun _=>hx,fun _=>by omega⟩
  ·rintro _ ⟨z,rfl,hz⟩
   exact .some ⟨decide (0≤z),rfl,by rw [decide_eq_true_eq];exact hz⟩
theorem uV {xs:List Ls} {k:Nat} (hk:k<xs.length):(∃x∈xs.take k,x.o=(Ya xs k).o∧x.s=(Ya xs k).s∧x≠Ya xs k)↔¬Qj xs k:=by
  constructor
  ·rintro ⟨x,hx,h1,h2,h3⟩ h
   obtain ⟨j,hj,rfl⟩:=List.getElem_of_mem hx
   rw [List.length_take] at hj
   rw [List.getElem_take,←Hd (by omega)] at h1 h2 h3
   exact h3 (h j (by omega) h1 h2)
  ·intro h
   unfold Qj at h
   simp only [Classical.not_forall] at h
   obtain ⟨j,hj,h1,h2,h3⟩:=h
   refine ⟨Ya xs j,?_,h1,h2,h3⟩
   rw [Hd (by omega)]
   exact List.mem_iff_getElem.2 ⟨j,by rw [List.length_take];omega,List.getElem_take⟩
set_option maxHeartbeats 2000000 in
theorem uW (h:Xm w):DM (w.n,w.ls,w.up,w.sq,w.db,w.net,())=some (wv w,()):=by
  have h1:=h.ls
  have h2:=h.up
  have h3:=h.sq
  have h4:=h.db
  have h5:=h.net
  have no:¬WV w Hc→(false,())=(wv w,()):=fun q=>by rw [bU.2 q]
  unfold DM
  dsimp only
  rw [rE _ _ (show Wa w.ls by unfold Wa;omega)]
  simp only [La]
  refine Aa.out (Aa.ite (fun hc=>.some (no fun q=>?_)) (fun hc=>?_))
  ·have hc:gv w.n w.ls=false:=by simpa using hc
   exact oF hc q.g
  have g:GV w.n w.ls:=oT (show gv w.n w.ls=true by simpa using hc)
  refine Aa.ite (fun hc=>.some (no fun q=>?_)) (fun hc=>?_)
  ·have hc:¬(w.up.length:Int)=w.ls.length:=by simpa using hc
   have:=q.up;omega
  have hu:(w.up.length:Int)=w.ls.length:=by simpa using hc
  refine Aa.ite (fun hc=>.some (no fun q=>?_)) (fun hc=>?_)
  ·have hc:¬(w.sq.length:Int)=w.n:=by simpa using hc
   have:=q.sq;omega
  have hs:(w.sq.length:Int)=w.n:=by simpa using hc
  refine Aa.ite (fun hc=>.some (no fun q=>?_)) (fun hc=>?_)
  ·have hc:¬(w.db.length:Int)=w.n:=by simpa using hc
   have:=q.db;omega
  have hd:(w.db.length:Int)=w.n:=by simpa using hc
  refine Aa.ite (fun hc=>.some (no fun q=>?_)) (fun hc=>?_)
  ·have hc:=oT hc
   have:=q.net;omega
  have hn:=oF hc
  have hn8:=g.2.1
  refine Aa.bnd (R:=fun r=>match r with| .inl x=>x=(w.n,w.n,w.ls,w.up,w.sq,w.db,w.net,w.db.flatten,())∧∀i,i<w.db.length→Ym w i∧PC w i| .inr y=>y=(false,())∧¬WV w Hc) ?_ ?_
  ·refine Aa.count w.db.length (fun k t=>t=(w.n,w.db,(w.db.length:Int),(k:Int),w.n,w.ls,w.up,w.sq,w.db,w.net,(w.db.take k).flatten,())∧∀i,i<k→Ym w i∧PC w i) ?_ (Nat.zero_le _) (Cc (by omega)) ⟨by simp,fun i hi=>by omega⟩
   rintro k t hk ⟨rfl,hok⟩
   by_cases hlt:k<w.db.length
   ·have hsm:=h.dbs k hlt
    simp (disch:=omega) only [XB,Ei,Kg,Wg,Ta,Ua,Gq,rH _ hsm.fits hsm.fe,Option.bind_some]
    refine Aa.gd (decide_eq_true (by omega)) (Aa.gd (Ia (by omega) (by omega)) (Aa.gd (Ia (by omega) (by omega)) (Aa.ite (fun hc=>.some ⟨rfl,fun q=>?_⟩) (fun hc=>?_))))
    ·have hc:=Rh (show Mc (iz w.sq k) 1 99=false by simpa using hc)
     exact hc (q.rng k (by omega))
    have hr:=Ui (show Mc (iz w.sq k) 1 99=true by simpa using hc)
    refine Aa.ite (fun hc=>.some ⟨rfl,fun q=>?_⟩) (fun hc=>?_)
    ·have hc:Ai (Ab w.db k)=false:=by simpa using hc
     exact oF hc (q.ok k hlt)
    have hv:Ke (Ab w.db k):=oT (show Ai (Ab w.db k)=true by simpa using hc)
    have h8:=hv.len
    obtain ⟨i,hi,hp⟩:=aJ (Ab w.db k) (k:Int) hv.srt (by omega)
    have hfd:=aK hv.srt hi
    refine Vb hp ?_
    dsimp only
    simp only [Ta]
    cases hh:Kj (Ab w.db k) (k:Int) i with
    |false =>
     rw [hh,if_neg (by simp)] at hfd
     refine Aa.gd rfl (.some ⟨rfl,fun q=>?_⟩)
     obtain ⟨l,hl,e1,_⟩:=q.own k hlt
     exact Gw.1 hfd l hl e1
    |true =>
     rw [hh,if_pos rfl] at hfd
     obtain ⟨hm,ho⟩:=(Oj hv.so).1 hfd
     obtain ⟨hil,_⟩:=oT hh
     refine Aa.no rfl (Aa.gd (Ia (by omega) (by omega)) (Aa.gd (Ia (by omega) (by omega)) (Aa.ite (fun hc=>.some ⟨rfl,fun q=>?_⟩) (fun hc=>?_))))
     ·have hc:¬(Ya (Ab w.db k) i).s=iz w.sq k:=by simpa using hc
      obtain ⟨l,hl,e1,e2⟩:=q.own k hlt
      have:=(Oj hv.so).2 ⟨hl,e1⟩
      rw [hfd] at this
      injection this with this
      rw [this] at hc
      exact hc e2
     ·have hc:(Ya (Ab w.db k) i).s=iz w.sq k:=by simpa using hc
      have hfl:=YM (db:=w.db) (k:=k) (by omega) fun i hi=>(hok i hi).1.sm
      refine Aa.gd (decide_eq_true (by omega)) (.some ⟨hlt,?_,fun j hj=>?_⟩)
      ·rw [bW hlt];rfl
      ·by_cases e:j<k
       ·exact hok j e
       ·obtain rfl:j=k:=by omega
        exact ⟨⟨hr,hv⟩,_,hm,ho,hc⟩
   ·obtain rfl:k=w.db.length:=by omega
    unfold XB
    refine Aa.no (dF (by first|omega|(dsimp only;omega))) (.some ⟨?_,hok⟩)
    rw [List.take_length]
  rintro (r|r) hr
  case inr =>
    obtain ⟨rfl,hr⟩:=hr
    exact .some (no hr)
  obtain ⟨rfl,hnd⟩:=hr
  have hfl:w.db.flatten.length≤8*w.db.length:=by
    have:=YM (db:=w.db) (k:=w.db.length) (by omega) fun i hi=>(hnd i hi).1.sm
    rwa [List.take_length] at this
  dsimp only
  refine Aa.bnd (R:=fun r=>match r with| .inl x=>x=(w.n,w.ls,w.up,w.sq,w.db,w.net,Wc w,())∧∀i,i<w.net.length→0≤(Ob w.net i).t∧(Ob w.net i).t<w.n| .inr y=>y=(false,())∧¬WV w Hc) ?_ ?_
  ·refine Aa.count w.net.length (fun k t=>t=(w.n,w.net,(w.net.length:Int),(k:Int),w.n,w.ls,w.up,w.sq,w.db,w.net,w.db.flatten++(w.net.take k).map (·.p),())∧∀i,i<k→0≤(Ob w.net i).t∧(Ob w.net i).t<w.n) ?_ (Nat.zero_le _) (Cc (by omega)) ⟨by simp,fun i hi=>by omega⟩
   rintro k t hk ⟨rfl,hok⟩
   have hn1:=g.1
   by_cases hlt:k<w.net.length
   ·simp (disch:=omega) only [YB,Zo,Ta,Ua,Gq,Option.bind_some]
    refine Aa.gd (decide_eq_true (by omega)) (Aa.gd (Ia (by omega) (by omega)) (Aa.ite (fun hc=>.some ⟨rfl,fun q=>?_⟩) (fun hc=>?_)))
    ·have hc:=Rh (show Mc (Ob w.net k).t 0 (w.n-1)=false by simpa using hc)
     have:=q.tgt _ (Um hlt)
     omega
    ·have hc:=Ui (show Mc (Ob w.net k).t 0 (w.n-1)=true by simpa using hc)
     refine Aa.gd (decide_eq_true (by simp only [List.length_append,List.length_map,List.length_take,List.length_singleton];omega)) (.some ⟨hlt,?_,fun j hj=>?_⟩)
     ·rw [bX hlt,←List.append_assoc];rfl
     ·by_cases e:j<k
      ·exact hok j e
      ·obtain rfl:j=k:=by omega
       omega
   ·obtain rfl:k=w.net.length:=by omega
    unfold YB
    refine Aa.no (dF (by first|omega|(dsimp only;omega))) (.some ⟨?_,hok⟩)
    rw [List.take_length];rfl
  rintro (r|r) hr
  case inr =>
    obtain ⟨rfl,hr⟩:=hr
    exact .some (no hr)
  obtain ⟨rfl,htg⟩:=hr
  have hal:(Wc w).length≤1000:=by unfold Wc;rw [List.length_append,List.length_map];omega
  have hfe:∀x∈Wc w,Sm x.e:=fun x hx=>by
    rcases Sq.2 hx with ⟨i,hi,hx⟩|⟨p,hp,rfl⟩
    ·exact (h.dbs i hi).2 x hx
    ·obtain ⟨i,hi,rfl⟩:=List.getElem_of_mem hp
     have:=h.pks i hi
     have e:Ob w.net i=w.net[i]:=by simp [Ob,List.getD,hi]
     rwa [e] at this
  have smf:∀l:List En,Sm l→Wa l:=fun l hl=>by unfold Wa;unfold Sm at hl;omega
  dsimp only
  refine Aa.bnd (R:=fun r=>match r with| .inl x=>∀i,i<(Wc w).length→Xg w Hc (Ya (Wc w) i)∧Qj (Wc w) i| .inr y=>y=(false,())∧¬WV w Hc) ?_ ?_
  ·refine Aa.count (Wc w).length (fun k t=>t=(Wc w,Wc w,((Wc w).length:Int),(k:Int),w.n,w.ls,w.up,w.sq,w.db,w.net,())∧∀i,i<k→Xg w Hc (Ya (Wc w) i)∧Qj (Wc w) i) ?_ (Nat.zero_le _) (Cc (by omega)) ⟨by simp,fun i hi=>by omega⟩
   rintro k t hk ⟨rfl,hok⟩
   by_cases hlt:k<(Wc w).length
   ·have hle:=hfe _ (Mg hlt)
    simp (disch:=omega) only [ZB,Wg,Ta,Ua,uR g (show w.up.length=w.ls.length by omega) hs _ hle,Option.bind_some,Int.toNat_zero,List.drop_zero,Nat.sub_zero]
    refine Aa.gd (decide_eq_true (by omega)) (Aa.gd (Ia (by omega) (by omega)) (Aa.ite (fun hc=>.some ⟨rfl,fun q=>?_⟩) (fun hc=>?_)))
    ·have hc:poss w (Ya (Wc w) k)=false:=by simpa using hc
     exact NC.1 hc (q.ps hlt)
    have hp:=Rq.1 (show poss w (Ya (Wc w) k)=true by simpa using hc)
    refine Aa.gd (PU (by omega) (by omega) (by omega)) (Aa.bnd (uU ((Wc w).take k) (Ya (Wc w) k) (by rw [List.length_take];omega) (fun x hx=>smf _ (hfe x (List.mem_of_mem_take hx))) (smf _ hle)) ?_)
    rintro _ ⟨b,rfl,hb⟩
    rw [uV hlt] at hb
    refine Aa.ite (fun hc3=>.some ⟨rfl,fun q=>hb.1 hc3 (q.ag hlt)⟩) (fun hc3=>.some ⟨hlt,rfl,fun j hj=>?_⟩)
    by_cases e:j<k
    ·exact hok j e
    ·obtain rfl:j=k:=by omega
     exact ⟨hp,Classical.not_not.1 fun q=>by
       have:=hb.2 q
       have hc3:b=false:=hc3
       rw [hc3] at this;cases this⟩
   ·obtain rfl:k=(Wc w).length:=by omega
    unfold ZB
    exact Aa.no (dF (by first|omega|(dsimp only;omega))) (.some hok)
  rintro (r|r) hr
  case inr =>
    obtain ⟨rfl,hr⟩:=hr
    exact .some (no hr)
  exact .some (by rw [OC.2 (bV g (by omega) hs hd (by omega) (fun i hi=>(hnd i hi).1) (fun i hi=>(hnd i hi).2) htg (fun i hi=>(hr i hi).1) (fun i hi=>(hr i hi).2))])
end
end
section
open Go.RowKit
section
variable {w:Wd}
structure QC (w:Wd):Prop where
  g:GV w.n w.ls
  up:w.up.length=w.ls.length
  sq:(w.sq.length:Int)=w.n
  db:(w.db.length:Int)=w.n
  net:w.net.length≤16
  nd:∀i,i<w.db.length→Ym w i
theorem uX (h:Xm w):Aa (QL (w.n,w.ls,w.up,w.sq,w.db,w.net,())) fun r=>∃b:Bool,r=(b,())∧(b=true→QC w)∧(b=false→¬WV w Hc):=by
  have h1:=h.ls
  have h2:=h.up
  have h3:=h.sq
  have h4:=h.db
  have h5:=h.net
  have no:¬WV w Hc→∃b:Bool,(false,())=(b,())∧(b=true→QC w)∧(b=false→¬WV w Hc):=fun q=>⟨false,rfl,(fun e=>by cases e),fun _=>q⟩
  unfold QL
  dsimp only
  rw [QS _ _ (show Wa w.ls by unfold Wa;omega)]
  simp only [La]
  refine Aa.ite (fun hc=>.some (no fun q=>?_)) (fun hc=>?_)
  ·have hc:gv w.n w.ls=false:=by simpa using hc
   exact oF hc q.g
  have g:GV w.n w.ls:=oT (show gv w.n w.ls=true by simpa using hc)
  refine Aa.ite (fun hc=>.some (no fun q=>?_)) (fun hc=>?_)
  ·have hc:¬(w.up.length:Int)=w.ls.length:=by simpa using hc
   have:=q.up;omega
  have hu:(w.up.length:Int)=w.ls.length:=by simpa using hc
  refine Aa.ite (fun hc=>.some (no fun q=>?_)) (fun hc=>?_)
  ·have hc:¬(w.sq.length:Int)=w.n:=by simpa using hc
   have:=q.sq;omega
  have hs:(w.sq.length:Int)=w.n:=by simpa using hc
  refine Aa.ite (fun hc=>.some (no fun q=>?_)) (fun hc=>?_)
  ·have hc:¬(w.db.length:Int)=w.n:=by simpa using hc
   have:=q.db;omega
  have hd:(w.db.length:Int)=w.n:=by simpa using hc
  refine Aa.ite (fun hc=>.some (no fun q=>?_)) (fun hc=>?_)
  ·have hc:=oT hc
   have:=q.net;omega
  have hn:=oF hc
  have hn8:=g.2.1
  refine Aa.bnd (R:=fun r=>match r with| .inl x=>∀i,i<w.db.length→Ym w i| .inr y=>y=(false,())∧¬WV w Hc) ?_ ?_
  ·refine Aa.count w.db.length (fun k t=>t=((k:Int),w.n,w.ls,w.up,w.sq,w.db,w.net,())∧∀i,i<k→Ym w i) ?_ (Nat.zero_le _) (Cc (by omega)) ⟨rfl,fun i hi=>by omega⟩
   rintro k t hk ⟨rfl,hok⟩
   by_cases hlt:k<w.db.length
   ·have hsm:=h.dbs k hlt
    simp (disch:=omega) only [CB,Ei,Kg,Ta,Ua,Qo,tI _ hsm.fits hsm.fe,Option.bind_some]
    refine Aa.gd (decide_eq_true (by omega)) (Aa.gd (Ia (by omega) (by omega)) (Aa.ite (fun hc=>.some ⟨rfl,fun q=>?_⟩) (fun hc=>?_)))
    ·have hc:=Rh (show Mc (iz w.sq k) 1 99=false by simpa using hc)
     exact hc (q.rng k (by omega))
    have hr:=Ui (show Mc (iz w.sq k) 1 99=true by simpa using hc)
    refine Aa.gd (Ia (by omega) (by omega)) (Aa.ite (fun hc=>.some ⟨rfl,fun q=>?_⟩) (fun hc=>.some ⟨hlt,rfl,fun j hj=>?_⟩))
    ·have hc:Ai (Ab w.db k)=false:=by simpa using hc
     exact oF hc (q.ok k hlt)
    ·have hv:Ke (Ab w.db k):=oT (show Ai (Ab w.db k)=true by simpa using hc)
     by_cases e:j<k
     ·exact hok j e
     ·obtain rfl:j=k:=by omega
      exact ⟨hr,hv⟩
   ·obtain rfl:k=w.db.length:=by omega
    unfold CB
    exact Aa.no (dF (by dsimp only;omega)) (.some hok)
  rintro (r|r) hr
  case inr =>
    obtain ⟨rfl,hr⟩:=hr
    exact .some (no hr)
  exact .some ⟨true,rfl,fun _=>⟨g,by omega,hs,hd,by omega,hr⟩,fun e=>by cases e⟩
theorem QC.fl (h:QC w):w.db.flatten.length≤8*w.db.length:=by
  have:=YM (db:=w.db) (k:=w.db.length) (by omega) fun i hi=>(h.nd i hi).sm
  rwa [List.take_length] at this
theorem uY (h:QC w):PL (w.n,w.ls,w.up,w.sq,w.db,w.net,())=some (Wc w,()):=by
  have hd:=h.db
  have hn:=h.net
  have h8:=h.g.2.1
  have hfl:=h.fl
  unfold PL
  dsimp only
  refine Aa.out (Aa.bnd (R:=fun r=>match r with| .inl x=>x=(w.n,w.ls,w.up,w.sq,w.db,w.net,w.db.flatten,())| .inr _=>False) ?_ ?_)
  ·refine Aa.count w.db.length (fun k t=>t=((k:Int),w.n,w.ls,w.up,w.sq,w.db,w.net,(w.db.take k).flatten,())) ?_ (Nat.zero_le _) (Cc (by omega)) (by simp)
   rintro k t hk rfl
   by_cases hlt:k<w.db.length
   ·have hl:=(h.nd k hlt).sm
    have hfk:=YM (db:=w.db) (k:=k) (by omega) fun i hi=>(h.nd i (by omega)).sm
    simp (disch:=omega) only [ZA,Ei,Ta,Ua,La]
    refine Aa.gd (decide_eq_true (by omega)) (Aa.gd (Ia (by omega) (by omega)) (Aa.gd (decide_eq_true (by omega)) (.some ⟨hlt,?_⟩)))
    rw [bW hlt];rfl
   ·obtain rfl:k=w.db.length:=by omega
    unfold ZA
    simp only [La]
    refine Aa.no (dF (by omega)) (.some ?_)
    rw [List.take_length]
  rintro (r|r) hr
  case inr=>exact hr.elim
  obtain rfl:=hr
  dsimp only
  refine Aa.bnd (R:=fun r=>match r with| .inl x=>x=(Wc w,())| .inr _=>False) ?_ ?_
  ·refine Aa.count w.net.length (fun k t=>t=((k:Int),w.n,w.ls,w.up,w.sq,w.db,w.net,w.db.flatten++(w.net.take k).map (·.p),())) ?_ (Nat.zero_le _) (Cc (by omega)) (by simp)
   rintro k t hk rfl
   by_cases hlt:k<w.net.length
   ·simp (disch:=omega) only [BB,Zo,Ta,Ua,La]
    refine Aa.gd (decide_eq_true (by omega)) (Aa.gd (Ia (by omega) (by omega)) (Aa.gd (decide_eq_true (by simp only [List.length_append,List.length_map,List.length_take,List.length_singleton];omega)) (.some ⟨hlt,?_⟩)))
    rw [bX hlt,←List.append_assoc];rfl
   ·obtain rfl:k=w.net.length:=by omega
    unfold BB
    simp only [La]
    refine Aa.no (dF (by omega)) (.some ?_)
    rw [List.take_length];rfl
  rintro (r|r) hr
  case inr=>exact hr.elim
  obtain rfl:=hr
  exact .some rfl
theorem uZ (xs:List Ls) (hl:xs.length≤100000) (he:∀x∈xs,Wa x.e):Aa (RL (xs,())) fun r=>∃b:Bool,r=(b,())∧(b=true↔∀i,i<xs.length→Qj xs i):=by
  unfold RL
  refine Aa.bnd (R:=fun r=>match r with| .inl _=>∀i,i<xs.length→Qj xs i| .inr y=>y=(false,())∧¬∀i,i<xs.length→Qj xs i) ?_ ?_
  ·refine Aa.count xs.length (fun k t=>t=(xs,(k:Int),())∧∀i,i<k→Qj xs i) ?_ (Nat.zero_le _) (Cc (by omega)) ⟨rfl,fun i hi=>by omega⟩
   rintro k t hk ⟨rfl,hok⟩
   by_cases hlt:k<xs.length
   ·simp only [IB,La]
    refine Aa.gd (decide_eq_true (by omega)) (Aa.bnd (R:=fun r=>match r with| .inl x=>x=(xs,(k:Int),())∧Qj xs k| .inr y=>y=(false,())∧¬Qj xs k) ?_ ?_)
    ·refine Aa.count k (fun j t=>t=(xs,(k:Int),(j:Int),())∧∀i,i<j→(Ya xs i).o=(Ya xs k).o→(Ya xs i).s=(Ya xs k).s→Ya xs i=Ya xs k) ?_ (Nat.zero_le _) (Cc (by omega)) ⟨rfl,fun i hi=>by omega⟩
     rintro j t hj ⟨rfl,hok2⟩
     by_cases hjk:j<k
     ·have fk:=he _ (Mg hlt)
      have fj:=he _ (Mg (show j<xs.length by omega))
      simp (disch:=omega) only [GB,Wg,Ta,Ua,aY _ _ fk fj,Option.bind_some]
      refine Aa.gd (decide_eq_true (by omega)) (Aa.gd (Ia (by omega) (by omega)) (Aa.gd (Ia (by omega) (by omega)) (Aa.ite (fun h1=>?_) (fun h1=>.some ⟨hjk,rfl,fun i hi=>?_⟩))))
      ·have h1:=oT h1
       refine Aa.gd (Ia (by omega) (by omega)) (Aa.gd (Ia (by omega) (by omega)) (Aa.ite (fun h2=>?_) (fun h2=>.some ⟨hjk,rfl,fun i hi=>?_⟩)))
       ·have h2:=oT h2
        refine Aa.gd (Ia (by omega) (by omega)) (Aa.gd (Ia (by omega) (by omega)) (Aa.ite (fun h3=>.some ⟨rfl,fun q=>?_⟩) (fun h3=>.some ⟨hjk,rfl,fun i hi=>?_⟩)))
        ·have h3:¬Ya xs k=Ya xs j:=by simpa using h3
         exact h3 (q j hjk h1.symm h2.symm).symm
        ·have h3:Ya xs k=Ya xs j:=by simpa using h3
         by_cases e:i<j
         ·exact hok2 i e
         ·obtain rfl:i=j:=by omega
          exact fun _ _=>h3.symm
       ·have h2:=oF h2
        by_cases e:i<j
        ·exact hok2 i e
        ·obtain rfl:i=j:=by omega
         exact fun _ e2=>(h2 e2.symm).elim
      ·have h1:=oF h1
       by_cases e:i<j
       ·exact hok2 i e
       ·obtain rfl:i=j:=by omega
        exact fun e1=>(h1 e1.symm).elim
     ·obtain rfl:j=k:=by omega
      unfold GB
      exact Aa.no (dF (by dsimp only;omega)) (.some ⟨rfl,hok2⟩)
    ·rintro (r|r) hr
     ·obtain ⟨rfl,hr⟩:=hr
      simp (disch:=omega) only [Ua]
      refine .some ⟨hlt,rfl,fun i hi=>?_⟩
      by_cases e:i<k
      ·exact hok i e
      ·obtain rfl:i=k:=by omega
       exact hr
     ·obtain ⟨rfl,hr⟩:=hr
      exact .some ⟨rfl,fun q=>hr (q k hlt)⟩
   ·obtain rfl:k=xs.length:=by omega
    unfold IB
    simp only [La]
    exact Aa.no (dF (by omega)) (.some hok)
  rintro (r|r) hr
  ·exact .some ⟨true,rfl,fun _=>hr,fun _=>rfl⟩
  ·obtain ⟨rfl,hr⟩:=hr
   exact .some ⟨false,rfl,(fun e=>by cases e),fun q=>(hr q).elim⟩
set_option maxHeartbeats 2000000 in
theorem vA (h:Xm w):ZL (w.n,w.ls,w.up,w.sq,w.db,w.net,())=some (wv w,()):=by
  have no:¬WV w Hc→(false,())=(wv w,()):=fun q=>by rw [bU.2 q]
  unfold ZL
  refine Aa.out (Aa.bnd (uX h) ?_)
  rintro _ ⟨b,rfl,hb1,hb2⟩
  dsimp only
  refine Aa.ite (fun hc=>.some (no (hb2 (by simpa using hc)))) (fun hc=>?_)
  have hS:=hb1 (by simpa using hc)
  have hd:=hS.db
  have hs:=hS.sq
  have hn:=hS.net
  have h8:=hS.g.2.1
  have hn1:=hS.g.1
  have hfl:=hS.fl
  have hal:(Wc w).length≤1000:=by unfold Wc;rw [List.length_append,List.length_map];omega
  have hfe:∀x∈Wc w,Sm x.e:=fun x hx=>by
    rcases Sq.2 hx with ⟨i,hi,hx⟩|⟨p,hp,rfl⟩
    ·exact (h.dbs i hi).2 x hx
    ·obtain ⟨i,hi,rfl⟩:=List.getElem_of_mem hp
     have:=h.pks i hi
     have e:Ob w.net i=w.net[i]:=by simp [Ob,List.getD,hi]
     rwa [e] at this
  have smf:∀l:List En,Sm l→Wa l:=fun l hl=>by unfold Wa;unfold Sm at hl;omega
  refine Vb (uY hS) ?_
  try dsimp only
  refine Aa.bnd (uZ (Wc w) (by omega) (fun x hx=>smf _ (hfe x hx))) ?_
  rintro _ ⟨b2,rfl,hb⟩
  dsimp only
  refine Aa.ite (fun hc=>.some (no fun q=>?_)) (fun hc=>?_)
  ·have hc:b2=false:=by simpa using hc
   have:=hb.2 fun i hi=>q.ag hi
   rw [hc] at this;cases this
  have hag:=hb.1 (show b2=true by simpa using hc)
  refine Aa.bnd (R:=fun r=>match r with| .inl x=>x=(w.n,w.ls,w.up,w.sq,w.db,w.net,())∧∀i,i<w.db.length→(∀l∈Ab w.db i,Xg w Hc l)∧PC w i| .inr y=>y=(false,())∧¬WV w Hc) ?_ ?_
  ·refine Aa.count w.db.length (fun k t=>t=((k:Int),w.n,w.ls,w.up,w.sq,w.db,w.net,())∧∀i,i<k→(∀l∈Ab w.db i,Xg w Hc l)∧PC w i) ?_ (Nat.zero_le _) (Cc (by omega)) ⟨rfl,fun i hi=>by omega⟩
   rintro k t hk ⟨rfl,hok⟩
   by_cases hlt:k<w.db.length
   ·have hsm:=h.dbs k hlt
    have hv:=(hS.nd k hlt).2
    have hvl:=hv.len
    simp only [PB]
    refine Aa.gd (decide_eq_true (by omega)) (Aa.bnd (R:=fun r=>match r with| .inl x=>x=((k:Int),w.n,w.ls,w.up,w.sq,w.db,w.net,())∧∀l∈Ab w.db k,Xg w Hc l| .inr y=>y=(false,())∧¬WV w Hc) ?_ ?_)
    ·refine Aa.count (Ab w.db k).length (fun j t=>t=((k:Int),(j:Int),w.n,w.ls,w.up,w.sq,w.db,w.net,())∧∀i,i<j→Xg w Hc (Ya (Ab w.db k) i)) ?_ (Nat.zero_le _) (Cc (by omega)) ⟨rfl,fun i hi=>by omega⟩
     rintro j t hj ⟨rfl,hok2⟩
     by_cases hjl:j<(Ab w.db k).length
     ·have hm:Ya (Ab w.db k) j∈Ab w.db k:=Mg hjl
      simp (disch:=omega) only [OB,Ei,Wg,Ta,Ua,La,bT hS.g hS.up hs _ (hsm.2 _ hm),Option.bind_some]
      refine Aa.gd (Ia (by omega) (by omega)) (Aa.gd (decide_eq_true (by omega)) (Aa.gd (Ia (by omega) (by omega)) (Aa.gd (Ia (by omega) (by omega)) (Aa.ite (fun hc=>.some ⟨rfl,fun q=>?_⟩) (fun hc=>.some ⟨hjl,rfl,fun i hi=>?_⟩)))))
      ·have hc:poss w (Ya (Ab w.db k) j)=false:=by simpa using hc
       exact NC.1 hc (q.poss _ (.inl ⟨k,hlt,hm⟩))
      ·have hp:=Rq.1 (show poss w (Ya (Ab w.db k) j)=true by simpa using hc)
       by_cases e:i<j
       ·exact hok2 i e
       ·obtain rfl:i=j:=by omega
        exact hp
     ·obtain rfl:j=(Ab w.db k).length:=by omega
      unfold OB
      simp only [Ei,Ta,La]
      refine Aa.gd (Ia (by omega) (by omega)) (Aa.no (dF (by omega)) (.some ⟨rfl,fun l hl=>?_⟩))
      obtain ⟨i,hi,rfl⟩:=List.getElem_of_mem hl
      rw [←Hd hi]
      exact hok2 i hi
    ·rintro (r|r) hr
     case inr =>
       obtain ⟨rfl,hr⟩:=hr
       exact .some ⟨rfl,hr⟩
     obtain ⟨rfl,hr⟩:=hr
     simp (disch:=omega) only [Ei,Kg,Ta,Ua,aE _ (k:Int) hsm.fits,Option.bind_some]
     refine Aa.gd (Ia (by omega) (by omega)) ?_
     cases hfd:fd (Ab w.db k) (k:Int) with
     |none =>
      refine Aa.gd rfl (.some ⟨rfl,fun q=>?_⟩)
      obtain ⟨l,hl,e1,_⟩:=q.own k hlt
      exact Gw.1 hfd l hl e1
     |some l0 =>
      obtain ⟨hm,ho⟩:=(Oj hv.so).1 hfd
      refine Aa.no rfl (Aa.gd (Ia (by omega) (by omega)) (Aa.ite (fun hc=>.some ⟨rfl,fun q=>?_⟩) (fun hc=>.some ⟨hlt,rfl,fun i hi=>?_⟩)))
      ·have hc:¬l0.s=iz w.sq k:=by simpa using hc
       obtain ⟨l,hl,e1,e2⟩:=q.own k hlt
       have:=(Oj hv.so).2 ⟨hl,e1⟩
       rw [hfd] at this
       injection this with this
       rw [this] at hc
       exact hc e2
      ·have hc:l0.s=iz w.sq k:=by simpa using hc
       by_cases e:i<k
       ·exact hok i e
       ·obtain rfl:i=k:=by omega
        exact ⟨hr,l0,hm,ho,hc⟩
   ·obtain rfl:k=w.db.length:=by omega
    unfold PB
    exact Aa.no (dF (by dsimp only;omega)) (.some ⟨rfl,hok⟩)
  rintro (r|r) hr
  case inr =>
    obtain ⟨rfl,hr⟩:=hr
    exact .some (no hr)
  obtain ⟨rfl,hnd⟩:=hr
  dsimp only
  refine Aa.bnd (R:=fun r=>match r with| .inl x=>∀i,i<w.net.length→(0≤(Ob w.net i).t∧(Ob w.net i).t<w.n)∧Xg w Hc (Ob w.net i).p| .inr y=>y=(false,())∧¬WV w Hc) ?_ ?_
  ·refine Aa.count w.net.length (fun k t=>t=((k:Int),w.n,w.ls,w.up,w.sq,w.db,w.net,())∧∀i,i<k→(0≤(Ob w.net i).t∧(Ob w.net i).t<w.n)∧Xg w Hc (Ob w.net i).p) ?_ (Nat.zero_le _) (Cc (by omega)) ⟨rfl,fun i hi=>by omega⟩
   rintro k t hk ⟨rfl,hok⟩
   by_cases hlt:k<w.net.length
   ·simp (disch:=omega) only [QB,Zo,Ta,Ua,La,Qo,bT hS.g hS.up hs _ (h.pks k hlt),Option.bind_some]
    refine Aa.gd (decide_eq_true (by omega)) (Aa.gd (Ia (by omega) (by omega)) (Aa.ite (fun hc=>.some ⟨rfl,fun q=>?_⟩) (fun hc=>?_)))
    ·have hc:=Rh (show Mc (Ob w.net k).t 0 (w.n-1)=false by simpa using hc)
     have:=q.tgt _ (Um hlt)
     omega
    have ht:=Ui (show Mc (Ob w.net k).t 0 (w.n-1)=true by simpa using hc)
    refine Aa.gd (Ia (by omega) (by omega)) (Aa.ite (fun hc=>.some ⟨rfl,fun q=>?_⟩) (fun hc=>.some ⟨hlt,rfl,fun i hi=>?_⟩))
    ·have hc:poss w (Ob w.net k).p=false:=by simpa using hc
     exact NC.1 hc (q.poss _ (.inr ⟨_,Um hlt,rfl⟩))
    ·have hp:=Rq.1 (show poss w (Ob w.net k).p=true by simpa using hc)
     by_cases e:i<k
     ·exact hok i e
     ·obtain rfl:i=k:=by omega
      exact ⟨by omega,hp⟩
   ·obtain rfl:k=w.net.length:=by omega
    unfold QB
    simp only [La]
    exact Aa.no (dF (by omega)) (.some hok)
  rintro (r|r) hr
  case inr =>
    obtain ⟨rfl,hr⟩:=hr
    exact .some (no hr)
  refine .some ?_
  rw [OC.2 (bV hS.g hS.up hs hd hn hS.nd (fun i hi=>(hnd i hi).2) (fun i hi=>(hr i hi).1) (fun i hi=>?_) hag)]
  rcases Sq.2 (Mg hi) with ⟨j,hj,hx⟩|⟨p,hp,e⟩
  ·exact (hnd j hj).1 _ hx
  ·rw [e]
   obtain ⟨j,hj,rfl⟩:=List.getElem_of_mem hp
   have:=(hr j hj).2
   have e2:Ob w.net j=w.net[j]:=by simp [Ob,List.getD,hj]
   rwa [e2] at this
end
end
section
open Go.RowKit
theorem QU {α:Type} {B:(List α×Int×Int×Unit)→Option ((List α×Int×Int×Unit)⊕((Int×Unit)⊕(Int×Unit)))} (P:α→Prop) (gw:α→Nat) (xs:List α) (q0:Int) (h0:0≤q0) (h1:q0≤2000000) (hx:Wa xs)
    (hB:∀(k:Nat) (x:α) (q:Int),xs[k]? =some x→0≤q→q≤2000000→Aa (B (xs,q,(k:Int),())) fun r=>r=.inr (.inr (-1,()))∨∃q',r=.inl (xs,q',((k+1:Nat):Int),())∧0≤q'∧q'+gw x≤q∧P x)
    (hE:∀q:Int,B (xs,q,(xs.length:Int),())=some (.inr (.inl (q,())))):Aa (lp B Fa (xs,q0,(0:Int),())) fun r=>match r with| .inl x=>∃q,x=(q,())∧0≤q∧q+Ac gw xs≤q0∧∀x∈xs,P x| .inr y=>y=(-1,()):=by
  refine Aa.count xs.length (fun k t=>∃q,t=(xs,q,(k:Int),())∧0≤q∧q+Ac gw (xs.take k)≤q0∧∀x∈xs.take k,P x) ?_ (Nat.zero_le _) (Cc hx) ⟨q0,rfl,h0,by simp [Ac],by simp⟩
  rintro k t hk ⟨q,rfl,g0,g1,hp⟩
  by_cases hlt:k<xs.length
  ·have hxk:=List.getElem?_eq_getElem hlt
   refine (hB k _ q hxk g0 (by omega)).mono fun r hr=>?_
   rcases hr with rfl|⟨q',rfl,e0,e1,e2⟩
   ·rfl
   ·refine ⟨hlt,q',rfl,e0,by have:=(Ov (c:=gw) xs k _ hxk).2;omega,fun x hx=>?_⟩
    rw [List.take_add_one,hxk] at hx
    rcases List.mem_append.1 hx with hx|hx
    ·exact hp x hx
    ·simp at hx
     rw [hx];exact e2
  ·obtain rfl:k=xs.length:=by omega
   rw [hE]
   rw [List.take_length] at hp g1
   exact .some ⟨q,rfl,g0,g1,hp⟩
def FD (db:List Ls):Prop:=Wa db∧∀l∈db,Wa l.e
def Tq (xs:List Ls):Nat:=xs.length+Ac (fun l:Ls=>l.e.length) xs
def RC (xs:List (List Ls)):Nat:=xs.length+Ac Tq xs
def SC (xs:List Pk):Nat:=xs.length+Ac (fun p:Pk=>p.p.e.length) xs
theorem vB (xs:List Bool) (h:xs.length≤16777216):AK (xs,())=some (xs,()):=by
  unfold AK
  simp only [La,Ta]
  refine Aa.out (Aa.gd (by simp;omega) (sv (Hq xs _ h (fun k x out hx ho=>?_) (fun out=>?_)) (.some rfl)))
  ·have hk:=Me hx
   simp (disch:=omega) only [Qz,Te (τ:=.bool) hx,Ta,Ua,La,Option.bind_some]
   exact Aa.out (Aa.gd (decide_eq_true (by omega)) (Aa.gd (Ia (by omega) (by omega)) (Aa.gd (Ia (by omega) (by omega)) (.some rfl))))
  ·simp only [Qz,La]
   exact Aa.out (Aa.no (dF (by omega)) (.some rfl))
theorem vC (xs:List Bool) (h:Wa xs):FK (xs,xs,())=some (true,()):=by
  unfold FK
  unfold Wa at h
  simp only [La]
  refine Aa.out (Aa.no (by simp) (sv (Iq xs h (fun k x hx=>?_) ?_) (.some rfl)))
  ·have hk:=Me hx
   simp (disch:=omega) only [Vz,Te (τ:=.bool) hx,Ta,Ua,La,Option.bind_some,decide_true,Bool.not_true,cond_false,beq_self_eq_true]
   exact Aa.out (Aa.gd (decide_eq_true (by omega)) (Aa.gd (Ia (by omega) (by omega)) (Aa.gd (Ia (by omega) (by omega)) (.some rfl))))
  ·simp only [Vz,La]
   exact Aa.out (Aa.no (dF (by omega)) (.some rfl))
theorem bY (o s:Int) (es:List En) (h:es.length≤16777216):Sz (o,s,es,())=some (o,s,es,()):=by
  unfold Sz
  rw [rQ es h];rfl
theorem bZ (o s:Int) (es:List En) (h:Wa es):Wz (o,s,es,o,s,es,())=some (true,()):=by
  unfold Wz
  exact Aa.out (Aa.no (by simp) (Aa.no (by simp) (sv (rT es h) (Aa.no rfl (.some rfl)))))
theorem vD (t o s:Int) (es:List En) (h:es.length≤16777216):GK (t,o,s,es,())=some (t,o,s,es,()):=by
  unfold GK
  rw [bY o s es h];rfl
theorem vE (t o s:Int) (es:List En) (h:Wa es):NK (t,o,s,es,t,o,s,es,())=some (true,()):=by
  unfold NK
  exact Aa.out (Aa.no (by simp) (sv (bZ o s es h) (Aa.no rfl (.some rfl))))
theorem vG (xs:List Ls) (h:xs.length≤16777216) (he:∀l∈xs,l.e.length≤16777216):JK (xs,())=some (xs,()):=by
  unfold JK
  simp only [La,Ta]
  refine Aa.out (Aa.gd (by simp;omega) (sv (Hq xs _ h (fun k x out hx ho=>?_) (fun out=>?_)) (.some rfl)))
  ·have hk:=Me hx
   simp (disch:=omega) only [Xz,Te (τ:=.ls) hx,Ta,Ua,La]
   exact Aa.out (Aa.gd (decide_eq_true (by omega)) (Aa.gd (Ia (by omega) (by omega)) (sv (bY _ _ _ (he x (List.mem_of_getElem? hx))) (Aa.gd (Ia (by omega) (by omega)) (.some rfl)))))
  ·simp only [Xz,La]
   exact Aa.out (Aa.no (dF (by omega)) (.some rfl))
theorem vH (xs:List Ls) (h:FD xs):OK (xs,xs,())=some (true,()):=by
  unfold OK
  have h1:=h.1
  unfold Wa at h1
  simp only [La]
  refine Aa.out (Aa.no (by simp) (sv (Iq xs h.1 (fun k x hx=>?_) ?_) (.some rfl)))
  ·have hk:=Me hx
   simp (disch:=omega) only [AA,Te (τ:=.ls) hx,Ta,Ua,La]
   exact Aa.out (Aa.gd (decide_eq_true (by omega)) (Aa.gd (Ia (by omega) (by omega)) (Aa.gd (Ia (by omega) (by omega)) (sv (bZ _ _ _ (h.2 x (List.mem_of_getElem? hx))) (Aa.no rfl (.some rfl))))))
  ·simp only [AA,La]
   exact Aa.out (Aa.no (dF (by omega)) (.some rfl))
theorem vI (xs:List (List Ls)) (h:xs.length≤16777216) (he:∀d∈xs,d.length≤16777216∧∀l∈d,l.e.length≤16777216):QK (xs,())=some (xs,()):=by
  unfold QK
  simp only [La,Ta]
  refine Aa.out (Aa.gd (by simp;omega) (sv (Hq xs _ h (fun k x out hx ho=>?_) (fun out=>?_)) (.some rfl)))
  ·have hk:=Me hx
   have hm:=he x (List.mem_of_getElem? hx)
   simp (disch:=omega) only [DA,Te (τ:=.db) hx,Ta,Ua,La]
   exact Aa.out (Aa.gd (decide_eq_true (by omega)) (Aa.gd (Ia (by omega) (by omega)) (sv (vG x hm.1 hm.2) (Aa.gd (Ia (by omega) (by omega)) (.some rfl)))))
  ·simp only [DA,La]
   exact Aa.out (Aa.no (dF (by omega)) (.some rfl))
theorem vJ (xs:List (List Ls)) (h:Wa xs) (he:∀d∈xs,FD d):TK (xs,xs,())=some (true,()):=by
  unfold TK
  have h1:=h
  unfold Wa at h1
  simp only [La]
  refine Aa.out (Aa.no (by simp) (sv (Iq xs h (fun k x hx=>?_) ?_) (.some rfl)))
  ·have hk:=Me hx
   simp (disch:=omega) only [GA,Te (τ:=.db) hx,Ta,Ua,La]
   exact Aa.out (Aa.gd (decide_eq_true (by omega)) (Aa.gd (Ia (by omega) (by omega)) (Aa.gd (Ia (by omega) (by omega)) (sv (vH x (he x (List.mem_of_getElem? hx))) (Aa.no rfl (.some rfl))))))
  ·simp only [GA,La]
   exact Aa.out (Aa.no (dF (by omega)) (.some rfl))
theorem vK (xs:List Pk) (h:xs.length≤16777216) (he:∀p∈xs,p.p.e.length≤16777216):MK (xs,())=some (xs,()):=by
  unfold MK
  simp only [La,Ta]
  refine Aa.out (Aa.gd (by simp;omega) (sv (Hq xs _ h (fun k x out hx ho=>?_) (fun out=>?_)) (.some rfl)))
  ·have hk:=Me hx
   simp (disch:=omega) only [Zz,Te (τ:=.pk) hx,Ta,Ua,La]
   exact Aa.out (Aa.gd (decide_eq_true (by omega)) (Aa.gd (Ia (by omega) (by omega)) (sv (vD _ _ _ _ (he x (List.mem_of_getElem? hx))) (Aa.gd (Ia (by omega) (by omega)) (.some rfl)))))
  ·simp only [Zz,La]
   exact Aa.out (Aa.no (dF (by omega)) (.some rfl))
theorem vL (xs:List Pk) (h:Wa xs) (he:∀p∈xs,Wa p.p.e):SK (xs,xs,())=some (true,()):=by
  unfold SK
  have h1:=h
  unfold Wa at h1
  simp only [La]
  refine Aa.out (Aa.no (by simp) (sv (Iq xs h (fun k x hx=>?_) ?_) (.some rfl)))
  ·have hk:=Me hx
   simp (disch:=omega) only [FA,Te (τ:=.pk) hx,Ta,Ua,La]
   exact Aa.out (Aa.gd (decide_eq_true (by omega)) (Aa.gd (Ia (by omega) (by omega)) (Aa.gd (Ia (by omega) (by omega)) (sv (vE _ _ _ _ (he x (List.mem_of_getElem? hx))) (Aa.no rfl (.some rfl))))))
  ·simp only [FA,La]
   exact Aa.out (Aa.no (dF (by omega)) (.some rfl))
def MD (db:List Ls):Prop:=Oe db∧∀l∈db,Oe l.e
def Ap (left:Int) (tot:Nat) (P:Prop) (r:Int×Unit):Prop:=r=(-1,())∨∃z,r=(z,())∧0≤z∧z+tot≤left∧P
theorem vM (xs:List Bool) (left:Int) (h:Oe xs) (h1:0≤left∧left≤2000000):Aa (CK (xs,left,())) (Ap left xs.length (xs.length≤2000000)):=by
  unfold Oe at h
  unfold CK
  simp (disch:=omega) only [La,Ua]
  refine Aa.ite (fun _=>.some (.inl rfl)) (fun h=>.some (.inr ⟨_,rfl,?_,?_,?_⟩))
  all_goals have h:=oF h
  all_goals omega
theorem vN (xs:List Int) (left:Int) (h:Oe xs) (h1:0≤left∧left≤2000000):Aa (DK (xs,left,())) (Ap left xs.length (xs.length≤2000000)):=by
  unfold Oe at h
  unfold DK
  simp (disch:=omega) only [La,Ua]
  refine Aa.ite (fun _=>.some (.inl rfl)) (fun h=>.some (.inr ⟨_,rfl,?_,?_,?_⟩))
  all_goals have h:=oF h
  all_goals omega
theorem vO (n:Int) (xs:List Lk) (left:Int) (h:Oe xs) (h1:0≤left∧left≤2000000):Aa (Lz (n,xs,left,())) (Ap left xs.length (xs.length≤2000000)):=by
  rw [sE n xs left h (by omega)]
  by_cases e:left-(xs.length:Int)<0
  ·rw [if_pos e];exact .some (.inl rfl)
  ·rw [if_neg e];exact .some (.inr ⟨_,rfl,by omega,by omega,by omega⟩)
theorem cA (o s:Int) (es:List En) (left:Int) (h:Oe es) (h1:0≤left∧left≤2000000):Aa (Uz (o,s,es,left,())) (Ap left es.length (es.length≤2000000)):=by
  unfold Uz
  refine sv (sF (es,left,()) h (by dsimp only;omega)) ?_
  dsimp only
  by_cases e:left-(es.length:Int)<0
  ·rw [if_pos e];exact Aa.gd rfl (.some (.inl rfl))
  ·rw [if_neg e];exact Aa.no (dF e) (.some (.inr ⟨_,rfl,by omega,by omega,by omega⟩))
theorem vP (t o s:Int) (es:List En) (left:Int) (h:Oe es) (h1:0≤left∧left≤2000000):Aa (IK (t,o,s,es,left,())) (Ap left es.length (es.length≤2000000)):=by
  unfold IK
  refine Aa.bnd (cA o s es left h h1) ?_
  rintro _ (rfl|⟨z,rfl,g0,g1,g2⟩)
  ·exact Aa.gd rfl (.some (.inl rfl))
  ·exact Aa.no (dF (by dsimp only;omega)) (.some (.inr ⟨z,rfl,g0,g1,g2⟩))
theorem vQ (xs:List Ls) (left:Int) (h:MD xs) (h1:0≤left∧left≤2000000):Aa (LK (xs,left,())) (Ap left (Tq xs) (xs.length≤2000000∧∀l∈xs,l.e.length≤2000000)):=by
  have hf:=h.1
  unfold Oe at hf
  unfold LK
  simp (disch:=omega) only [La,Ua]
  refine Aa.ite (fun _=>.some (.inl rfl)) (fun h0=>?_)
  have h0:=oF h0
  refine Aa.bnd (QU (fun l:Ls=>l.e.length≤2000000) (fun l:Ls=>l.e.length) xs (left-xs.length) (by omega) (by omega) (by unfold Wa;omega) (fun k x q hx g0 g1=>?_) (fun q=>?_)) ?_
  ·have hk:=Me hx
   simp (disch:=omega) only [Yz,Te (τ:=.ls) hx,Ta,Ua,La]
   refine Aa.gd (decide_eq_true (by omega)) (Aa.gd (Ia (by omega) (by omega)) (Aa.bnd (cA _ _ _ q (h.2 x (List.mem_of_getElem? hx)) ⟨g0,g1⟩) ?_))
   rintro _ (rfl|⟨z,rfl,e0,e1,e2⟩)
   ·exact Aa.gd rfl (.some (.inl rfl))
   ·exact Aa.no (dF (by dsimp only;omega)) (.some (.inr ⟨z,rfl,e0,e1,e2⟩))
  ·simp only [Yz,La]
   exact Aa.out (Aa.no (dF (by omega)) (.some rfl))
  ·rintro (r|r) hr
   ·obtain ⟨q,rfl,e0,e1,e2⟩:=hr
    exact .some (.inr ⟨q,rfl,e0,by unfold Tq;omega,by omega,e2⟩)
   ·obtain rfl:=hr
    exact .some (.inl rfl)
theorem vR (xs:List (List Ls)) (left:Int) (hf:Oe xs) (h:∀d∈xs,MD d) (h1:0≤left∧left≤2000000):Aa (RK (xs,left,())) (Ap left (RC xs) (xs.length≤2000000∧∀d∈xs,d.length≤2000000∧∀l∈d,l.e.length≤2000000)):=by
  have hf0:=hf
  unfold Oe at hf0
  unfold RK
  simp (disch:=omega) only [La,Ua]
  refine Aa.ite (fun _=>.some (.inl rfl)) (fun h0=>?_)
  have h0:=oF h0
  refine Aa.bnd (QU (fun d:List Ls=>d.length≤2000000∧∀l∈d,l.e.length≤2000000) Tq xs (left-xs.length) (by omega) (by omega) (by unfold Wa;omega) (fun k x q hx g0 g1=>?_) (fun q=>?_)) ?_
  ·have hk:=Me hx
   simp (disch:=omega) only [EA,Te (τ:=.db) hx,Ta,Ua,La]
   refine Aa.gd (decide_eq_true (by omega)) (Aa.gd (Ia (by omega) (by omega)) (Aa.bnd (vQ x q (h x (List.mem_of_getElem? hx)) ⟨g0,g1⟩) ?_))
   rintro _ (rfl|⟨z,rfl,e0,e1,e2⟩)
   ·exact Aa.gd rfl (.some (.inl rfl))
   ·exact Aa.no (dF (by dsimp only;omega)) (.some (.inr ⟨z,rfl,e0,e1,e2⟩))
  ·simp only [EA,La]
   exact Aa.out (Aa.no (dF (by omega)) (.some rfl))
  ·rintro (r|r) hr
   ·obtain ⟨q,rfl,e0,e1,e2⟩:=hr
    exact .some (.inr ⟨q,rfl,e0,by unfold RC;omega,by omega,e2⟩)
   ·obtain rfl:=hr
    exact .some (.inl rfl)
theorem vS (xs:List Pk) (left:Int) (hf:Oe xs) (h:∀p∈xs,Oe p.p.e) (h1:0≤left∧left≤2000000):Aa (PK (xs,left,())) (Ap left (SC xs) (xs.length≤2000000∧∀p∈xs,p.p.e.length≤2000000)):=by
  have hf0:=hf
  unfold Oe at hf0
  unfold PK
  simp (disch:=omega) only [La,Ua]
  refine Aa.ite (fun _=>.some (.inl rfl)) (fun h0=>?_)
  have h0:=oF h0
  refine Aa.bnd (QU (fun p:Pk=>p.p.e.length≤2000000) (fun p:Pk=>p.p.e.length) xs (left-xs.length) (by omega) (by omega) (by unfold Wa;omega) (fun k x q hx g0 g1=>?_) (fun q=>?_)) ?_
  ·have hk:=Me hx
   simp (disch:=omega) only [BA,Te (τ:=.pk) hx,Ta,Ua,La]
   refine Aa.gd (decide_eq_true (by omega)) (Aa.gd (Ia (by omega) (by omega)) (Aa.bnd (vP _ _ _ _ q (h x (List.mem_of_getElem? hx)) ⟨g0,g1⟩) ?_))
   rintro _ (rfl|⟨z,rfl,e0,e1,e2⟩)
   ·exact Aa.gd rfl (.some (.inl rfl))
   ·exact Aa.no (dF (by dsimp only;omega)) (.some (.inr ⟨z,rfl,e0,e1,e2⟩))
  ·simp only [BA,La]
   exact Aa.out (Aa.no (dF (by omega)) (.some rfl))
  ·rintro (r|r) hr
   ·obtain ⟨q,rfl,e0,e1,e2⟩:=hr
    exact .some (.inr ⟨q,rfl,e0,by unfold SC;omega,by omega,e2⟩)
   ·obtain rfl:=hr
    exact .some (.inl rfl)
structure cB (w:Wd):Prop where
  ls:Oe w.ls
  up:Oe w.up
  sq:Oe w.sq
  db:Oe w.db
  net:Oe w.net
  dbs:∀d∈w.db,MD d
  pks:∀p∈w.net,Oe p.p.e
structure RU (w:Wd):Prop where
  ls:Wa w.ls
  up:Wa w.up
  sq:Wa w.sq
  db:Wa w.db
  net:Wa w.net
  dbs:∀d∈w.db,FD d
  pks:∀p∈w.net,Wa p.p.e
structure Uq (w:Wd):Prop where
  ls:w.ls.length≤2000000
  up:w.up.length≤2000000
  sq:w.sq.length≤2000000
  db:w.db.length≤2000000
  net:w.net.length≤2000000
  dbs:∀d∈w.db,d.length≤2000000∧∀l∈d,l.e.length≤2000000
  pks:∀p∈w.net,p.p.e.length≤2000000
theorem vT (w:Wd) (h:cB w):Aa (ZS (w.n,w.ls,w.up,w.sq,w.db,w.net,1048576,())) fun r=>r=(-1,())∨∃z,r=(z,())∧0≤z∧Uq w∧(w.ls.length+w.up.length+w.sq.length+RC w.db+SC w.net:Int)≤1048576:=by
  unfold ZS
  refine Aa.bnd (vO w.n w.ls 1048576 h.ls (by omega)) ?_
  rintro _ (rfl|⟨z1,rfl,a0,a1,a2⟩)
  ·exact Aa.gd rfl (.some (.inl rfl))
  refine Aa.no (dF (by dsimp only;omega)) (Aa.bnd (vM w.up z1 h.up (by omega)) ?_)
  rintro _ (rfl|⟨z2,rfl,b0,b1,b2⟩)
  ·exact Aa.gd rfl (.some (.inl rfl))
  refine Aa.no (dF (by dsimp only;omega)) (Aa.bnd (vN w.sq z2 h.sq (by omega)) ?_)
  rintro _ (rfl|⟨z3,rfl,c0,c1,c2⟩)
  ·exact Aa.gd rfl (.some (.inl rfl))
  refine Aa.no (dF (by dsimp only;omega)) (Aa.bnd (vR w.db z3 h.db h.dbs (by omega)) ?_)
  rintro _ (rfl|⟨z4,rfl,d0,d1,d2,d3⟩)
  ·exact Aa.gd rfl (.some (.inl rfl))
  refine Aa.no (dF (by dsimp only;omega)) (Aa.bnd (vS w.net z4 h.net h.pks (by omega)) ?_)
  rintro _ (rfl|⟨z5,rfl,e0,e1,e2,e3⟩)
  ·exact Aa.gd rfl (.some (.inl rfl))
  exact Aa.no (dF (by dsimp only;omega)) (.some (.inr ⟨z5,rfl,e0,⟨a2,b2,c2,d2,e2,d3,e3⟩,by omega⟩))
theorem Uq.sm {w:Wd} (h:Uq w):Xm w:=⟨h.ls,h.up,h.sq,h.db,h.net,fun i hi=>by
    have e:Ab w.db i=w.db[i]:=by simp [Ab,List.getD,hi]
    have:=h.dbs (Ab w.db i) (by rw [e];exact List.getElem_mem hi)
    exact ⟨by unfold Sm;omega,fun l hl=>by have:=this.2 l hl;unfold Sm;omega⟩,fun i hi=>by
    have:=h.pks _ (Um hi)
    unfold Sm;omega⟩
theorem Uq.fit {w:Wd} (h:Uq w):RU w:=⟨by have:=h.ls;unfold Wa;omega,by have:=h.up;unfold Wa;omega,by have:=h.sq;unfold Wa;omega,by have:=h.db;unfold Wa;omega,by have:=h.net;unfold Wa;omega,fun d hd=>⟨by have:=(h.dbs d hd).1;unfold Wa;omega,fun l hl=>by have:=(h.dbs d hd).2 l hl;unfold Wa;omega⟩,fun p hp=>by have:=h.pks p hp;unfold Wa;omega⟩
theorem vU (w:Wd) (h:Uq w):YS (w.n,w.ls,w.up,w.sq,w.db,w.net,())=some (w.n,w.ls,w.up,w.sq,w.db,w.net,()):=by
  have h1:=h.ls
  have h2:=h.up
  have h3:=h.sq
  have h4:=h.db
  have h5:=h.net
  unfold YS
  exact Aa.out (sv (rZ w.n w.ls (by omega)) (sv (vB w.up (by omega)) (sv (rP w.sq (by omega)) (sv (vI w.db (by omega) fun d hd=>⟨by have:=(h.dbs d hd).1;omega,fun l hl=>by have:=(h.dbs d hd).2 l hl;omega⟩) (sv (vK w.net (by omega) fun p hp=>by have:=h.pks p hp;omega) (.some rfl))))))
theorem vV (w:Wd) (h:RU w):AT (w.n,w.ls,w.up,w.sq,w.db,w.net,w.n,w.ls,w.up,w.sq,w.db,w.net,())=some (true,()):=by
  unfold AT
  exact Aa.out (sv (sA _ _ h.ls) (Aa.no rfl (sv (vC _ h.up) (Aa.no rfl (sv (rS _ h.sq) (Aa.no rfl (sv (vJ _ h.db h.dbs) (Aa.no rfl (sv (vL _ h.net h.pks) (Aa.no rfl (.some rfl)))))))))))
theorem vW (xs:List Ls):Bc xs=2*Tq xs:=by
  unfold Tq
  induction xs with
  |nil=>rfl
  |cons l r ih=>simp only [Bc,List.length_cons,Ac,ih];omega
theorem vX (xs:List (List Ls)):Xf xs≤2*RC xs:=by
  have h:Xf xs=2*Ac Tq xs:=by
    unfold Xf
    induction xs with
    |nil=>rfl
    |cons d r ih=>simp only [Ac,ih,vW];omega
  unfold RC
  omega
theorem vY (xs:List Pk):Zg xs≤3*SC xs:=by
  have h:Zg xs=3*xs.length+2*Ac (fun p:Pk=>p.p.e.length) xs:=by
    unfold Zg
    induction xs with
    |nil=>rfl
    |cons d r ih=>simp only [Ac,ih,Lh,List.length_cons];omega
  unfold SC
  omega
end
section
open Go.RowKit
abbrev tk (n:Nat):List (Nat×Bool):=(List.range n).map fun i=>(i,true)
abbrev zx:Ae:=⟨[999999],⟨[.c (.one (.own 0))],[]⟩,[]⟩
abbrev zc:Tm:=.c (.one (.b (.int .i64)))
abbrev zi:T1:=.b (.int .i64)
def SU:Ma:=⟨⟨[.c (.one (.b (.sl false .lk))),zc],[]⟩,[.ls .lk,.int],⟨[zc],[]⟩,[.int],SJ⟩
def TU:Ka:=Qa tab [] 12 0 [] []
theorem vZ:Na Tryz.prog TU.Γ:=Pa (l:=[]) trivial
theorem wA:GC Tryz.prog 60 SU:=Ra (G:=TU) (c:=Tryz.f60.body.getD .skip) Ga Ja vZ mixed Tryz.func60 (by kernel_rfl) Tryz.ntmps60 (Ha (G:=TU) (n:=0) (by kernel_rfl) (by kernel_rfl) trivial (by kernel_rfl)) (fun s=>by kernel_rfl)
def UU:Ma:=⟨⟨[.c (.agg [zi,(.b (.sl false .lk))]),zc],[]⟩,[.int,.ls .lk,.int],⟨[zc],[]⟩,[.int],Lz⟩
def VU:Ka:=Qa tab [(60,[],SU)] 12 0 [] []
theorem wB:Na Tryz.prog VU.Γ:=Pa (l:=[(60,[],SU)]) ⟨⟨wA,Tryz.call60⟩,trivial⟩
theorem wC:GC Tryz.prog 19 UU:=Ra (G:=VU) (c:=Tryz.f19.body.getD .skip) Ga Ja wB mixed Tryz.func19 (by kernel_rfl) Tryz.ntmps19 (Ha (G:=VU) (n:=0) (by kernel_rfl) (by kernel_rfl) trivial (by kernel_rfl)) (fun s=>by kernel_rfl)
def WU:Ma:=⟨⟨[.c (.agg [zi,zi,zi])],[]⟩,[.int,.int,.int],⟨[.c (.agg [zi,zi,zi])],[]⟩,[.int,.int,.int],US⟩
def XU:Ka:=Qa tab [] 14 0 [] []
theorem wD:Na Tryz.prog XU.Γ:=Pa (l:=[]) trivial
theorem wE:GC Tryz.prog 108 WU:=Ra (G:=XU) (c:=Tryz.f108.body.getD .skip) Ga Ja wD mixed Tryz.func108 (by kernel_rfl) Tryz.ntmps108 (Ha (G:=XU) (n:=0) (by kernel_rfl) (by kernel_rfl) trivial (by kernel_rfl)) (fun s=>by kernel_rfl)
def YU:Ma:=⟨⟨[.c (.agg [zi,zi,zi]),.c (.agg [zi,zi,zi])],[]⟩,[.int,.int,.int,.int,.int,.int],⟨[.c (.one (.b .bool))],[]⟩,[.bool],VS⟩
def ZU:Ka:=Qa tab [] 20 0 [] []
theorem wF:Na Tryz.prog ZU.Γ:=Pa (l:=[]) trivial
theorem wG:GC Tryz.prog 94 YU:=Ra (G:=ZU) (c:=Tryz.f94.body.getD .skip) Ga Ja wF mixed Tryz.func94 (by kernel_rfl) Tryz.ntmps94 (Ha (G:=ZU) (n:=0) (by kernel_rfl) (by kernel_rfl) trivial (by kernel_rfl)) (fun s=>by kernel_rfl)
def Vq:Za:=⟨⟨[0,3,4],⟨[.c (.one (.b (.sl false .int))),.c (.one (.own 0)),zc],[.row 3 .int]⟩,[.ls .int,.int,.ls .int]⟩,0,⟨[3],⟨[.c (.one (.own 0))],[.row 3 .int]⟩,[.ls .int]⟩,zx,lp Mz Fa⟩
def AV:Ma:=⟨⟨[.c (.one (.b (.sl false .int)))],[]⟩,[.ls .int],⟨[.c (.one (.own 0))],[.row 3 .int]⟩,[.ls .int],TJ⟩
def TC:Ka:=Qa tab [] 22 0 [] [(3,Vq)]
theorem cC:Na Tryz.prog TC.Γ:=Pa (l:=[]) trivial
theorem wH:Cb Tryz.prog 0 22 (Bb (Tryz.f40.body.getD .skip) 0) Vq:=Jb (G:=TC) (F:=Vq.F) (eid:=Vq.eid) (FX:=Vq.FX) (FR:=Vq.FR) (B:=Mz) (n:=Fa) Ga Ja cC mixed (Ha (G:=TC) (n:=0) (by kernel_rfl) (by kernel_rfl) trivial (by kernel_rfl)) (fun s=>by kernel_rfl)
theorem wI:GC Tryz.prog 40 AV:=Ra (G:=TC) (c:=Tryz.f40.body.getD .skip) Ga Ja cC mixed Tryz.func40 (by kernel_rfl) Tryz.ntmps40 (Ha (G:=TC) (n:=1) (by kernel_rfl) (by kernel_rfl) ⟨trivial,Kb (id:=3) (L0:=Vq) (by kernel_rfl) (by kernel_rfl) wH⟩ (by kernel_rfl)) (fun s=>by kernel_rfl)
def Wq:Za:=⟨⟨[0,3,4],⟨[.c (.one (.b (.sl false .lk))),.c (.one (.own 0)),zc],[.row 114 .lk]⟩,[.ls .lk,.int,.ls .lk]⟩,0,⟨[3],⟨[.c (.one (.own 0))],[.row 114 .lk]⟩,[.ls .lk]⟩,zx,lp Nz Fa⟩
def BV:Ma:=⟨⟨[.c (.one (.b (.sl false .lk)))],[]⟩,[.ls .lk],⟨[.c (.one (.own 0))],[.row 114 .lk]⟩,[.ls .lk],UJ⟩
def UC:Ka:=Qa tab [(108,[],WU)] 23 0 [] [(3,Wq)]
theorem cD:Na Tryz.prog UC.Γ:=Pa (l:=[(108,[],WU)]) ⟨⟨wE,Tryz.call108⟩,trivial⟩
theorem wJ:Cb Tryz.prog 0 23 (Bb (Tryz.f64.body.getD .skip) 0) Wq:=Jb (G:=UC) (F:=Wq.F) (eid:=Wq.eid) (FX:=Wq.FX) (FR:=Wq.FR) (B:=Nz) (n:=Fa) Ga Ja cD mixed (Ha (G:=UC) (n:=0) (by kernel_rfl) (by kernel_rfl) trivial (by kernel_rfl)) (fun s=>by kernel_rfl)
theorem wK:GC Tryz.prog 64 BV:=Ra (G:=UC) (c:=Tryz.f64.body.getD .skip) Ga Ja cD mixed Tryz.func64 (by kernel_rfl) Tryz.ntmps64 (Ha (G:=UC) (n:=1) (by kernel_rfl) (by kernel_rfl) ⟨trivial,Kb (id:=3) (L0:=Wq) (by kernel_rfl) (by kernel_rfl) wJ⟩ (by kernel_rfl)) (fun s=>by kernel_rfl)
def Xq:Za:=⟨⟨[0,1,5],⟨[.c (.one (.b (.sl false .int))),.c (.one (.b (.sl false .int))),zc],[]⟩,[.ls .int,.ls .int,.int]⟩,0,⟨[],⟨[],[]⟩,[]⟩,⟨[4],⟨[.c (.one (.b .bool))],[]⟩,[.bool]⟩,lp Oz Fa⟩
def CV:Ma:=⟨⟨[.c (.one (.b (.sl false .int))),.c (.one (.b (.sl false .int)))],[]⟩,[.ls .int,.ls .int],⟨[.c (.one (.b .bool))],[]⟩,[.bool],VJ⟩
def VC:Ka:=Qa tab [] 26 0 [(6,8,tk 8,[])] [(4,Xq)]
theorem cE:Na Tryz.prog VC.Γ:=Pa (l:=[]) trivial
theorem wL:Cb Tryz.prog 0 26 (Bb (Tryz.f47.body.getD .skip) 0) Xq:=Jb (G:=VC) (F:=Xq.F) (eid:=Xq.eid) (FX:=Xq.FX) (FR:=Xq.FR) (B:=Oz) (n:=Fa) Ga Ja cE mixed (Ha (G:=VC) (n:=0) (by kernel_rfl) (by kernel_rfl) trivial (by kernel_rfl)) (fun s=>by kernel_rfl)
theorem wM:GC Tryz.prog 47 CV:=Ra (G:=VC) (c:=Tryz.f47.body.getD .skip) Ga Ja cE mixed Tryz.func47 (by kernel_rfl) Tryz.ntmps47 (Ha (G:=VC) (n:=1) (by kernel_rfl) (by kernel_rfl) ⟨trivial,Kb (id:=4) (L0:=Xq) (by kernel_rfl) (by kernel_rfl) wL⟩ (by kernel_rfl)) (fun s=>by kernel_rfl)
def DV:Ma:=⟨⟨[.c (.one (.b (.sl false .en))),zc],[]⟩,[.ls .en,.int],⟨[zc],[]⟩,[.int],WJ⟩
def EV:Ka:=Qa tab [] 12 0 [] []
theorem wN:Na Tryz.prog EV.Γ:=Pa (l:=[]) trivial
theorem wO:GC Tryz.prog 148 DV:=Ra (G:=EV) (c:=Tryz.f148.body.getD .skip) Ga Ja wN mixed Tryz.func148 (by kernel_rfl) Tryz.ntmps148 (Ha (G:=EV) (n:=0) (by kernel_rfl) (by kernel_rfl) trivial (by kernel_rfl)) (fun s=>by kernel_rfl)
def HV:Ma:=⟨⟨[.c (.agg [zi,(.b (.sl false .lk))])],[]⟩,[.int,.ls .lk],⟨[.c (.agg [zi,(.own 0)])],[.row 114 .lk]⟩,[.int,.ls .lk],XJ⟩
def JV:Ka:=Qa tab [(64,[],BV)] 12 0 [] []
theorem wP:Na Tryz.prog JV.Γ:=Pa (l:=[(64,[],BV)]) ⟨⟨wK,Tryz.call64⟩,trivial⟩
theorem wQ:GC Tryz.prog 22 HV:=Ra (G:=JV) (c:=Tryz.f22.body.getD .skip) Ga Ja wP mixed Tryz.func22 (by kernel_rfl) Tryz.ntmps22 (Ha (G:=JV) (n:=0) (by kernel_rfl) (by kernel_rfl) trivial (by kernel_rfl)) (fun s=>by kernel_rfl)
def Yq:Za:=⟨⟨[0,1,5],⟨[.c (.one (.b (.sl false .lk))),.c (.one (.b (.sl false .lk))),zc],[]⟩,[.ls .lk,.ls .lk,.int]⟩,0,⟨[],⟨[],[]⟩,[]⟩,⟨[4],⟨[.c (.one (.b .bool))],[]⟩,[.bool]⟩,lp Pz Fa⟩
def KV:Ma:=⟨⟨[.c (.one (.b (.sl false .lk))),.c (.one (.b (.sl false .lk)))],[]⟩,[.ls .lk,.ls .lk],⟨[.c (.one (.b .bool))],[]⟩,[.bool],YJ⟩
def WC:Ka:=Qa tab [(94,[],YU)] 27 0 [(6,8,tk 8,[])] [(4,Yq)]
theorem cG:Na Tryz.prog WC.Γ:=Pa (l:=[(94,[],YU)]) ⟨⟨wG,Tryz.call94⟩,trivial⟩
theorem wR:Cb Tryz.prog 0 27 (Bb (Tryz.f45.body.getD .skip) 0) Yq:=Jb (G:=WC) (F:=Yq.F) (eid:=Yq.eid) (FX:=Yq.FX) (FR:=Yq.FR) (B:=Pz) (n:=Fa) Ga Ja cG mixed (Ha (G:=WC) (n:=0) (by kernel_rfl) (by kernel_rfl) trivial (by kernel_rfl)) (fun s=>by kernel_rfl)
theorem wS:GC Tryz.prog 45 KV:=Ra (G:=WC) (c:=Tryz.f45.body.getD .skip) Ga Ja cG mixed Tryz.func45 (by kernel_rfl) Tryz.ntmps45 (Ha (G:=WC) (n:=1) (by kernel_rfl) (by kernel_rfl) ⟨trivial,Kb (id:=4) (L0:=Yq) (by kernel_rfl) (by kernel_rfl) wR⟩ (by kernel_rfl)) (fun s=>by kernel_rfl)
def LV:Ma:=⟨⟨[.c (.agg [zi,zi])],[]⟩,[.int,.int],⟨[.c (.agg [zi,zi])],[]⟩,[.int,.int],WS⟩
def MV:Ka:=Qa tab [] 11 0 [] []
theorem wV:Na Tryz.prog MV.Γ:=Pa (l:=[]) trivial
theorem wW:GC Tryz.prog 161 LV:=Ra (G:=MV) (c:=Tryz.f161.body.getD .skip) Ga Ja wV mixed Tryz.func161 (by kernel_rfl) Tryz.ntmps161 (Ha (G:=MV) (n:=0) (by kernel_rfl) (by kernel_rfl) trivial (by kernel_rfl)) (fun s=>by kernel_rfl)
def NV:Ma:=⟨⟨[.c (.agg [zi,zi]),.c (.agg [zi,zi])],[]⟩,[.int,.int,.int,.int],⟨[.c (.one (.b .bool))],[]⟩,[.bool],XS⟩
def OV:Ka:=Qa tab [] 15 0 [] []
theorem wX:Na Tryz.prog OV.Γ:=Pa (l:=[]) trivial
theorem wY:GC Tryz.prog 162 NV:=Ra (G:=OV) (c:=Tryz.f162.body.getD .skip) Ga Ja wX mixed Tryz.func162 (by kernel_rfl) Tryz.ntmps162 (Ha (G:=OV) (n:=0) (by kernel_rfl) (by kernel_rfl) trivial (by kernel_rfl)) (fun s=>by kernel_rfl)
def QV:Ma:=⟨⟨[.c (.agg [zi,(.b (.sl false .lk))]),.c (.agg [zi,(.b (.sl false .lk))])],[]⟩,[.int,.ls .lk,.int,.ls .lk],⟨[.c (.one (.b .bool))],[]⟩,[.bool],ZJ⟩
def RV:Ka:=Qa tab [(45,[],KV)] 16 0 [] []
theorem wZ:Na Tryz.prog RV.Γ:=Pa (l:=[(45,[],KV)]) ⟨⟨wS,Tryz.call45⟩,trivial⟩
theorem xA:GC Tryz.prog 12 QV:=Ra (G:=RV) (c:=Tryz.f12.body.getD .skip) Ga Ja wZ mixed Tryz.func12 (by kernel_rfl) Tryz.ntmps12 (Ha (G:=RV) (n:=0) (by kernel_rfl) (by kernel_rfl) trivial (by kernel_rfl)) (fun s=>by kernel_rfl)
def Zq:Za:=⟨⟨[0,3,4],⟨[.c (.one (.b (.sl false .bool))),.c (.one (.own 0)),zc],[.row 4 .bool]⟩,[.ls .bool,.int,.ls .bool]⟩,0,⟨[3],⟨[.c (.one (.own 0))],[.row 4 .bool]⟩,[.ls .bool]⟩,zx,lp Qz Fa⟩
def SV:Ma:=⟨⟨[.c (.one (.b (.sl false .bool)))],[]⟩,[.ls .bool],⟨[.c (.one (.own 0))],[.row 4 .bool]⟩,[.ls .bool],AK⟩
def XC:Ka:=Qa tab [] 22 0 [] [(3,Zq)]
theorem cH:Na Tryz.prog XC.Γ:=Pa (l:=[]) trivial
theorem xB:Cb Tryz.prog 0 22 (Bb (Tryz.f39.body.getD .skip) 0) Zq:=Jb (G:=XC) (F:=Zq.F) (eid:=Zq.eid) (FX:=Zq.FX) (FR:=Zq.FR) (B:=Qz) (n:=Fa) Ga Ja cH mixed (Ha (G:=XC) (n:=0) (by kernel_rfl) (by kernel_rfl) trivial (by kernel_rfl)) (fun s=>by kernel_rfl)
theorem xC:GC Tryz.prog 39 SV:=Ra (G:=XC) (c:=Tryz.f39.body.getD .skip) Ga Ja cH mixed Tryz.func39 (by kernel_rfl) Tryz.ntmps39 (Ha (G:=XC) (n:=1) (by kernel_rfl) (by kernel_rfl) ⟨trivial,Kb (id:=3) (L0:=Zq) (by kernel_rfl) (by kernel_rfl) xB⟩ (by kernel_rfl)) (fun s=>by kernel_rfl)
def Ar:Za:=⟨⟨[0,3,4],⟨[.c (.one (.b (.sl false .en))),.c (.one (.own 0)),zc],[.row 153 .en]⟩,[.ls .en,.int,.ls .en]⟩,0,⟨[3],⟨[.c (.one (.own 0))],[.row 153 .en]⟩,[.ls .en]⟩,zx,lp Rz Fa⟩
def TV:Ma:=⟨⟨[.c (.one (.b (.sl false .en)))],[]⟩,[.ls .en],⟨[.c (.one (.own 0))],[.row 153 .en]⟩,[.ls .en],BK⟩
def YC:Ka:=Qa tab [(161,[],LV)] 23 0 [] [(3,Ar)]
theorem cI:Na Tryz.prog YC.Γ:=Pa (l:=[(161,[],LV)]) ⟨⟨wW,Tryz.call161⟩,trivial⟩
theorem xD:Cb Tryz.prog 0 23 (Bb (Tryz.f149.body.getD .skip) 0) Ar:=Jb (G:=YC) (F:=Ar.F) (eid:=Ar.eid) (FX:=Ar.FX) (FR:=Ar.FR) (B:=Rz) (n:=Fa) Ga Ja cI mixed (Ha (G:=YC) (n:=0) (by kernel_rfl) (by kernel_rfl) trivial (by kernel_rfl)) (fun s=>by kernel_rfl)
theorem xE:GC Tryz.prog 149 TV:=Ra (G:=YC) (c:=Tryz.f149.body.getD .skip) Ga Ja cI mixed Tryz.func149 (by kernel_rfl) Tryz.ntmps149 (Ha (G:=YC) (n:=1) (by kernel_rfl) (by kernel_rfl) ⟨trivial,Kb (id:=3) (L0:=Ar) (by kernel_rfl) (by kernel_rfl) xD⟩ (by kernel_rfl)) (fun s=>by kernel_rfl)
def UV:Ma:=⟨⟨[.c (.one (.b (.sl false .bool))),zc],[]⟩,[.ls .bool,.int],⟨[zc],[]⟩,[.int],CK⟩
def VV:Ka:=Qa tab [] 12 0 [] []
theorem xF:Na Tryz.prog VV.Γ:=Pa (l:=[]) trivial
theorem xG:GC Tryz.prog 33 UV:=Ra (G:=VV) (c:=Tryz.f33.body.getD .skip) Ga Ja xF mixed Tryz.func33 (by kernel_rfl) Tryz.ntmps33 (Ha (G:=VV) (n:=0) (by kernel_rfl) (by kernel_rfl) trivial (by kernel_rfl)) (fun s=>by kernel_rfl)
def XV:Ma:=⟨⟨[.c (.one (.b (.sl false .int))),zc],[]⟩,[.ls .int,.int],⟨[zc],[]⟩,[.int],DK⟩
def YV:Ka:=Qa tab [] 12 0 [] []
theorem xH:Na Tryz.prog YV.Γ:=Pa (l:=[]) trivial
theorem xI:GC Tryz.prog 34 XV:=Ra (G:=YV) (c:=Tryz.f34.body.getD .skip) Ga Ja xH mixed Tryz.func34 (by kernel_rfl) Tryz.ntmps34 (Ha (G:=YV) (n:=0) (by kernel_rfl) (by kernel_rfl) trivial (by kernel_rfl)) (fun s=>by kernel_rfl)
def ZC:Ma:=⟨⟨[.c (.agg [zi,zi,(.b (.sl false .en))])],[]⟩,[.int,.int,.ls .en],⟨[.c (.agg [zi,zi,(.own 0)])],[.row 153 .en]⟩,[.int,.int,.ls .en],Sz⟩
def ZV:Ka:=Qa Sg [(149,[],TV)] 15 0 [] []
theorem xJ:Na Tryz.prog ZV.Γ:=Pa (l:=[(149,[],TV)]) ⟨⟨xE,Tryz.call149⟩,trivial⟩
theorem cJ:GC Tryz.prog 131 ZC:=Ra (G:=ZV) (c:=Tryz.f131.body.getD .skip) Ga Ld xJ mixed Tryz.func131 (by kernel_rfl) Tryz.ntmps131 (Ha (G:=ZV) (n:=0) (by kernel_rfl) (by kernel_rfl) trivial (by kernel_rfl)) (fun s=>by kernel_rfl)
def Br:Za:=⟨⟨[0,1,5],⟨[.c (.one (.b (.sl false .en))),.c (.one (.b (.sl false .en))),zc],[]⟩,[.ls .en,.ls .en,.int]⟩,0,⟨[],⟨[],[]⟩,[]⟩,⟨[4],⟨[.c (.one (.b .bool))],[]⟩,[.bool]⟩,lp Tz Fa⟩
def AW:Ma:=⟨⟨[.c (.one (.b (.sl false .en))),.c (.one (.b (.sl false .en)))],[]⟩,[.ls .en,.ls .en],⟨[.c (.one (.b .bool))],[]⟩,[.bool],EK⟩
def AD:Ka:=Qa tab [(162,[],NV)] 27 0 [(6,8,tk 8,[])] [(4,Br)]
theorem cK:Na Tryz.prog AD.Γ:=Pa (l:=[(162,[],NV)]) ⟨⟨wY,Tryz.call162⟩,trivial⟩
theorem xK:Cb Tryz.prog 0 27 (Bb (Tryz.f153.body.getD .skip) 0) Br:=Jb (G:=AD) (F:=Br.F) (eid:=Br.eid) (FX:=Br.FX) (FR:=Br.FR) (B:=Tz) (n:=Fa) Ga Ja cK mixed (Ha (G:=AD) (n:=0) (by kernel_rfl) (by kernel_rfl) trivial (by kernel_rfl)) (fun s=>by kernel_rfl)
theorem xL:GC Tryz.prog 153 AW:=Ra (G:=AD) (c:=Tryz.f153.body.getD .skip) Ga Ja cK mixed Tryz.func153 (by kernel_rfl) Tryz.ntmps153 (Ha (G:=AD) (n:=1) (by kernel_rfl) (by kernel_rfl) ⟨trivial,Kb (id:=4) (L0:=Br) (by kernel_rfl) (by kernel_rfl) xK⟩ (by kernel_rfl)) (fun s=>by kernel_rfl)
def BD:Ma:=⟨⟨[.c (.agg [zi,zi,(.b (.sl false .en))]),zc],[]⟩,[.int,.int,.ls .en,.int],⟨[zc],[]⟩,[.int],Uz⟩
def BW:Ka:=Qa tab [(148,[],DV)] 12 0 [] []
theorem xM:Na Tryz.prog BW.Γ:=Pa (l:=[(148,[],DV)]) ⟨⟨wO,Tryz.call148⟩,trivial⟩
theorem cL:GC Tryz.prog 126 BD:=Ra (G:=BW) (c:=Tryz.f126.body.getD .skip) Ga Ja xM mixed Tryz.func126 (by kernel_rfl) Tryz.ntmps126 (Ha (G:=BW) (n:=0) (by kernel_rfl) (by kernel_rfl) trivial (by kernel_rfl)) (fun s=>by kernel_rfl)
def Cr:Za:=⟨⟨[0,1,5],⟨[.c (.one (.b (.sl false .bool))),.c (.one (.b (.sl false .bool))),zc],[]⟩,[.ls .bool,.ls .bool,.int]⟩,0,⟨[],⟨[],[]⟩,[]⟩,⟨[4],⟨[.c (.one (.b .bool))],[]⟩,[.bool]⟩,lp Vz Fa⟩
def CW:Ma:=⟨⟨[.c (.one (.b (.sl false .bool))),.c (.one (.b (.sl false .bool)))],[]⟩,[.ls .bool,.ls .bool],⟨[.c (.one (.b .bool))],[]⟩,[.bool],FK⟩
def CD:Ka:=Qa tab [] 26 0 [(6,8,tk 8,[])] [(4,Cr)]
theorem cM:Na Tryz.prog CD.Γ:=Pa (l:=[]) trivial
theorem xN:Cb Tryz.prog 0 26 (Bb (Tryz.f46.body.getD .skip) 0) Cr:=Jb (G:=CD) (F:=Cr.F) (eid:=Cr.eid) (FX:=Cr.FX) (FR:=Cr.FR) (B:=Vz) (n:=Fa) Ga Ja cM mixed (Ha (G:=CD) (n:=0) (by kernel_rfl) (by kernel_rfl) trivial (by kernel_rfl)) (fun s=>by kernel_rfl)
theorem xO:GC Tryz.prog 46 CW:=Ra (G:=CD) (c:=Tryz.f46.body.getD .skip) Ga Ja cM mixed Tryz.func46 (by kernel_rfl) Tryz.ntmps46 (Ha (G:=CD) (n:=1) (by kernel_rfl) (by kernel_rfl) ⟨trivial,Kb (id:=4) (L0:=Cr) (by kernel_rfl) (by kernel_rfl) xN⟩ (by kernel_rfl)) (fun s=>by kernel_rfl)
def xP:Ma:=⟨⟨[.c (.agg [zi,zi])],[]⟩,[.int,.int],⟨[.c (.agg [zi,zi])],[]⟩,[.int,.int],rI⟩
def DW:Ka:=Qa tab [] 11 0 [] []
theorem xQ:Na Tryz.prog DW.Γ:=Pa (l:=[]) trivial
theorem xR:GC Tryz.prog 31 xP:=Ra (G:=DW) (c:=Tryz.f31.body.getD .skip) Ga Ja xQ mixed Tryz.func31 (by kernel_rfl) Tryz.ntmps31 (Ha (G:=DW) (n:=0) (by kernel_rfl) (by kernel_rfl) trivial (by kernel_rfl)) (fun s=>by kernel_rfl)
def EW:Ma:=⟨⟨[.c (.agg [zi,zi,zi,(.b (.sl false .en))])],[]⟩,[.int,.int,.int,.ls .en],⟨[.c (.agg [zi,zi,zi,(.own 0)])],[.row 153 .en]⟩,[.int,.int,.int,.ls .en],GK⟩
def GW:Ka:=Qa Sg [(131,[],ZC)] 12 0 [] []
theorem xS:Na Tryz.prog GW.Γ:=Pa (l:=[(131,[],ZC)]) ⟨⟨cJ,Tryz.call131⟩,trivial⟩
theorem xT:GC Tryz.prog 84 EW:=Ra (G:=GW) (c:=Tryz.f84.body.getD .skip) Ga Ld xS mixed Tryz.func84 (by kernel_rfl) Tryz.ntmps84 (Ha (G:=GW) (n:=0) (by kernel_rfl) (by kernel_rfl) trivial (by kernel_rfl)) (fun s=>by kernel_rfl)
def HW:Ma:=⟨⟨[.c (.agg [zi,zi,zi,(.b (.sl false .en))]),zc],[]⟩,[.int,.int,.int,.ls .en,.int],⟨[zc],[]⟩,[.int],IK⟩
def IW:Ka:=Qa tab [(126,[],BD)] 12 0 [] []
theorem xU:Na Tryz.prog IW.Γ:=Pa (l:=[(126,[],BD)]) ⟨⟨cL,Tryz.call126⟩,trivial⟩
theorem xV:GC Tryz.prog 76 HW:=Ra (G:=IW) (c:=Tryz.f76.body.getD .skip) Ga Ja xU mixed Tryz.func76 (by kernel_rfl) Tryz.ntmps76 (Ha (G:=IW) (n:=0) (by kernel_rfl) (by kernel_rfl) trivial (by kernel_rfl)) (fun s=>by kernel_rfl)
def DD:Ma:=⟨⟨[.c (.agg [zi,zi,(.b (.sl false .en))]),.c (.agg [zi,zi,(.b (.sl false .en))])],[]⟩,[.int,.int,.ls .en,.int,.int,.ls .en],⟨[.c (.one (.b .bool))],[]⟩,[.bool],Wz⟩
def JW:Ka:=Qa tab [(153,[],AW)] 21 0 [] []
theorem xW:Na Tryz.prog JW.Γ:=Pa (l:=[(153,[],AW)]) ⟨⟨xL,Tryz.call153⟩,trivial⟩
theorem cN:GC Tryz.prog 139 DD:=Ra (G:=JW) (c:=Tryz.f139.body.getD .skip) Ga Ja xW mixed Tryz.func139 (by kernel_rfl) Tryz.ntmps139 (Ha (G:=JW) (n:=0) (by kernel_rfl) (by kernel_rfl) trivial (by kernel_rfl)) (fun s=>by kernel_rfl)
def Dr:Za:=⟨⟨[0,3,4],⟨[.c (.one (.b (.sl false .ls))),.c (.one (.own 0)),zc],[.row 108 .uls]⟩,[.ls .ls,.int,.ls .uls]⟩,0,⟨[3],⟨[.c (.one (.own 0))],[.row 108 .uls]⟩,[.ls .uls]⟩,zx,lp Xz Fa⟩
def KW:Ma:=⟨⟨[.c (.one (.b (.sl false .ls)))],[]⟩,[.ls .ls],⟨[.c (.one (.own 0))],[.row 108 .uls]⟩,[.ls .uls],JK⟩
def ED:Ka:=Qa Sg [(131,[],ZC)] 23 0 [] [(3,Dr)]
theorem cO:Na Tryz.prog ED.Γ:=Pa (l:=[(131,[],ZC)]) ⟨⟨cJ,Tryz.call131⟩,trivial⟩
theorem xX:Cb Tryz.prog 0 23 (Bb (Tryz.f83.body.getD .skip) 0) Dr:=Jb (G:=ED) (F:=Dr.F) (eid:=Dr.eid) (FX:=Dr.FX) (FR:=Dr.FR) (B:=Xz) (n:=Fa) Ga Ld cO mixed (Ha (G:=ED) (n:=0) (by kernel_rfl) (by kernel_rfl) trivial (by kernel_rfl)) (fun s=>by kernel_rfl)
theorem xY:GC Tryz.prog 83 KW:=Ra (G:=ED) (c:=Tryz.f83.body.getD .skip) Ga Ld cO mixed Tryz.func83 (by kernel_rfl) Tryz.ntmps83 (Ha (G:=ED) (n:=1) (by kernel_rfl) (by kernel_rfl) ⟨trivial,Kb (id:=3) (L0:=Dr) (by kernel_rfl) (by kernel_rfl) xX⟩ (by kernel_rfl)) (fun s=>by kernel_rfl)
def Er:Za:=⟨⟨[0,1,5],⟨[.c (.one (.b (.sl false .ls))),zc,zc],[]⟩,[.ls .ls,.int,.int]⟩,0,⟨[1],⟨[zc],[]⟩,[.int]⟩,⟨[4],⟨[zc],[]⟩,[.int]⟩,lp Yz Fa⟩
def LW:Ma:=⟨⟨[.c (.one (.b (.sl false .ls))),zc],[]⟩,[.ls .ls,.int],⟨[zc],[]⟩,[.int],LK⟩
def GD:Ka:=Qa tab [(126,[],BD)] 27 0 [] [(5,Er)]
theorem cP:Na Tryz.prog GD.Γ:=Pa (l:=[(126,[],BD)]) ⟨⟨cL,Tryz.call126⟩,trivial⟩
theorem xZ:Cb Tryz.prog 0 27 (Bb (Tryz.f75.body.getD .skip) 0) Er:=Jb (G:=GD) (F:=Er.F) (eid:=Er.eid) (FX:=Er.FX) (FR:=Er.FR) (B:=Yz) (n:=Fa) Ga Ja cP mixed (Ha (G:=GD) (n:=0) (by kernel_rfl) (by kernel_rfl) trivial (by kernel_rfl)) (fun s=>by kernel_rfl)
theorem yA:GC Tryz.prog 75 LW:=Ra (G:=GD) (c:=Tryz.f75.body.getD .skip) Ga Ja cP mixed Tryz.func75 (by kernel_rfl) Tryz.ntmps75 (Ha (G:=GD) (n:=1) (by kernel_rfl) (by kernel_rfl) ⟨trivial,Kb (id:=5) (L0:=Er) (by kernel_rfl) (by kernel_rfl) xZ⟩ (by kernel_rfl)) (fun s=>by kernel_rfl)
def Fr:Za:=⟨⟨[0,3,4],⟨[.c (.one (.b (.sl false .pk))),.c (.one (.own 0)),zc],[.row 112 .upk]⟩,[.ls .pk,.int,.ls .upk]⟩,0,⟨[3],⟨[.c (.one (.own 0))],[.row 112 .upk]⟩,[.ls .upk]⟩,zx,lp Zz Fa⟩
def MW:Ma:=⟨⟨[.c (.one (.b (.sl false .pk)))],[]⟩,[.ls .pk],⟨[.c (.one (.own 0))],[.row 112 .upk]⟩,[.ls .upk],MK⟩
def ID:Ka:=Qa Sg [(84,[],EW)] 23 0 [] [(3,Fr)]
theorem cQ:Na Tryz.prog ID.Γ:=Pa (l:=[(84,[],EW)]) ⟨⟨xT,Tryz.call84⟩,trivial⟩
theorem yB:Cb Tryz.prog 0 23 (Bb (Tryz.f42.body.getD .skip) 0) Fr:=Jb (G:=ID) (F:=Fr.F) (eid:=Fr.eid) (FX:=Fr.FX) (FR:=Fr.FR) (B:=Zz) (n:=Fa) Ga Ld cQ mixed (Ha (G:=ID) (n:=0) (by kernel_rfl) (by kernel_rfl) trivial (by kernel_rfl)) (fun s=>by kernel_rfl)
theorem yC:GC Tryz.prog 42 MW:=Ra (G:=ID) (c:=Tryz.f42.body.getD .skip) Ga Ld cQ mixed Tryz.func42 (by kernel_rfl) Tryz.ntmps42 (Ha (G:=ID) (n:=1) (by kernel_rfl) (by kernel_rfl) ⟨trivial,Kb (id:=3) (L0:=Fr) (by kernel_rfl) (by kernel_rfl) yB⟩ (by kernel_rfl)) (fun s=>by kernel_rfl)
def NW:Ma:=⟨⟨[.c (.agg [zi,zi,zi,(.b (.sl false .en))]),.c (.agg [zi,zi,zi,(.b (.sl false .en))])],[]⟩,[.int,.int,.int,.ls .en,.int,.int,.int,.ls .en],⟨[.c (.one (.b .bool))],[]⟩,[.bool],NK⟩
def OW:Ka:=Qa tab [(139,[],DD)] 16 0 [] []
theorem yD:Na Tryz.prog OW.Γ:=Pa (l:=[(139,[],DD)]) ⟨⟨cN,Tryz.call139⟩,trivial⟩
theorem yE:GC Tryz.prog 96 NW:=Ra (G:=OW) (c:=Tryz.f96.body.getD .skip) Ga Ja yD mixed Tryz.func96 (by kernel_rfl) Tryz.ntmps96 (Ha (G:=OW) (n:=0) (by kernel_rfl) (by kernel_rfl) trivial (by kernel_rfl)) (fun s=>by kernel_rfl)
def Ir:Za:=⟨⟨[0,1,5],⟨[.c (.one (.b (.sl false .ls))),.c (.one (.b (.sl false .ls))),zc],[]⟩,[.ls .ls,.ls .ls,.int]⟩,0,⟨[],⟨[],[]⟩,[]⟩,⟨[4],⟨[.c (.one (.b .bool))],[]⟩,[.bool]⟩,lp AA Fa⟩
def PW:Ma:=⟨⟨[.c (.one (.b (.sl false .ls))),.c (.one (.b (.sl false .ls)))],[]⟩,[.ls .ls,.ls .ls],⟨[.c (.one (.b .bool))],[]⟩,[.bool],OK⟩
def JD:Ka:=Qa tab [(139,[],DD)] 27 0 [(6,8,tk 8,[])] [(4,Ir)]
theorem cR:Na Tryz.prog JD.Γ:=Pa (l:=[(139,[],DD)]) ⟨⟨cN,Tryz.call139⟩,trivial⟩
theorem yF:Cb Tryz.prog 0 27 (Bb (Tryz.f95.body.getD .skip) 0) Ir:=Jb (G:=JD) (F:=Ir.F) (eid:=Ir.eid) (FX:=Ir.FX) (FR:=Ir.FR) (B:=AA) (n:=Fa) Ga Ja cR mixed (Ha (G:=JD) (n:=0) (by kernel_rfl) (by kernel_rfl) trivial (by kernel_rfl)) (fun s=>by kernel_rfl)
theorem yG:GC Tryz.prog 95 PW:=Ra (G:=JD) (c:=Tryz.f95.body.getD .skip) Ga Ja cR mixed Tryz.func95 (by kernel_rfl) Tryz.ntmps95 (Ha (G:=JD) (n:=1) (by kernel_rfl) (by kernel_rfl) ⟨trivial,Kb (id:=4) (L0:=Ir) (by kernel_rfl) (by kernel_rfl) yF⟩ (by kernel_rfl)) (fun s=>by kernel_rfl)
def Jr:Za:=⟨⟨[0,1,5],⟨[.c (.one (.b (.sl false .pk))),zc,zc],[]⟩,[.ls .pk,.int,.int]⟩,0,⟨[1],⟨[zc],[]⟩,[.int]⟩,⟨[4],⟨[zc],[]⟩,[.int]⟩,lp BA Fa⟩
def QW:Ma:=⟨⟨[.c (.one (.b (.sl false .pk))),zc],[]⟩,[.ls .pk,.int],⟨[zc],[]⟩,[.int],PK⟩
def KD:Ka:=Qa tab [(76,[],HW)] 27 0 [] [(5,Jr)]
theorem cS:Na Tryz.prog KD.Γ:=Pa (l:=[(76,[],HW)]) ⟨⟨xV,Tryz.call76⟩,trivial⟩
theorem yH:Cb Tryz.prog 0 27 (Bb (Tryz.f36.body.getD .skip) 0) Jr:=Jb (G:=KD) (F:=Jr.F) (eid:=Jr.eid) (FX:=Jr.FX) (FR:=Jr.FR) (B:=BA) (n:=Fa) Ga Ja cS mixed (Ha (G:=KD) (n:=0) (by kernel_rfl) (by kernel_rfl) trivial (by kernel_rfl)) (fun s=>by kernel_rfl)
theorem yI:GC Tryz.prog 36 QW:=Ra (G:=KD) (c:=Tryz.f36.body.getD .skip) Ga Ja cS mixed Tryz.func36 (by kernel_rfl) Tryz.ntmps36 (Ha (G:=KD) (n:=1) (by kernel_rfl) (by kernel_rfl) ⟨trivial,Kb (id:=5) (L0:=Jr) (by kernel_rfl) (by kernel_rfl) yH⟩ (by kernel_rfl)) (fun s=>by kernel_rfl)
def Kr:Za:=⟨⟨[0,3,4],⟨[.c (.one (.b (.sl false .db))),.c (.one (.own 0)),zc],[.row 86 .udb]⟩,[.ls .db,.int,.ls .udb]⟩,0,⟨[3],⟨[.c (.one (.own 0))],[.row 86 .udb]⟩,[.ls .udb]⟩,zx,lp DA Fa⟩
def RW:Ma:=⟨⟨[.c (.one (.b (.sl false .db)))],[]⟩,[.ls .db],⟨[.c (.one (.own 0))],[.row 86 .udb]⟩,[.ls .udb],QK⟩
def LD:Ka:=Qa Sg [(83,[],KW)] 23 0 [] [(3,Kr)]
theorem cU:Na Tryz.prog LD.Γ:=Pa (l:=[(83,[],KW)]) ⟨⟨xY,Tryz.call83⟩,trivial⟩
theorem yJ:Cb Tryz.prog 0 23 (Bb (Tryz.f41.body.getD .skip) 0) Kr:=Jb (G:=LD) (F:=Kr.F) (eid:=Kr.eid) (FX:=Kr.FX) (FR:=Kr.FR) (B:=DA) (n:=Fa) Ga Ld cU mixed (Ha (G:=LD) (n:=0) (by kernel_rfl) (by kernel_rfl) trivial (by kernel_rfl)) (fun s=>by kernel_rfl)
theorem yK:GC Tryz.prog 41 RW:=Ra (G:=LD) (c:=Tryz.f41.body.getD .skip) Ga Ld cU mixed Tryz.func41 (by kernel_rfl) Tryz.ntmps41 (Ha (G:=LD) (n:=1) (by kernel_rfl) (by kernel_rfl) ⟨trivial,Kb (id:=3) (L0:=Kr) (by kernel_rfl) (by kernel_rfl) yJ⟩ (by kernel_rfl)) (fun s=>by kernel_rfl)
def yL:Ma:=⟨⟨[.c (.agg [zi,(.b (.sl false .lk)),(.b (.sl false .bool)),(.b (.sl false .int)),(.b (.sl false .db)),(.b (.sl false .pk))])],[]⟩,[.int,.ls .lk,.ls .bool,.ls .int,.ls .db,.ls .pk],⟨[.c (.agg [zi,(.own 0),(.own 1),(.own 2),(.own 3),(.own 4)])],[.row 114 .lk,.row 4 .bool,.row 3 .int,.row 86 .udb,.row 112 .upk]⟩,[.int,.ls .lk,.ls .bool,.ls .int,.ls .udb,.ls .upk],YS⟩
def SW:Ka:=Qa Sg [(40,[],AV),(22,[],HV),(39,[],SV),(42,[],MW),(41,[],RW)] 25 0 [] []
theorem yM:Na Tryz.prog SW.Γ:=Pa (l:=[(40,[],AV),(22,[],HV),(39,[],SV),(42,[],MW),(41,[],RW)]) ⟨⟨wI,Tryz.call40⟩,⟨⟨wQ,Tryz.call22⟩,⟨⟨xC,Tryz.call39⟩,⟨⟨yC,Tryz.call42⟩,⟨⟨yK,Tryz.call41⟩,trivial⟩⟩⟩⟩⟩
theorem yN:GC Tryz.prog 10 yL:=Ra (G:=SW) (c:=Tryz.f10.body.getD .skip) Ga Ld yM mixed Tryz.func10 (by kernel_rfl) Tryz.ntmps10 (Ha (G:=SW) (n:=0) (by kernel_rfl) (by kernel_rfl) trivial (by kernel_rfl)) (fun s=>by kernel_rfl)
def Lr:Za:=⟨⟨[0,1,5],⟨[.c (.one (.b (.sl false .db))),zc,zc],[]⟩,[.ls .db,.int,.int]⟩,0,⟨[1],⟨[zc],[]⟩,[.int]⟩,⟨[4],⟨[zc],[]⟩,[.int]⟩,lp EA Fa⟩
def TW:Ma:=⟨⟨[.c (.one (.b (.sl false .db))),zc],[]⟩,[.ls .db,.int],⟨[zc],[]⟩,[.int],RK⟩
def ND:Ka:=Qa tab [(75,[],LW)] 27 0 [] [(5,Lr)]
theorem cV:Na Tryz.prog ND.Γ:=Pa (l:=[(75,[],LW)]) ⟨⟨yA,Tryz.call75⟩,trivial⟩
theorem yO:Cb Tryz.prog 0 27 (Bb (Tryz.f35.body.getD .skip) 0) Lr:=Jb (G:=ND) (F:=Lr.F) (eid:=Lr.eid) (FX:=Lr.FX) (FR:=Lr.FR) (B:=EA) (n:=Fa) Ga Ja cV mixed (Ha (G:=ND) (n:=0) (by kernel_rfl) (by kernel_rfl) trivial (by kernel_rfl)) (fun s=>by kernel_rfl)
theorem yP:GC Tryz.prog 35 TW:=Ra (G:=ND) (c:=Tryz.f35.body.getD .skip) Ga Ja cV mixed Tryz.func35 (by kernel_rfl) Tryz.ntmps35 (Ha (G:=ND) (n:=1) (by kernel_rfl) (by kernel_rfl) ⟨trivial,Kb (id:=5) (L0:=Lr) (by kernel_rfl) (by kernel_rfl) yO⟩ (by kernel_rfl)) (fun s=>by kernel_rfl)
def yQ:Ma:=⟨⟨[.c (.agg [zi,(.b (.sl false .lk)),(.b (.sl false .bool)),(.b (.sl false .int)),(.b (.sl false .db)),(.b (.sl false .pk))]),zc],[]⟩,[.int,.ls .lk,.ls .bool,.ls .int,.ls .db,.ls .pk,.int],⟨[zc],[]⟩,[.int],ZS⟩
def UW:Ka:=Qa tab [(19,[],UU),(33,[],UV),(34,[],XV),(36,[],QW),(35,[],TW)] 36 0 [] []
theorem yR:Na Tryz.prog UW.Γ:=Pa (l:=[(19,[],UU),(33,[],UV),(34,[],XV),(36,[],QW),(35,[],TW)]) ⟨⟨wC,Tryz.call19⟩,⟨⟨xG,Tryz.call33⟩,⟨⟨xI,Tryz.call34⟩,⟨⟨yI,Tryz.call36⟩,⟨⟨yP,Tryz.call35⟩,trivial⟩⟩⟩⟩⟩
theorem yS:GC Tryz.prog 8 yQ:=Ra (G:=UW) (c:=Tryz.f8.body.getD .skip) Ga Ja yR mixed Tryz.func8 (by kernel_rfl) Tryz.ntmps8 (Ha (G:=UW) (n:=0) (by kernel_rfl) (by kernel_rfl) trivial (by kernel_rfl)) (fun s=>by kernel_rfl)
def Mr:Za:=⟨⟨[0,1,5],⟨[.c (.one (.b (.sl false .pk))),.c (.one (.b (.sl false .pk))),zc],[]⟩,[.ls .pk,.ls .pk,.int]⟩,0,⟨[],⟨[],[]⟩,[]⟩,⟨[4],⟨[.c (.one (.b .bool))],[]⟩,[.bool]⟩,lp FA Fa⟩
def WW:Ma:=⟨⟨[.c (.one (.b (.sl false .pk))),.c (.one (.b (.sl false .pk)))],[]⟩,[.ls .pk,.ls .pk],⟨[.c (.one (.b .bool))],[]⟩,[.bool],SK⟩
def OD:Ka:=Qa tab [(96,[],NW)] 27 0 [(6,8,tk 8,[])] [(4,Mr)]
theorem cW:Na Tryz.prog OD.Γ:=Pa (l:=[(96,[],NW)]) ⟨⟨yE,Tryz.call96⟩,trivial⟩
theorem yT:Cb Tryz.prog 0 27 (Bb (Tryz.f49.body.getD .skip) 0) Mr:=Jb (G:=OD) (F:=Mr.F) (eid:=Mr.eid) (FX:=Mr.FX) (FR:=Mr.FR) (B:=FA) (n:=Fa) Ga Ja cW mixed (Ha (G:=OD) (n:=0) (by kernel_rfl) (by kernel_rfl) trivial (by kernel_rfl)) (fun s=>by kernel_rfl)
theorem yU:GC Tryz.prog 49 WW:=Ra (G:=OD) (c:=Tryz.f49.body.getD .skip) Ga Ja cW mixed Tryz.func49 (by kernel_rfl) Tryz.ntmps49 (Ha (G:=OD) (n:=1) (by kernel_rfl) (by kernel_rfl) ⟨trivial,Kb (id:=4) (L0:=Mr) (by kernel_rfl) (by kernel_rfl) yT⟩ (by kernel_rfl)) (fun s=>by kernel_rfl)
def Nr:Za:=⟨⟨[0,1,5],⟨[.c (.one (.b (.sl false .db))),.c (.one (.b (.sl false .db))),zc],[]⟩,[.ls .db,.ls .db,.int]⟩,0,⟨[],⟨[],[]⟩,[]⟩,⟨[4],⟨[.c (.one (.b .bool))],[]⟩,[.bool]⟩,lp GA Fa⟩
def XW:Ma:=⟨⟨[.c (.one (.b (.sl false .db))),.c (.one (.b (.sl false .db)))],[]⟩,[.ls .db,.ls .db],⟨[.c (.one (.b .bool))],[]⟩,[.bool],TK⟩
def PD:Ka:=Qa tab [(95,[],PW)] 27 0 [(6,8,tk 8,[])] [(4,Nr)]
theorem cX:Na Tryz.prog PD.Γ:=Pa (l:=[(95,[],PW)]) ⟨⟨yG,Tryz.call95⟩,trivial⟩
theorem yV:Cb Tryz.prog 0 27 (Bb (Tryz.f48.body.getD .skip) 0) Nr:=Jb (G:=PD) (F:=Nr.F) (eid:=Nr.eid) (FX:=Nr.FX) (FR:=Nr.FR) (B:=GA) (n:=Fa) Ga Ja cX mixed (Ha (G:=PD) (n:=0) (by kernel_rfl) (by kernel_rfl) trivial (by kernel_rfl)) (fun s=>by kernel_rfl)
theorem yW:GC Tryz.prog 48 XW:=Ra (G:=PD) (c:=Tryz.f48.body.getD .skip) Ga Ja cX mixed Tryz.func48 (by kernel_rfl) Tryz.ntmps48 (Ha (G:=PD) (n:=1) (by kernel_rfl) (by kernel_rfl) ⟨trivial,Kb (id:=4) (L0:=Nr) (by kernel_rfl) (by kernel_rfl) yV⟩ (by kernel_rfl)) (fun s=>by kernel_rfl)
def yX:Ma:=⟨⟨[.c (.agg [zi,(.b (.sl false .lk)),(.b (.sl false .bool)),(.b (.sl false .int)),(.b (.sl false .db)),(.b (.sl false .pk))]),.c (.agg [zi,(.b (.sl false .lk)),(.b (.sl false .bool)),(.b (.sl false .int)),(.b (.sl false .db)),(.b (.sl false .pk))])],[]⟩,[.int,.ls .lk,.ls .bool,.ls .int,.ls .db,.ls .pk,.int,.ls .lk,.ls .bool,.ls .int,.ls .db,.ls .pk],⟨[.c (.one (.b .bool))],[]⟩,[.bool],AT⟩
def YW:Ka:=Qa tab [(47,[],CV),(12,[],QV),(46,[],CW),(49,[],WW),(48,[],XW)] 35 0 [] []
theorem yY:Na Tryz.prog YW.Γ:=Pa (l:=[(47,[],CV),(12,[],QV),(46,[],CW),(49,[],WW),(48,[],XW)]) ⟨⟨wM,Tryz.call47⟩,⟨⟨xA,Tryz.call12⟩,⟨⟨xO,Tryz.call46⟩,⟨⟨yU,Tryz.call49⟩,⟨⟨yW,Tryz.call48⟩,trivial⟩⟩⟩⟩⟩
theorem yZ:GC Tryz.prog 13 yX:=Ra (G:=YW) (c:=Tryz.f13.body.getD .skip) Ga Ja yY mixed Tryz.func13 (by kernel_rfl) Tryz.ntmps13 (Ha (G:=YW) (n:=0) (by kernel_rfl) (by kernel_rfl) trivial (by kernel_rfl)) (fun s=>by kernel_rfl)
def Pr:Za:=⟨⟨[0,1,5],⟨[.c (.one (.own 0)),zc,zc],[.row 114 .lk]⟩,[.int,.int,.ls .lk]⟩,0,⟨[1],⟨[zc],[.row 114 .lk]⟩,[.int,.ls .lk]⟩,zx,lp IA Fa⟩
def ZW:Ma:=⟨⟨[.c (.one (.own 0)),zc],[.row 114 .lk]⟩,[.int,.ls .lk],⟨[zc],[.row 114 .lk]⟩,[.int,.ls .lk],UK⟩
def QD:Ka:=Qa tab [] 34 1 [] [(2,Pr)]
theorem cY:Na Tryz.prog QD.Γ:=Pa (l:=[]) trivial
theorem zA:Cb Tryz.prog 1 34 (Bb (Tryz.f54.body.getD .skip) 0) Pr:=Jb (G:=QD) (F:=Pr.F) (eid:=Pr.eid) (FX:=Pr.FX) (FR:=Pr.FR) (B:=IA) (n:=Fa) Ga Ja cY mixed (Ha (G:=QD) (n:=0) (by kernel_rfl) (by kernel_rfl) trivial (by kernel_rfl)) (fun s=>by kernel_rfl)
theorem zB:GC Tryz.prog 54 ZW:=Ra (G:=QD) (c:=Tryz.f54.body.getD .skip) Ga Ja cY mixed Tryz.func54 (by kernel_rfl) Tryz.ntmps54 (Ha (G:=QD) (n:=1) (by kernel_rfl) (by kernel_rfl) ⟨trivial,Kb (id:=2) (L0:=Pr) (by kernel_rfl) (by kernel_rfl) zA⟩ (by kernel_rfl)) (fun s=>by kernel_rfl)
def Qr:Za:=⟨⟨[0,1,5],⟨[.c (.one (.own 0)),zc,zc],[.row 3 .int]⟩,[.int,.int,.ls .int]⟩,0,⟨[1],⟨[zc],[.row 3 .int]⟩,[.int,.ls .int]⟩,zx,lp JA Fa⟩
def zC:Ma:=⟨⟨[.c (.one (.own 0)),zc],[.row 3 .int]⟩,[.int,.ls .int],⟨[zc],[.row 3 .int]⟩,[.int,.ls .int],BT⟩
def RD:Ka:=Qa tab [] 19 1 [] [(2,Qr)]
theorem cZ:Na Tryz.prog RD.Γ:=Pa (l:=[]) trivial
theorem zD:Cb Tryz.prog 1 19 (Bb (Tryz.f51.body.getD .skip) 0) Qr:=Jb (G:=RD) (F:=Qr.F) (eid:=Qr.eid) (FX:=Qr.FX) (FR:=Qr.FR) (B:=JA) (n:=Fa) Ga Ja cZ mixed (Ha (G:=RD) (n:=0) (by kernel_rfl) (by kernel_rfl) trivial (by kernel_rfl)) (fun s=>by kernel_rfl)
theorem zE:GC Tryz.prog 51 zC:=Ra (G:=RD) (c:=Tryz.f51.body.getD .skip) Ga Ja cZ mixed Tryz.func51 (by kernel_rfl) Tryz.ntmps51 (Ha (G:=RD) (n:=1) (by kernel_rfl) (by kernel_rfl) ⟨trivial,Kb (id:=2) (L0:=Qr) (by kernel_rfl) (by kernel_rfl) zD⟩ (by kernel_rfl)) (fun s=>by kernel_rfl)
def Rr:Za:=⟨⟨[0,1,5],⟨[.c (.one (.b (.sl false .lk))),zc,zc],[]⟩,[.ls .lk,.int,.int]⟩,0,⟨[1],⟨[zc],[]⟩,[.int]⟩,⟨[4],⟨[zc],[]⟩,[.int]⟩,lp KA Fa⟩
def AX:Ma:=⟨⟨[.c (.one (.b (.sl false .lk))),zc],[]⟩,[.ls .lk,.int],⟨[zc],[]⟩,[.int],VK⟩
def SD:Ka:=Qa tab [] 40 0 [] [(2,Rr)]
theorem dA:Na Tryz.prog SD.Γ:=Pa (l:=[]) trivial
theorem zF:Cb Tryz.prog 0 40 (Bb (Tryz.f55.body.getD .skip) 0) Rr:=Jb (G:=SD) (F:=Rr.F) (eid:=Rr.eid) (FX:=Rr.FX) (FR:=Rr.FR) (B:=KA) (n:=Fa) Ga Ja dA mixed (Ha (G:=SD) (n:=0) (by kernel_rfl) (by kernel_rfl) trivial (by kernel_rfl)) (fun s=>by kernel_rfl)
theorem zG:GC Tryz.prog 55 AX:=Ra (G:=SD) (c:=Tryz.f55.body.getD .skip) Ga Ja dA mixed Tryz.func55 (by kernel_rfl) Tryz.ntmps55 (Ha (G:=SD) (n:=1) (by kernel_rfl) (by kernel_rfl) ⟨trivial,Kb (id:=2) (L0:=Rr) (by kernel_rfl) (by kernel_rfl) zF⟩ (by kernel_rfl)) (fun s=>by kernel_rfl)
def Sr:Za:=⟨⟨[0,1,5],⟨[.c (.one (.b (.sl false .int))),zc,zc],[]⟩,[.ls .int,.int,.int]⟩,0,⟨[1],⟨[zc],[]⟩,[.int]⟩,⟨[4],⟨[zc],[]⟩,[.int]⟩,lp LA Fa⟩
def BX:Ma:=⟨⟨[.c (.one (.b (.sl false .int))),zc],[]⟩,[.ls .int,.int],⟨[zc],[]⟩,[.int],WK⟩
def TD:Ka:=Qa tab [] 21 0 [] [(2,Sr)]
theorem dB:Na Tryz.prog TD.Γ:=Pa (l:=[]) trivial
theorem zH:Cb Tryz.prog 0 21 (Bb (Tryz.f69.body.getD .skip) 0) Sr:=Jb (G:=TD) (F:=Sr.F) (eid:=Sr.eid) (FX:=Sr.FX) (FR:=Sr.FR) (B:=LA) (n:=Fa) Ga Ja dB mixed (Ha (G:=TD) (n:=0) (by kernel_rfl) (by kernel_rfl) trivial (by kernel_rfl)) (fun s=>by kernel_rfl)
theorem zI:GC Tryz.prog 69 BX:=Ra (G:=TD) (c:=Tryz.f69.body.getD .skip) Ga Ja dB mixed Tryz.func69 (by kernel_rfl) Tryz.ntmps69 (Ha (G:=TD) (n:=1) (by kernel_rfl) (by kernel_rfl) ⟨trivial,Kb (id:=2) (L0:=Sr) (by kernel_rfl) (by kernel_rfl) zH⟩ (by kernel_rfl)) (fun s=>by kernel_rfl)
def Ur:Za:=⟨⟨[0,1,5],⟨[.c (.one (.own 0)),zc,zc],[.row 153 .en]⟩,[.int,.int,.ls .en]⟩,0,⟨[1],⟨[zc],[.row 153 .en]⟩,[.int,.ls .en]⟩,zx,lp MA Fa⟩
def zJ:Ma:=⟨⟨[.c (.one (.own 0)),zc],[.row 153 .en]⟩,[.int,.ls .en],⟨[zc],[.row 153 .en]⟩,[.int,.ls .en],CT⟩
def UD:Ka:=Qa tab [] 27 1 [] [(2,Ur)]
theorem dC:Na Tryz.prog UD.Γ:=Pa (l:=[]) trivial
theorem zK:Cb Tryz.prog 1 27 (Bb (Tryz.f98.body.getD .skip) 0) Ur:=Jb (G:=UD) (F:=Ur.F) (eid:=Ur.eid) (FX:=Ur.FX) (FR:=Ur.FR) (B:=MA) (n:=Fa) Ga Ja dC mixed (Ha (G:=UD) (n:=0) (by kernel_rfl) (by kernel_rfl) trivial (by kernel_rfl)) (fun s=>by kernel_rfl)
theorem zL:GC Tryz.prog 98 zJ:=Ra (G:=UD) (c:=Tryz.f98.body.getD .skip) Ga Ja dC mixed Tryz.func98 (by kernel_rfl) Tryz.ntmps98 (Ha (G:=UD) (n:=1) (by kernel_rfl) (by kernel_rfl) ⟨trivial,Kb (id:=2) (L0:=Ur) (by kernel_rfl) (by kernel_rfl) zK⟩ (by kernel_rfl)) (fun s=>by kernel_rfl)
def Vr:Za:=⟨⟨[0,1,5],⟨[.c (.one (.b (.sl false .en))),zc,zc],[]⟩,[.ls .en,.int,.int]⟩,0,⟨[1],⟨[zc],[]⟩,[.int]⟩,⟨[4],⟨[zc],[]⟩,[.int]⟩,lp NA Fa⟩
def VD:Ma:=⟨⟨[.c (.one (.b (.sl false .en))),zc],[]⟩,[.ls .en,.int],⟨[zc],[]⟩,[.int],OA⟩
def WD:Ka:=Qa tab [] 31 0 [] [(2,Vr)]
theorem dD:Na Tryz.prog WD.Γ:=Pa (l:=[]) trivial
theorem zM:Cb Tryz.prog 0 31 (Bb (Tryz.f121.body.getD .skip) 0) Vr:=Jb (G:=WD) (F:=Vr.F) (eid:=Vr.eid) (FX:=Vr.FX) (FR:=Vr.FR) (B:=NA) (n:=Fa) Ga Ja dD mixed (Ha (G:=WD) (n:=0) (by kernel_rfl) (by kernel_rfl) trivial (by kernel_rfl)) (fun s=>by kernel_rfl)
theorem dE:GC Tryz.prog 121 VD:=Ra (G:=WD) (c:=Tryz.f121.body.getD .skip) Ga Ja dD mixed Tryz.func121 (by kernel_rfl) Tryz.ntmps121 (Ha (G:=WD) (n:=1) (by kernel_rfl) (by kernel_rfl) ⟨trivial,Kb (id:=2) (L0:=Vr) (by kernel_rfl) (by kernel_rfl) zM⟩ (by kernel_rfl)) (fun s=>by kernel_rfl)
def Wr:Za:=⟨⟨[0,1,5],⟨[.c (.one (.own 0)),zc,zc],[.row 4 .bool]⟩,[.int,.int,.ls .bool]⟩,0,⟨[1],⟨[zc],[.row 4 .bool]⟩,[.int,.ls .bool]⟩,zx,lp PA Fa⟩
def zN:Ma:=⟨⟨[.c (.one (.own 0)),zc],[.row 4 .bool]⟩,[.int,.ls .bool],⟨[zc],[.row 4 .bool]⟩,[.int,.ls .bool],DT⟩
def XD:Ka:=Qa tab [] 21 1 [] [(2,Wr)]
theorem dG:Na Tryz.prog XD.Γ:=Pa (l:=[]) trivial
theorem zO:Cb Tryz.prog 1 21 (Bb (Tryz.f50.body.getD .skip) 0) Wr:=Jb (G:=XD) (F:=Wr.F) (eid:=Wr.eid) (FX:=Wr.FX) (FR:=Wr.FR) (B:=PA) (n:=Fa) Ga Ja dG mixed (Ha (G:=XD) (n:=0) (by kernel_rfl) (by kernel_rfl) trivial (by kernel_rfl)) (fun s=>by kernel_rfl)
theorem zP:GC Tryz.prog 50 zN:=Ra (G:=XD) (c:=Tryz.f50.body.getD .skip) Ga Ja dG mixed Tryz.func50 (by kernel_rfl) Tryz.ntmps50 (Ha (G:=XD) (n:=1) (by kernel_rfl) (by kernel_rfl) ⟨trivial,Kb (id:=2) (L0:=Wr) (by kernel_rfl) (by kernel_rfl) zO⟩ (by kernel_rfl)) (fun s=>by kernel_rfl)
def zQ:Ma:=⟨⟨[.c (.agg [zi,(.own 0)]),zc],[.row 114 .lk]⟩,[.int,.int,.ls .lk],⟨[zc],[.row 114 .lk]⟩,[.int,.ls .lk],ET⟩
def CX:Ka:=Qa tab [(54,[],ZW)] 10 1 [] []
theorem zR:Na Tryz.prog CX.Γ:=Pa (l:=[(54,[],ZW)]) ⟨⟨zB,Tryz.call54⟩,trivial⟩
theorem zS:GC Tryz.prog 15 zQ:=Ra (G:=CX) (c:=Tryz.f15.body.getD .skip) Ga Ja zR mixed Tryz.func15 (by kernel_rfl) Tryz.ntmps15 (Ha (G:=CX) (n:=0) (by kernel_rfl) (by kernel_rfl) trivial (by kernel_rfl)) (fun s=>by kernel_rfl)
def DX:Ma:=⟨⟨[.c (.agg [zi,(.b (.sl false .lk))]),zc],[]⟩,[.int,.ls .lk,.int],⟨[zc],[]⟩,[.int],XK⟩
def EX:Ka:=Qa tab [(55,[],AX)] 12 0 [] []
theorem zT:Na Tryz.prog EX.Γ:=Pa (l:=[(55,[],AX)]) ⟨⟨zG,Tryz.call55⟩,trivial⟩
theorem zU:GC Tryz.prog 16 DX:=Ra (G:=EX) (c:=Tryz.f16.body.getD .skip) Ga Ja zT mixed Tryz.func16 (by kernel_rfl) Tryz.ntmps16 (Ha (G:=EX) (n:=0) (by kernel_rfl) (by kernel_rfl) trivial (by kernel_rfl)) (fun s=>by kernel_rfl)
def Xr:Za:=⟨⟨[0,1,5],⟨[.c (.one (.b (.sl false .bool))),zc,zc],[]⟩,[.ls .bool,.int,.int]⟩,0,⟨[1],⟨[zc],[]⟩,[.int]⟩,⟨[4],⟨[zc],[]⟩,[.int]⟩,lp QA Fa⟩
def GX:Ma:=⟨⟨[.c (.one (.b (.sl false .bool))),zc],[]⟩,[.ls .bool,.int],⟨[zc],[]⟩,[.int],YK⟩
def YD:Ka:=Qa tab [] 23 0 [] [(2,Xr)]
theorem dH:Na Tryz.prog YD.Γ:=Pa (l:=[]) trivial
theorem zV:Cb Tryz.prog 0 23 (Bb (Tryz.f68.body.getD .skip) 0) Xr:=Jb (G:=YD) (F:=Xr.F) (eid:=Xr.eid) (FX:=Xr.FX) (FR:=Xr.FR) (B:=QA) (n:=Fa) Ga Ja dH mixed (Ha (G:=YD) (n:=0) (by kernel_rfl) (by kernel_rfl) trivial (by kernel_rfl)) (fun s=>by kernel_rfl)
theorem zX:GC Tryz.prog 68 GX:=Ra (G:=YD) (c:=Tryz.f68.body.getD .skip) Ga Ja dH mixed Tryz.func68 (by kernel_rfl) Tryz.ntmps68 (Ha (G:=YD) (n:=1) (by kernel_rfl) (by kernel_rfl) ⟨trivial,Kb (id:=2) (L0:=Xr) (by kernel_rfl) (by kernel_rfl) zV⟩ (by kernel_rfl)) (fun s=>by kernel_rfl)
def Yr:Za:=⟨⟨[0,1,5],⟨[.c (.one (.b (.sl false .ls))),zc,zc],[]⟩,[.ls .ls,.int,.int]⟩,0,⟨[1],⟨[zc],[]⟩,[.int]⟩,⟨[4],⟨[zc],[]⟩,[.int]⟩,lp RA Fa⟩
def HX:Ma:=⟨⟨[.c (.one (.b (.sl false .ls))),zc],[]⟩,[.ls .ls,.int],⟨[zc],[]⟩,[.int],ZK⟩
def ZD:Ka:=Qa tab [(121,[],VD)] 40 0 [] [(2,Yr)]
theorem dI:Na Tryz.prog ZD.Γ:=Pa (l:=[(121,[],VD)]) ⟨⟨dE,Tryz.call121⟩,trivial⟩
theorem zY:Cb Tryz.prog 0 40 (Bb (Tryz.f120.body.getD .skip) 0) Yr:=Jb (G:=ZD) (F:=Yr.F) (eid:=Yr.eid) (FX:=Yr.FX) (FR:=Yr.FR) (B:=RA) (n:=Fa) Ga Ja dI mixed (Ha (G:=ZD) (n:=0) (by kernel_rfl) (by kernel_rfl) trivial (by kernel_rfl)) (fun s=>by kernel_rfl)
theorem zZ:GC Tryz.prog 120 HX:=Ra (G:=ZD) (c:=Tryz.f120.body.getD .skip) Ga Ja dI mixed Tryz.func120 (by kernel_rfl) Tryz.ntmps120 (Ha (G:=ZD) (n:=1) (by kernel_rfl) (by kernel_rfl) ⟨trivial,Kb (id:=2) (L0:=Yr) (by kernel_rfl) (by kernel_rfl) zY⟩ (by kernel_rfl)) (fun s=>by kernel_rfl)
def Zr:Za:=⟨⟨[0,1,5],⟨[.c (.one (.b (.sl false .pk))),zc,zc],[]⟩,[.ls .pk,.int,.int]⟩,0,⟨[1],⟨[zc],[]⟩,[.int]⟩,⟨[4],⟨[zc],[]⟩,[.int]⟩,lp SA Fa⟩
def IX:Ma:=⟨⟨[.c (.one (.b (.sl false .pk))),zc],[]⟩,[.ls .pk,.int],⟨[zc],[]⟩,[.int],AL⟩
def AE:Ka:=Qa tab [(121,[],VD)] 52 0 [] [(2,Zr)]
theorem dJ:Na Tryz.prog AE.Γ:=Pa (l:=[(121,[],VD)]) ⟨⟨dE,Tryz.call121⟩,trivial⟩
theorem zIY:Cb Tryz.prog 0 52 (Bb (Tryz.f71.body.getD .skip) 0) Zr:=Jb (G:=AE) (F:=Zr.F) (eid:=Zr.eid) (FX:=Zr.FX) (FR:=Zr.FR) (B:=SA) (n:=Fa) Ga Ja dJ mixed (Ha (G:=AE) (n:=0) (by kernel_rfl) (by kernel_rfl) trivial (by kernel_rfl)) (fun s=>by kernel_rfl)
theorem zKB:GC Tryz.prog 71 IX:=Ra (G:=AE) (c:=Tryz.f71.body.getD .skip) Ga Ja dJ mixed Tryz.func71 (by kernel_rfl) Tryz.ntmps71 (Ha (G:=AE) (n:=1) (by kernel_rfl) (by kernel_rfl) ⟨trivial,Kb (id:=2) (L0:=Zr) (by kernel_rfl) (by kernel_rfl) zIY⟩ (by kernel_rfl)) (fun s=>by kernel_rfl)
def As:Za:=⟨⟨[0,1,5],⟨[.c (.one (.b (.sl false .db))),zc,zc],[]⟩,[.ls .db,.int,.int]⟩,0,⟨[1],⟨[zc],[]⟩,[.int]⟩,⟨[4],⟨[zc],[]⟩,[.int]⟩,lp TA Fa⟩
def JX:Ma:=⟨⟨[.c (.one (.b (.sl false .db))),zc],[]⟩,[.ls .db,.int],⟨[zc],[]⟩,[.int],BL⟩
def BE:Ka:=Qa tab [(120,[],HX)] 21 0 [] [(2,As)]
theorem dK:Na Tryz.prog BE.Γ:=Pa (l:=[(120,[],HX)]) ⟨⟨zZ,Tryz.call120⟩,trivial⟩
theorem zIW:Cb Tryz.prog 0 21 (Bb (Tryz.f70.body.getD .skip) 0) As:=Jb (G:=BE) (F:=As.F) (eid:=As.eid) (FX:=As.FX) (FR:=As.FR) (B:=TA) (n:=Fa) Ga Ja dK mixed (Ha (G:=BE) (n:=0) (by kernel_rfl) (by kernel_rfl) trivial (by kernel_rfl)) (fun s=>by kernel_rfl)
theorem zKA:GC Tryz.prog 70 JX:=Ra (G:=BE) (c:=Tryz.f70.body.getD .skip) Ga Ja dK mixed Tryz.func70 (by kernel_rfl) Tryz.ntmps70 (Ha (G:=BE) (n:=1) (by kernel_rfl) (by kernel_rfl) ⟨trivial,Kb (id:=2) (L0:=As) (by kernel_rfl) (by kernel_rfl) zIW⟩ (by kernel_rfl)) (fun s=>by kernel_rfl)
def zEM:Ma:=⟨⟨[.c (.agg [zi,(.b (.sl false .lk)),(.b (.sl false .bool)),(.b (.sl false .int)),(.b (.sl false .db)),(.b (.sl false .pk))]),zc],[]⟩,[.int,.ls .lk,.ls .bool,.ls .int,.ls .db,.ls .pk,.int],⟨[zc],[]⟩,[.int],FT⟩
def KX:Ka:=Qa tab [(69,[],BX),(16,[],DX),(68,[],GX),(71,[],IX),(70,[],JX)] 36 0 [] []
theorem zOE:Na Tryz.prog KX.Γ:=Pa (l:=[(69,[],BX),(16,[],DX),(68,[],GX),(71,[],IX),(70,[],JX)]) ⟨⟨zI,Tryz.call69⟩,⟨⟨zU,Tryz.call16⟩,⟨⟨zX,Tryz.call68⟩,⟨⟨zKB,Tryz.call71⟩,⟨⟨zKA,Tryz.call70⟩,trivial⟩⟩⟩⟩⟩
theorem zKC:GC Tryz.prog 27 zEM:=Ra (G:=KX) (c:=Tryz.f27.body.getD .skip) Ga Ja zOE mixed Tryz.func27 (by kernel_rfl) Tryz.ntmps27 (Ha (G:=KX) (n:=0) (by kernel_rfl) (by kernel_rfl) trivial (by kernel_rfl)) (fun s=>by kernel_rfl)
end
section
open Go.RowKit
def wd (W:Wl):Wd:=⟨W.1,W.2.1,W.2.2.1,W.2.2.2.1,W.2.2.2.2.1,W.2.2.2.2.2⟩
def lw (w:Wd):Wl:=(w.n,w.ls,w.up,w.sq,w.db,w.net)
def FW (W:Wl):Prop:=Uq (wd W)∧Ah W≤3999999999
def FM (W:Wl):Prop:=cB (wd W)
theorem FW.fv {W:Wl} (h:FW W):FV W:=by
  obtain ⟨⟨h1,h2,h3,h4,h5,h6,h7⟩,h8⟩:=h
  dsimp only [wd] at *
  exact ⟨by omega,by omega,by omega,by omega,by omega,fun d hd=>⟨by have:=(h6 d hd).1;omega,fun l hl=>by have:=(h6 d hd).2 l hl;omega⟩,fun p hp=>by have:=h7 p hp;omega,h8⟩
theorem FV.fit {W:Wl} (h:FV W):RU (wd W):=by
  obtain ⟨h1,h2,h3,h4,h5,h6,h7,h8⟩:=h
  exact ⟨by dsimp only [wd];unfold Wa;omega,by dsimp only [wd];unfold Wa;omega,by dsimp only [wd];unfold Wa;omega,by dsimp only [wd];unfold Wa;omega,by dsimp only [wd];unfold Wa;omega,fun d hd=>⟨by have:=(h6 d hd).1;unfold Wa;omega,fun l hl=>by have:=(h6 d hd).2 l hl;unfold Wa;omega⟩,fun p hp=>by have:=h7 p hp;unfold Wa;omega⟩
theorem Rj (w:World) (h:List Ca) (β:List (Nat×Nat)):Sh w h β:=fun g cs hg=>by
  unfold R0 at hg
  cases hg
theorem yAa:Im Tryz.prog 98:=fun w E ys b c u k h0 h1 hc H =>
  (PI zL (s:=(k,ys,())) (r:=(k+2*ys.length,Kh k ys,())) (by rw [EL];exact rY k ys h0 (by omega) (by omega)) (d:=.own 0) rfl rfl rfl (B8 _ _) (fun h β=>Rj w h β) H (QI H)).mono fun e w' h=>⟨h.1,h.2.1,h.2.2.mono fun _ _ h=>h.2⟩
theorem yAb:Yp Tryz.prog 50 4 .bool Om List.length (fun _=>True):=fun w E xs b c u k h0 h1 h2 _ H =>
  (PI zP (s:=(k,xs,())) (r:=(k+xs.length,Om k xs,())) (by have h:=sJ k xs h0 (by omega) (by omega);simp only [Int.one_mul] at h;exact h) (d:=.own 0) rfl rfl rfl (Qi _ _ _ _) (fun h β=>Rj w h β) H (QI H)).mono fun e w' h=>⟨h.1,GR rfl h.2.1 h.2.2⟩
theorem yAc:Yp Tryz.prog 51 3 .int Pm List.length (fun _=>True):=fun w E xs b c u k h0 h1 h2 _ H =>
  (PI zE (s:=(k,xs,())) (r:=(k+xs.length,Pm k xs,())) (by have h:=rW k xs h0 (by omega) (by omega);simp only [Int.one_mul] at h;exact h) (d:=.own 0) rfl rfl rfl (Qi _ _ _ _) (fun h β=>Rj w h β) H (QI H)).mono fun e w' h=>⟨h.1,GR rfl h.2.1 h.2.2⟩
theorem yAd:ER Tryz.prog 15 Nm:=fun w E n xs b c u k h0 h1 h2 H =>
  (PI zS (s:=(n,k,xs,())) (r:=(k+3*xs.length,Nm k xs,())) (sB n k xs h0 (by omega) h2) (d:=.agg [.im (iI n),.own 0]) rfl rfl rfl (Qi _ _ _ _) (fun h β=>Rj w h β) H ⟨[.int .i64 n,u],rfl,F2.cons (Ri.s _) (F2.cons (QI H) F2.nil)⟩).mono fun e w' h=>⟨h.1,GR rfl h.2.1 h.2.2⟩
abbrev Zm (W:Wl):Wl:=Km Nm Om Pm 1 W
theorem yAe:LR Tryz.prog 14 FV Zm:=fun w lo hi A a hf H =>
  pG yAd yAb yAc yAa (fun _ _=>Qi _ _ _ _) (fun _ _=>Qi _ _ _ _) (fun _ _=>Qi _ _ _ _) w lo hi A a 1 (by omega) (by have:=hf.cnt;omega) ⟨hf.ls,hf.up,hf.sq,hf.db,hf.net,fun d hd=>(hf.dbs d hd).1⟩ H
theorem yAf:NR Tryz.prog 27 FV Zm:=fun w lo hi A a hf H =>
  (Wp zKC (s:=((Zm A).1,(Zm A).2.1,(Zm A).2.2.1,(Zm A).2.2.2.1,(Zm A).2.2.2.2.1,(Zm A).2.2.2.2.2,1,())) (r:=(1+(Ah A:Int),())) (sO A hf) (ds:=[Cl (Zm A),.im (iI 1)]) rfl (d:=.im (iI (1+Ah A))) (h':=[]) rfl (args:=[a,.int .i64 1]) (F2.cons H.arg (F2.cons (Ri.s _) F2.nil)) (Rj _ _ _)).mono fun ex w' ⟨u,β',h1,h2,h3,h4⟩=>by
    have h4:Ri w' _ _ (iI (1+Ah A)) u:=h4
    cases h4
    exact ⟨h1,h2.below⟩
theorem yAg:KR Tryz.prog 13 FV:=fun w lo hi lo' hi' A a b hf ha hb =>
  (Wp yZ (s:=(A.1,A.2.1,A.2.2.1,A.2.2.2.1,A.2.2.2.2.1,A.2.2.2.2.2,A.1,A.2.1,A.2.2.1,A.2.2.2.1,A.2.2.2.2.1,A.2.2.2.2.2,())) (r:=(true,())) (vV (wd A) hf.fit) (ds:=[Cl A,Cl A]) rfl (d:=.im (.s (.bool true))) (h':=[]) rfl (args:=[a,b]) (F2.cons ha.arg (F2.cons hb.arg F2.nil)) (Rj _ _ _)).mono fun ex w' ⟨u,β',h1,h2,h3,h4⟩=>by
    have h4:Ri w' _ _ (.s (.bool true)) u:=h4
    cases h4
    exact ⟨h1,h2.below⟩
theorem yAh:JR Tryz.prog 10 FW:=fun w lo hi A a hf ha =>
  (Wp yN (s:=(A.1,A.2.1,A.2.2.1,A.2.2.2.1,A.2.2.2.2.1,A.2.2.2.2.2,())) (r:=(A.1,A.2.1,A.2.2.1,A.2.2.2.1,A.2.2.2.2.1,A.2.2.2.2.2,())) (vU (wd A) hf.1) (ds:=[Cl A]) rfl (d:=Lo A.1) (h':=Xc A) rfl (args:=[a]) (F2.cons ha.arg F2.nil) (Rj _ _ _)).mono fun ex w' ⟨u,β',h1,h2,h3,h4⟩=>⟨u,h1,X7 h2 h3 h4,h2.below⟩
theorem yAi (A:Wl) (hm:FM A) (w:World) (lo hi:Nat) (a:Value) (ha:Rw w lo hi A a):Calls Tryz.prog 8 #[a,.int .i64 1048576] w fun e w'=>∃z,e=.returned (.int .i64 z)∧(0≤z→FW A)∧Below w.heap.size w w':=by
  obtain ⟨⟨z,_⟩,h1,h2⟩:=vT (wd A) hm
  refine (Wp yS (s:=(A.1,A.2.1,A.2.2.1,A.2.2.2.1,A.2.2.2.2.1,A.2.2.2.2.2,1048576,())) (r:=(z,())) h1 (ds:=[Cl A,.im (iI 1048576)]) rfl (d:=.im (iI z)) (h':=[]) rfl (args:=[a,.int .i64 1048576]) (F2.cons ha.arg (F2.cons (Ri.s _) F2.nil)) (Rj _ _ _)).mono fun ex w' ⟨u,β',h1,h3,h4,h5⟩=>?_
  have h5:Ri w' _ _ (iI z) u:=h5
  cases h5
  refine ⟨z,h1,fun h0=>?_,h3.below⟩
  rcases h2 with h2|⟨z',h2,h6,h7,h8⟩
  ·injection h2 with h2
   omega
  ·refine ⟨h7,?_⟩
   have h9:=vX A.2.2.2.2.1
   have h10:=vY A.2.2.2.2.2
   unfold Ah
   dsimp only [wd] at h8
   omega
end
section
open Go.RowKit
def LX:Ma:=⟨⟨[.c (.agg [zi,zi,zi]),zc],[]⟩,[.int,.int,.int,.int],⟨[.tup [(.one zi),(.one (.b .bool))]],[]⟩,[.int,.bool],CJ⟩
def MX:Ka:=Qa tab [] 19 0 [] []
theorem zNX:Na Tryz.prog MX.Γ:=Pa (l:=[]) trivial
theorem zJV:GC Tryz.prog 157 LX:=Ra (G:=MX) (c:=Tryz.f157.body.getD .skip) Ga Ja zNX mixed Tryz.func157 (by kernel_rfl) Tryz.ntmps157 (Ha (G:=MX) (n:=0) (by kernel_rfl) (by kernel_rfl) trivial (by kernel_rfl)) (fun s=>by kernel_rfl)
def An:Ma:=⟨⟨[zc,zc,zc],[]⟩,[.int,.int,.int],⟨[.c (.one (.b .bool))],[]⟩,[.bool],Pi⟩
def NX:Ka:=Qa tab [] 15 0 [] []
theorem zOi:Na Tryz.prog NX.Γ:=Pa (l:=[]) trivial
theorem ZM:GC Tryz.prog 58 An:=Ra (G:=NX) (c:=Tryz.f58.body.getD .skip) Ga Ja zOi mixed Tryz.func58 (by kernel_rfl) Tryz.ntmps58 (Ha (G:=NX) (n:=0) (by kernel_rfl) (by kernel_rfl) trivial (by kernel_rfl)) (fun s=>by kernel_rfl)
def Ti:Ma:=⟨⟨[zc,zc,zc],[]⟩,[.int,.int,.int],⟨[.c (.one (.b .bool))],[]⟩,[.bool],Vg⟩
def OX:Ka:=Qa tab [] 15 0 [] []
theorem zPG:Na Tryz.prog OX.Γ:=Pa (l:=[]) trivial
theorem Ow:GC Tryz.prog 82 Ti:=Ra (G:=OX) (c:=Tryz.f82.body.getD .skip) Ga Ja zPG mixed Tryz.func82 (by kernel_rfl) Tryz.ntmps82 (Ha (G:=OX) (n:=0) (by kernel_rfl) (by kernel_rfl) trivial (by kernel_rfl)) (fun s=>by kernel_rfl)
def Bs:Za:=⟨⟨[1,2,3,7],⟨[zc,zc,.c (.one (.ptr 0 0)),zc],[.box 34 [zi,(.b (.sl false .lk))]]⟩,[.int,.int,.int,.int,.ls .lk]⟩,0,⟨[],⟨[],[]⟩,[]⟩,⟨[6],⟨[zc],[]⟩,[.int]⟩,lp DJ Fa⟩
def Cs:Ma:=⟨⟨[.c (.agg [zi,(.b (.sl false .lk))]),zc,zc],[]⟩,[.int,.ls .lk,.int,.int],⟨[zc],[]⟩,[.int],Xv⟩
def CE:Ka:=Qa tab [] 38 0 [] [(2,Bs)]
theorem dL:Na Tryz.prog CE.Γ:=Pa (l:=[]) trivial
theorem zJu:Cb Tryz.prog 0 38 (Bb (Tryz.f130.body.getD .skip) 0) Bs:=Jb (G:=CE) (F:=Bs.F) (eid:=Bs.eid) (FX:=Bs.FX) (FR:=Bs.FR) (B:=DJ) (n:=Fa) Ga Ja dL mixed (Ha (G:=CE) (n:=0) (by kernel_rfl) (by kernel_rfl) trivial (by kernel_rfl)) (fun s=>by kernel_rfl)
theorem PX:GC Tryz.prog 130 Cs:=Ra (G:=CE) (c:=Tryz.f130.body.getD .skip) Ga Ja dL mixed Tryz.func130 (by kernel_rfl) Tryz.ntmps130 (Ha (G:=CE) (n:=1) (by kernel_rfl) (by kernel_rfl) ⟨trivial,Kb (id:=2) (L0:=Bs) (by kernel_rfl) (by kernel_rfl) zJu⟩ (by kernel_rfl)) (fun s=>by kernel_rfl)
def Ds:Za:=⟨⟨[1,3],⟨[.c (.one (.ptr 0 0)),zc],[.box 34 [zi,(.b (.sl false .lk))]]⟩,[.int,.int,.ls .lk]⟩,0,⟨[1],⟨[.c (.one (.ptr 0 0))],[.box 34 [zi,(.b (.sl false .lk))]]⟩,[.int,.ls .lk]⟩,⟨[2],⟨[.c (.one (.b .bool))],[]⟩,[.bool]⟩,lp EJ Fa⟩
def DE:Ma:=⟨⟨[.c (.agg [zi,(.b (.sl false .lk))])],[]⟩,[.int,.ls .lk],⟨[.c (.one (.b .bool))],[]⟩,[.bool],Zy⟩
def EE:Ka:=Qa tab [(82,[],Ti)] 89 0 [(7,34,tk 34,[])] [(2,Ds)]
theorem dM:Na Tryz.prog EE.Γ:=Pa (l:=[(82,[],Ti)]) ⟨⟨Ow,Tryz.call82⟩,trivial⟩
theorem zJj:Cb Tryz.prog 0 89 (Bb (Tryz.f101.body.getD .skip) 0) Ds:=Jb (G:=EE) (F:=Ds.F) (eid:=Ds.eid) (FX:=Ds.FX) (FR:=Ds.FR) (B:=EJ) (n:=Fa) Ga Ja dM mixed (Ha (G:=EE) (n:=0) (by kernel_rfl) (by kernel_rfl) trivial (by kernel_rfl)) (fun s=>by kernel_rfl)
theorem dN:GC Tryz.prog 101 DE:=Ra (G:=EE) (c:=Tryz.f101.body.getD .skip) Ga Ja dM mixed Tryz.func101 (by kernel_rfl) Tryz.ntmps101 (Ha (G:=EE) (n:=1) (by kernel_rfl) (by kernel_rfl) ⟨trivial,Kb (id:=2) (L0:=Ds) (by kernel_rfl) (by kernel_rfl) zJj⟩ (by kernel_rfl)) (fun s=>by kernel_rfl)
def Es:Za:=⟨⟨[1,16,17,18],⟨[.c (.one (.ptr 0 0)),.c (.one (.b (.sl false .lk))),zc,zc],[.box 34 [zi,(.b (.sl false .lk))]]⟩,[.ls .lk,.int,.int,.int,.ls .lk]⟩,0,⟨[],⟨[],[]⟩,[]⟩,⟨[2],⟨[.c (.one (.b .bool))],[]⟩,[.bool]⟩,lp FJ Fa⟩
def QX:Ma:=⟨⟨[.c (.agg [zi,(.b (.sl false .lk))])],[]⟩,[.int,.ls .lk],⟨[.c (.one (.b .bool))],[]⟩,[.bool],GJ⟩
def FE:Ka:=Qa tab [(58,[],An)] 85 0 [(8,34,tk 34,[])] [(4,Es)]
theorem dO:Na Tryz.prog FE.Γ:=Pa (l:=[(58,[],An)]) ⟨⟨ZM,Tryz.call58⟩,trivial⟩
theorem zIn:Cb Tryz.prog 0 85 (Bb (Tryz.f85.body.getD .skip) 0) Es:=Jb (G:=FE) (F:=Es.F) (eid:=Es.eid) (FX:=Es.FX) (FR:=Es.FR) (B:=FJ) (n:=Fa) Ga Ja dO mixed (Ha (G:=FE) (n:=0) (by kernel_rfl) (by kernel_rfl) trivial (by kernel_rfl)) (fun s=>by kernel_rfl)
theorem zJN:GC Tryz.prog 85 QX:=Ra (G:=FE) (c:=Tryz.f85.body.getD .skip) Ga Ja dO mixed Tryz.func85 (by kernel_rfl) Tryz.ntmps85 (Ha (G:=FE) (n:=1) (by kernel_rfl) (by kernel_rfl) ⟨trivial,Kb (id:=4) (L0:=Es) (by kernel_rfl) (by kernel_rfl) zIn⟩ (by kernel_rfl)) (fun s=>by kernel_rfl)
def Fs:Za:=⟨⟨[1,5,12,13,14],⟨[zc,.c (.one (.own 0)),.c (.one (.b (.sl false .lk))),zc,zc],[.row 3 .int]⟩,[.int,.ls .lk,.int,.int,.ls .int]⟩,0,⟨[5],⟨[.c (.one (.own 0))],[.row 3 .int]⟩,[.ls .int]⟩,zx,lp HJ Fa⟩
def GE:Ma:=⟨⟨[.c (.agg [zi,(.b (.sl false .lk))]),zc],[]⟩,[.int,.ls .lk,.int],⟨[.c (.one (.own 0))],[.row 3 .int]⟩,[.ls .int],Yv⟩
def HE:Ka:=Qa tab [(158,[],BS),(157,[],LX)] 33 0 [] [(3,Fs)]
theorem dP:Na Tryz.prog HE.Γ:=Pa (l:=[(158,[],BS),(157,[],LX)]) ⟨⟨qJ,Tryz.call158⟩,⟨⟨zJV,Tryz.call157⟩,trivial⟩⟩
theorem zIs:Cb Tryz.prog 0 33 (Bb (Tryz.f144.body.getD .skip) 0) Fs:=Jb (G:=HE) (F:=Fs.F) (eid:=Fs.eid) (FX:=Fs.FX) (FR:=Fs.FR) (B:=HJ) (n:=Fa) Ga Ja dP mixed (Ha (G:=HE) (n:=0) (by kernel_rfl) (by kernel_rfl) trivial (by kernel_rfl)) (fun s=>by kernel_rfl)
theorem dQ:GC Tryz.prog 144 GE:=Ra (G:=HE) (c:=Tryz.f144.body.getD .skip) Ga Ja dP mixed Tryz.func144 (by kernel_rfl) Tryz.ntmps144 (Ha (G:=HE) (n:=1) (by kernel_rfl) (by kernel_rfl) ⟨trivial,Kb (id:=3) (L0:=Fs) (by kernel_rfl) (by kernel_rfl) zIs⟩ (by kernel_rfl)) (fun s=>by kernel_rfl)
def Gs:Za:=⟨⟨[1,2,5,6],⟨[zc,.c (.one (.ptr 0 0)),.c (.one (.own 1)),zc],[.box 34 [zi,(.b (.sl false .lk))],.row 3 .int]⟩,[.int,.int,.int,.ls .lk,.ls .int]⟩,0,⟨[5],⟨[.c (.one (.own 0))],[.row 3 .int]⟩,[.ls .int]⟩,zx,lp Az Fa⟩
def RX:Ma:=⟨⟨[.c (.agg [zi,(.b (.sl false .lk))]),zc],[]⟩,[.int,.ls .lk,.int],⟨[.c (.one (.own 0))],[.row 3 .int]⟩,[.ls .int],Bz⟩
def IE:Ka:=Qa tab [(130,[],Cs),(101,[],DE)] 26 0 [] [(3,Gs)]
theorem dR:Na Tryz.prog IE.Γ:=Pa (l:=[(130,[],Cs),(101,[],DE)]) ⟨⟨PX,Tryz.call130⟩,⟨⟨dN,Tryz.call101⟩,trivial⟩⟩
theorem zJi:Cb Tryz.prog 0 26 (Bb (Tryz.f163.body.getD .skip) 0) Gs:=Jb (G:=IE) (F:=Gs.F) (eid:=Gs.eid) (FX:=Gs.FX) (FR:=Gs.FR) (B:=Az) (n:=Fa) Ga Ja dR mixed (Ha (G:=IE) (n:=0) (by kernel_rfl) (by kernel_rfl) trivial (by kernel_rfl)) (fun s=>by kernel_rfl)
theorem zLj:GC Tryz.prog 163 RX:=Ra (G:=IE) (c:=Tryz.f163.body.getD .skip) Ga Ja dR mixed Tryz.func163 (by kernel_rfl) Tryz.ntmps163 (Ha (G:=IE) (n:=1) (by kernel_rfl) (by kernel_rfl) ⟨trivial,Kb (id:=3) (L0:=Gs) (by kernel_rfl) (by kernel_rfl) zJi⟩ (by kernel_rfl)) (fun s=>by kernel_rfl)
def JE:Ma:=⟨⟨[.c (.agg [zi,zi,zi]),.c (.one (.at_ [(.int .i64)] 0)),.c (.one (.at_ [(.int .i64)] 0))],[]⟩,[.int,.int,.int,.int,.int],⟨[.c (.one (.b .bool))],[]⟩,[.bool],IJ⟩
def SX:Ka:=Qa tab [] 19 0 [] []
theorem zNU:Na Tryz.prog SX.Γ:=Pa (l:=[]) trivial
theorem dS:GC Tryz.prog 152 JE:=Ra (G:=SX) (c:=Tryz.f152.body.getD .skip) Ga Ja zNU mixed Tryz.func152 (by kernel_rfl) Tryz.ntmps152 (Ha (G:=SX) (n:=0) (by kernel_rfl) (by kernel_rfl) trivial (by kernel_rfl)) (fun s=>by kernel_rfl)
def Is:Za:=⟨⟨[0,1,7,8],⟨[.c (.one (.b (.sl false .lk))),.c (.fn 152 [(.at_ [(.int .i64)] 0),(.at_ [(.int .i64)] 0)]),zc,zc],[]⟩,[.ls .lk,.int,.int,.int,.int]⟩,0,⟨[],⟨[],[]⟩,[]⟩,⟨[4],⟨[zc],[]⟩,[.int]⟩,lp JJ Fa⟩
def TX:Ma:=⟨⟨[.c (.one (.b (.sl false .lk))),.c (.fn 152 [(.at_ [(.int .i64)] 0),(.at_ [(.int .i64)] 0)])],[]⟩,[.ls .lk,.int,.int],⟨[zc],[]⟩,[.int],PS⟩
def KE:Ka:=Qa tab [(152,[],JE)] 19 0 [] [(2,Is)]
theorem dU:Na Tryz.prog KE.Γ:=Pa (l:=[(152,[],JE)]) ⟨⟨dS,Tryz.call152⟩,trivial⟩
theorem zJf:Cb Tryz.prog 0 19 (Bb (Tryz.f151.body.getD .skip) 0) Is:=Jb (G:=KE) (F:=Is.F) (eid:=Is.eid) (FX:=Is.FX) (FR:=Is.FR) (B:=JJ) (n:=Fa) Ga Ja dU mixed (Ha (G:=KE) (n:=0) (by kernel_rfl) (by kernel_rfl) trivial (by kernel_rfl)) (fun s=>by kernel_rfl)
theorem zLe:GC Tryz.prog 151 TX:=Ra (G:=KE) (c:=Tryz.f151.body.getD .skip) Ga Ja dU mixed Tryz.func151 (by kernel_rfl) Tryz.ntmps151 (Ha (G:=KE) (n:=1) (by kernel_rfl) (by kernel_rfl) ⟨trivial,Kb (id:=2) (L0:=Is) (by kernel_rfl) (by kernel_rfl) zJf⟩ (by kernel_rfl)) (fun s=>by kernel_rfl)
def LE:Ma:=⟨⟨[.c (.agg [zi,(.b (.sl false .lk))]),zc,zc],[]⟩,[.int,.ls .lk,.int,.int],⟨[zc],[]⟩,[.int],Cz⟩
def UX:Ka:=Qa tab [(152,[],JE),(151,[152],TX)] 11 0 [] []
theorem zNT:Na Tryz.prog UX.Γ:=Pa (l:=[(152,[],JE),(151,[152],TX)]) ⟨⟨dS,Tryz.call152⟩,⟨⟨zLe,Tryz.call151⟩,trivial⟩⟩
theorem dV:GC Tryz.prog 136 LE:=Ra (G:=UX) (c:=Tryz.f136.body.getD .skip) Ga Ja zNT mixed Tryz.func136 (by kernel_rfl) Tryz.ntmps136 (Ha (G:=UX) (n:=0) (by kernel_rfl) (by kernel_rfl) trivial (by kernel_rfl)) (fun s=>by kernel_rfl)
end
section
open Go.RowKit
def VX:Ma:=⟨⟨[zc],[]⟩,[.int],⟨[.c (.one (.b .bool))],[]⟩,[.bool],Dz⟩
def WX:Ka:=Qa tab [] 6 0 [] []
theorem zNN:Na Tryz.prog WX.Γ:=Pa (l:=[]) trivial
theorem zJL:GC Tryz.prog 150 VX:=Ra (G:=WX) (c:=Tryz.f150.body.getD .skip) Ga Ja zNN mixed Tryz.func150 (by kernel_rfl) Tryz.ntmps150 (Ha (G:=WX) (n:=0) (by kernel_rfl) (by kernel_rfl) trivial (by kernel_rfl)) (fun s=>by kernel_rfl)
def XX:Ma:=⟨⟨[zc,zc],[]⟩,[.int,.int],⟨[zc],[]⟩,[.int],KJ⟩
def YX:Ka:=Qa tab [(150,[],VX)] 20 0 [] []
theorem zNM:Na Tryz.prog YX.Γ:=Pa (l:=[(150,[],VX)]) ⟨⟨zJL,Tryz.call150⟩,trivial⟩
theorem zJK:GC Tryz.prog 135 XX:=Ra (G:=YX) (c:=Tryz.f135.body.getD .skip) Ga Ja zNM mixed Tryz.func135 (by kernel_rfl) Tryz.ntmps135 (Ha (G:=YX) (n:=0) (by kernel_rfl) (by kernel_rfl) trivial (by kernel_rfl)) (fun s=>by kernel_rfl)
def Js:Za:=⟨⟨[0,1,4,6],⟨[.c (.one (.b (.sl false .ls))),zc,.c (.one (.ptr 0 0)),zc],[.box 108 [zi,zi,(.b (.sl true .en))]]⟩,[.ls .ls,.int,.int,.int,.int,.ls .en]⟩,0,⟨[4],⟨[.c (.one (.ptr 0 0))],[.box 108 [zi,zi,(.b (.sl true .en))]]⟩,[.int,.int,.ls .en]⟩,⟨[4,5],⟨[.c (.one (.ptr 0 0)),.c (.one (.b .bool))],[.box 108 [zi,zi,(.b (.sl true .en))]]⟩,[.bool,.int,.int,.ls .en]⟩,lp LJ Fa⟩
def ME:Ma:=⟨⟨[.c (.one (.b (.sl false .ls))),zc],[]⟩,[.ls .ls,.int],⟨[.tup [(.agg [zi,zi,(.b (.sl true .en))]),(.one (.b .bool))]],[]⟩,[.int,.int,.ls .en,.bool],Ez⟩
def NE:Ka:=Qa tab [] 25 0 [] [(2,Js)]
theorem dW:Na Tryz.prog NE.Γ:=Pa (l:=[]) trivial
theorem zJp:Cb Tryz.prog 0 25 (Bb (Tryz.f81.body.getD .skip) 0) Js:=Jb (G:=NE) (F:=Js.F) (eid:=Js.eid) (FX:=Js.FX) (FR:=Js.FR) (B:=LJ) (n:=Fa) Ga Ja dW mixed (Ha (G:=NE) (n:=0) (by kernel_rfl) (by kernel_rfl) trivial (by kernel_rfl)) (fun s=>by kernel_rfl)
theorem dX:GC Tryz.prog 81 ME:=Ra (G:=NE) (c:=Tryz.f81.body.getD .skip) Ga Ja dW mixed Tryz.func81 (by kernel_rfl) Tryz.ntmps81 (Ha (G:=NE) (n:=1) (by kernel_rfl) (by kernel_rfl) ⟨trivial,Kb (id:=2) (L0:=Js) (by kernel_rfl) (by kernel_rfl) zJp⟩ (by kernel_rfl)) (fun s=>by kernel_rfl)
def Ks:Za:=⟨⟨[1,16,17,18],⟨[.c (.one (.ptr 0 0)),.c (.one (.b (.sl false .en))),zc,zc],[.box 108 [zi,zi,(.b (.sl false .en))]]⟩,[.ls .en,.int,.int,.int,.int,.ls .en]⟩,0,⟨[],⟨[],[]⟩,[]⟩,⟨[2],⟨[.c (.one (.b .bool))],[]⟩,[.bool]⟩,lp MJ Fa⟩
def OE:Ma:=⟨⟨[.c (.agg [zi,zi,(.b (.sl false .en))])],[]⟩,[.int,.int,.ls .en],⟨[.c (.one (.b .bool))],[]⟩,[.bool],Fz⟩
def PE:Ka:=Qa tab [(58,[],An)] 57 0 [(6,30,[(0,true),(1,true),(2,false),(3,true),(4,true),(5,true),(6,true),(7,true),(8,true),(9,true),(10,true),(11,true),(12,true),(13,true),(14,false),(15,true),(16,true),(17,true),(18,true),(19,true),(20,true),(21,true),(22,true),(23,true),(24,true),(25,true),(26,true),(27,true),(28,true),(29,true)],[])] [(4,Ks)]
theorem dY:Na Tryz.prog PE.Γ:=Pa (l:=[(58,[],An)]) ⟨⟨ZM,Tryz.call58⟩,trivial⟩
theorem zIt:Cb Tryz.prog 0 57 (Bb (Tryz.f132.body.getD .skip) 0) Ks:=Jb (G:=PE) (F:=Ks.F) (eid:=Ks.eid) (FX:=Ks.FX) (FR:=Ks.FR) (B:=MJ) (n:=Fa) Ga Ja dY mixed (Ha (G:=PE) (n:=0) (by kernel_rfl) (by kernel_rfl) trivial (by kernel_rfl)) (fun s=>by kernel_rfl)
theorem dZ:GC Tryz.prog 132 OE:=Ra (G:=PE) (c:=Tryz.f132.body.getD .skip) Ga Ja dY mixed Tryz.func132 (by kernel_rfl) Tryz.ntmps132 (Ha (G:=PE) (n:=1) (by kernel_rfl) (by kernel_rfl) ⟨trivial,Kb (id:=4) (L0:=Ks) (by kernel_rfl) (by kernel_rfl) zIt⟩ (by kernel_rfl)) (fun s=>by kernel_rfl)
def Ms:Za:=⟨⟨[1,3],⟨[.c (.one (.ptr 0 0)),zc],[.box 108 [zi,zi,(.b (.sl false .en))]]⟩,[.int,.int,.int,.ls .en]⟩,0,⟨[1],⟨[.c (.one (.ptr 0 0))],[.box 108 [zi,zi,(.b (.sl false .en))]]⟩,[.int,.int,.ls .en]⟩,⟨[2],⟨[.c (.one (.b .bool))],[]⟩,[.bool]⟩,lp NJ Fa⟩
def QE:Ma:=⟨⟨[.c (.agg [zi,zi,(.b (.sl false .en))])],[]⟩,[.int,.int,.ls .en],⟨[.c (.one (.b .bool))],[]⟩,[.bool],Gz⟩
def RE:Ka:=Qa tab [(82,[],Ti)] 58 0 [(5,30,[(0,true),(1,true),(2,false),(3,true),(4,true),(5,true),(6,true),(7,true),(8,true),(9,true),(10,true),(11,true),(12,true),(13,true),(14,false),(15,true),(16,true),(17,true),(18,true),(19,true),(20,true),(21,true),(22,true),(23,true),(24,true),(25,true),(26,true),(27,true),(28,true),(29,true)],[])] [(2,Ms)]
theorem eB:Na Tryz.prog RE.Γ:=Pa (l:=[(82,[],Ti)]) ⟨⟨Ow,Tryz.call82⟩,trivial⟩
theorem zJk:Cb Tryz.prog 0 58 (Bb (Tryz.f129.body.getD .skip) 0) Ms:=Jb (G:=RE) (F:=Ms.F) (eid:=Ms.eid) (FX:=Ms.FX) (FR:=Ms.FR) (B:=NJ) (n:=Fa) Ga Ja eB mixed (Ha (G:=RE) (n:=0) (by kernel_rfl) (by kernel_rfl) trivial (by kernel_rfl)) (fun s=>by kernel_rfl)
theorem eC:GC Tryz.prog 129 QE:=Ra (G:=RE) (c:=Tryz.f129.body.getD .skip) Ga Ja eB mixed Tryz.func129 (by kernel_rfl) Tryz.ntmps129 (Ha (G:=RE) (n:=1) (by kernel_rfl) (by kernel_rfl) ⟨trivial,Kb (id:=2) (L0:=Ms) (by kernel_rfl) (by kernel_rfl) zJk⟩ (by kernel_rfl)) (fun s=>by kernel_rfl)
def Ns:Za:=⟨⟨[1,3,6,7,8],⟨[zc,.c (.one (.ptr 0 0)),.c (.one (.ptr 1 0)),.c (.one (.ptr 2 0)),zc],[.box 34 [zi,(.b (.sl false .lk))],.box 108 [zi,zi,(.b (.sl true .en))],.box 108 [zi,zi,(.own 3)],.row 153 .en]⟩,[.int,.int,.int,.ls .lk,.int,.int,.ls .en,.int,.int,.ls .en]⟩,0,⟨[6,7],⟨[.c (.one (.ptr 0 0)),.c (.one (.ptr 1 0))],[.box 108 [zi,zi,(.b (.sl true .en))],.box 108 [zi,zi,(.own 2)],.row 153 .en]⟩,[.int,.int,.ls .en,.int,.int,.ls .en]⟩,zx,lp OJ Fa⟩
def SE:Ma:=⟨⟨[.c (.agg [zi,(.b (.sl false .lk))]),zc,zc],[]⟩,[.int,.ls .lk,.int,.int],⟨[.c (.agg [zi,zi,(.own 0)])],[.row 153 .en]⟩,[.int,.int,.ls .en],Aw⟩
def TE:Ka:=Qa tab [(130,[],Cs)] 40 0 [(7,11,[(0,true),(1,true),(2,true),(3,true),(4,true),(5,true),(6,true),(7,true),(8,true),(9,true),(10,false)],[])] [(3,Ns)]
theorem eD:Na Tryz.prog TE.Γ:=Pa (l:=[(130,[],Cs)]) ⟨⟨PX,Tryz.call130⟩,trivial⟩
theorem zJr:Cb Tryz.prog 0 40 (Bb (Tryz.f103.body.getD .skip) 0) Ns:=Jb (G:=TE) (F:=Ns.F) (eid:=Ns.eid) (FX:=Ns.FX) (FR:=Ns.FR) (B:=OJ) (n:=Fa) Ga Ja eD mixed (Ha (G:=TE) (n:=0) (by kernel_rfl) (by kernel_rfl) trivial (by kernel_rfl)) (fun s=>by kernel_rfl)
theorem eE:GC Tryz.prog 103 SE:=Ra (G:=TE) (c:=Tryz.f103.body.getD .skip) Ga Ja eD mixed Tryz.func103 (by kernel_rfl) Tryz.ntmps103 (Ha (G:=TE) (n:=1) (by kernel_rfl) (by kernel_rfl) ⟨trivial,Kb (id:=3) (L0:=Ns) (by kernel_rfl) (by kernel_rfl) zJr⟩ (by kernel_rfl)) (fun s=>by kernel_rfl)
def Ps:Za:=⟨⟨[0,5,6,7],⟨[.c (.one (.b (.sl false .ls))),.c (.one (.b (.sl false .ls))),zc,zc],[]⟩,[.ls .ls,.ls .ls,.int,.int]⟩,0,⟨[],⟨[],[]⟩,[]⟩,⟨[2],⟨[.c (.one (.b .bool))],[]⟩,[.bool]⟩,lp Hz Fa⟩
def ZX:Ma:=⟨⟨[.c (.one (.b (.sl false .ls)))],[]⟩,[.ls .ls],⟨[.c (.one (.b .bool))],[]⟩,[.bool],PJ⟩
def UE:Ka:=Qa tab [(132,[],OE)] 31 0 [(4,15,[(0,true),(1,false),(2,true),(3,true),(4,true),(5,true),(6,true),(7,true),(8,true),(9,true),(10,true),(11,true),(12,true),(13,true),(14,true)],[])] [(2,Ps)]
theorem eF:Na Tryz.prog UE.Γ:=Pa (l:=[(132,[],OE)]) ⟨⟨dZ,Tryz.call132⟩,trivial⟩
theorem zIm:Cb Tryz.prog 0 31 (Bb (Tryz.f86.body.getD .skip) 0) Ps:=Jb (G:=UE) (F:=Ps.F) (eid:=Ps.eid) (FX:=Ps.FX) (FR:=Ps.FR) (B:=Hz) (n:=Fa) Ga Ja eF mixed (Ha (G:=UE) (n:=0) (by kernel_rfl) (by kernel_rfl) trivial (by kernel_rfl)) (fun s=>by kernel_rfl)
theorem zJM:GC Tryz.prog 86 ZX:=Ra (G:=UE) (c:=Tryz.f86.body.getD .skip) Ga Ja eF mixed Tryz.func86 (by kernel_rfl) Tryz.ntmps86 (Ha (G:=UE) (n:=1) (by kernel_rfl) (by kernel_rfl) ⟨trivial,Kb (id:=2) (L0:=Ps) (by kernel_rfl) (by kernel_rfl) zIm⟩ (by kernel_rfl)) (fun s=>by kernel_rfl)
def Qs:Za:=⟨⟨[0,3],⟨[.c (.one (.b (.sl false .ls))),zc],[]⟩,[.ls .ls,.int]⟩,0,⟨[],⟨[],[]⟩,[]⟩,⟨[2],⟨[.c (.one (.b .bool))],[]⟩,[.bool]⟩,lp Iz Fa⟩
def AY:Ma:=⟨⟨[.c (.one (.b (.sl false .ls)))],[]⟩,[.ls .ls],⟨[.c (.one (.b .bool))],[]⟩,[.bool],QJ⟩
def VE:Ka:=Qa tab [(129,[],QE)] 34 0 [(4,21,[(0,true),(1,true),(2,true),(3,true),(4,false),(5,true),(6,true),(7,true),(8,true),(9,true),(10,true),(11,true),(12,true),(13,true),(14,true),(15,true),(16,true),(17,true),(18,true),(19,true),(20,true)],[])] [(2,Qs)]
theorem eG:Na Tryz.prog VE.Γ:=Pa (l:=[(129,[],QE)]) ⟨⟨eC,Tryz.call129⟩,trivial⟩
theorem zJh:Cb Tryz.prog 0 34 (Bb (Tryz.f127.body.getD .skip) 0) Qs:=Jb (G:=VE) (F:=Qs.F) (eid:=Qs.eid) (FX:=Qs.FX) (FR:=Qs.FR) (B:=Iz) (n:=Fa) Ga Ja eG mixed (Ha (G:=VE) (n:=0) (by kernel_rfl) (by kernel_rfl) trivial (by kernel_rfl)) (fun s=>by kernel_rfl)
theorem zLi:GC Tryz.prog 127 AY:=Ra (G:=VE) (c:=Tryz.f127.body.getD .skip) Ga Ja eG mixed Tryz.func127 (by kernel_rfl) Tryz.ntmps127 (Ha (G:=VE) (n:=1) (by kernel_rfl) (by kernel_rfl) ⟨trivial,Kb (id:=2) (L0:=Qs) (by kernel_rfl) (by kernel_rfl) zJh⟩ (by kernel_rfl)) (fun s=>by kernel_rfl)
def WE:Ma:=⟨⟨[.c (.agg [zi,zi,(.b (.sl false .en))]),zc],[]⟩,[.int,.int,.ls .en,.int],⟨[zc],[]⟩,[.int],Jz⟩
def BY:Ka:=Qa tab [(135,[],XX)] 9 0 [] []
theorem zOe:Na Tryz.prog BY.Γ:=Pa (l:=[(135,[],XX)]) ⟨⟨zJK,Tryz.call135⟩,trivial⟩
theorem eH:GC Tryz.prog 134 WE:=Ra (G:=BY) (c:=Tryz.f134.body.getD .skip) Ga Ja zOe mixed Tryz.func134 (by kernel_rfl) Tryz.ntmps134 (Ha (G:=BY) (n:=0) (by kernel_rfl) (by kernel_rfl) trivial (by kernel_rfl)) (fun s=>by kernel_rfl)
def Rs:Za:=⟨⟨[0,1,2,8,9,10],⟨[.c (.one (.b (.sl false .ls))),zc,.c (.fn 134 []),zc,zc,zc],[]⟩,[.ls .ls,.int,.int,.int,.int]⟩,0,⟨[0,1,2,8,9],⟨[.c (.one (.b (.sl false .ls))),zc,.c (.fn 134 []),zc,zc],[]⟩,[.ls .ls,.int,.int,.int]⟩,zx,lp RJ Fa⟩
def CY:Ma:=⟨⟨[.c (.one (.b (.sl false .ls))),zc,.c (.fn 134 [])],[]⟩,[.ls .ls,.int],⟨[.tup [(.one zi),(.one (.b .bool))]],[]⟩,[.int,.bool],TS⟩
def XE:Ka:=Qa tab [(134,[],WE)] 49 0 [] [(3,Rs)]
theorem eI:Na Tryz.prog XE.Γ:=Pa (l:=[(134,[],WE)]) ⟨⟨eH,Tryz.call134⟩,trivial⟩
theorem zJd:Cb Tryz.prog 0 49 (Bb (Tryz.f133.body.getD .skip) 0) Rs:=Jb (G:=XE) (F:=Rs.F) (eid:=Rs.eid) (FX:=Rs.FX) (FR:=Rs.FR) (B:=RJ) (n:=Fa) Ga Ja eI mixed (Ha (G:=XE) (n:=0) (by kernel_rfl) (by kernel_rfl) trivial (by kernel_rfl)) (fun s=>by kernel_rfl)
theorem zK7:GC Tryz.prog 133 CY:=Ra (G:=XE) (c:=Tryz.f133.body.getD .skip) Ga Ja eI mixed Tryz.func133 (by kernel_rfl) Tryz.ntmps133 (Ha (G:=XE) (n:=1) (by kernel_rfl) (by kernel_rfl) ⟨trivial,Kb (id:=3) (L0:=Rs) (by kernel_rfl) (by kernel_rfl) zJd⟩ (by kernel_rfl)) (fun s=>by kernel_rfl)
def YE:Ma:=⟨⟨[.c (.one (.b (.sl false .ls))),zc],[]⟩,[.ls .ls,.int],⟨[.tup [(.one zi),(.one (.b .bool))]],[]⟩,[.int,.bool],Cw⟩
def DY:Ka:=Qa tab [(134,[],WE),(133,[134],CY)] 11 0 [] []
theorem zOd:Na Tryz.prog DY.Γ:=Pa (l:=[(134,[],WE),(133,[134],CY)]) ⟨⟨eH,Tryz.call134⟩,⟨⟨zK7,Tryz.call133⟩,trivial⟩⟩
theorem eJ:GC Tryz.prog 87 YE:=Ra (G:=DY) (c:=Tryz.f87.body.getD .skip) Ga Ja zOd mixed Tryz.func87 (by kernel_rfl) Tryz.ntmps87 (Ha (G:=DY) (n:=0) (by kernel_rfl) (by kernel_rfl) trivial (by kernel_rfl)) (fun s=>by kernel_rfl)
def Ss:Za:=⟨⟨[1,3,6,7,15,16,17],⟨[zc,.c (.one (.ptr 0 0)),.c (.one (.ptr 1 0)),.c (.one (.ptr 2 0)),.c (.one (.own 3)),zc,zc],[.box 34 [zi,(.b (.sl false .lk))],.box 108 [zi,zi,(.own 4)],.box 108 [zi,zi,(.own 5)],.row 3 .int,.row 153 .en,.row 153 .en]⟩,[.int,.int,.int,.int,.ls .lk,.int,.int,.int,.int,.ls .int,.ls .en,.ls .en]⟩,0,⟨[6,7],⟨[.c (.one (.ptr 0 0)),.c (.one (.ptr 1 0))],[.box 108 [zi,zi,(.own 2)],.box 108 [zi,zi,(.own 3)],.row 153 .en,.row 153 .en]⟩,[.int,.int,.int,.int,.ls .en,.ls .en]⟩,zx,lp Kz Fa⟩
def ZE:Ma:=⟨⟨[.c (.agg [zi,(.b (.sl false .lk))]),zc,zc],[]⟩,[.int,.ls .lk,.int,.int],⟨[.c (.agg [zi,zi,(.own 0)])],[.row 153 .en]⟩,[.int,.int,.ls .en],Dw⟩
def AF:Ka:=Qa tab [(144,[],GE),(136,[],LE)] 39 0 [(5,14,[(0,true),(1,true),(2,true),(3,true),(4,true),(5,true),(6,true),(7,true),(8,false),(9,true),(10,true),(11,false),(12,true),(13,false)],[])] [(3,Ss)]
theorem eK:Na Tryz.prog AF.Γ:=Pa (l:=[(144,[],GE),(136,[],LE)]) ⟨⟨dQ,Tryz.call144⟩,⟨⟨dV,Tryz.call136⟩,trivial⟩⟩
theorem zIr:Cb Tryz.prog 0 39 (Bb (Tryz.f112.body.getD .skip) 0) Ss:=Jb (G:=AF) (F:=Ss.F) (eid:=Ss.eid) (FX:=Ss.FX) (FR:=Ss.FR) (B:=Kz) (n:=Fa) Ga Ja eK mixed (Ha (G:=AF) (n:=0) (by kernel_rfl) (by kernel_rfl) trivial (by kernel_rfl)) (fun s=>by kernel_rfl)
theorem eL:GC Tryz.prog 112 ZE:=Ra (G:=AF) (c:=Tryz.f112.body.getD .skip) Ga Ja eK mixed Tryz.func112 (by kernel_rfl) Tryz.ntmps112 (Ha (G:=AF) (n:=1) (by kernel_rfl) (by kernel_rfl) ⟨trivial,Kb (id:=3) (L0:=Ss) (by kernel_rfl) (by kernel_rfl) zIr⟩ (by kernel_rfl)) (fun s=>by kernel_rfl)
end
section
open Go.RowKit
def EY:Ma:=⟨⟨[.c (.agg [zi,(.b (.sl false .lk))])],[]⟩,[.int,.ls .lk],⟨[.c (.agg [zi,(.own 0)])],[.row 114 .lk]⟩,[.int,.ls .lk],LL⟩
def FY:Ka:=Qa tab [] 9 0 [] []
theorem zPq:Na Tryz.prog FY.Γ:=Pa (l:=[]) trivial
theorem zLu:GC Tryz.prog 102 EY:=Ra (G:=FY) (c:=Tryz.f102.body.getD .skip) Ga Ja zPq mixed Tryz.func102 (by kernel_rfl) Tryz.ntmps102 (Ha (G:=FY) (n:=0) (by kernel_rfl) (by kernel_rfl) trivial (by kernel_rfl)) (fun s=>by kernel_rfl)
def Bn:Ma:=⟨⟨[.c (.agg [zi,zi,(.b (.sl false .en))])],[]⟩,[.int,.int,.ls .en],⟨[.c (.agg [zi,zi,(.own 0)])],[.row 153 .en]⟩,[.int,.int,.ls .en],Si⟩
def GY:Ka:=Qa tab [] 9 0 [] []
theorem zPo:Na Tryz.prog GY.Γ:=Pa (l:=[]) trivial
theorem AN:GC Tryz.prog 107 Bn:=Ra (G:=GY) (c:=Tryz.f107.body.getD .skip) Ga Ja zPo mixed Tryz.func107 (by kernel_rfl) Tryz.ntmps107 (Ha (G:=GY) (n:=0) (by kernel_rfl) (by kernel_rfl) trivial (by kernel_rfl)) (fun s=>by kernel_rfl)
def Ts:Za:=⟨⟨[1,2,3,4],⟨[.c (.one (.ptr 0 0)),.c (.one (.ptr 1 0)),.c (.one (.ptr 2 0)),zc],[.box 39 [zi,(.b (.sl false .lk)),(.b (.sl false .bool)),(.b (.sl false .int)),(.b (.sl false .db)),(.b (.sl false .pk))],.box 34 [zi,(.b (.sl true .lk))],.box 34 [zi,(.own 3)],.row 114 .lk]⟩,[.int,.int,.ls .lk,.ls .bool,.ls .int,.ls .db,.ls .pk,.int,.ls .lk,.int,.ls .lk]⟩,0,⟨[2,3],⟨[.c (.one (.ptr 0 0)),.c (.one (.ptr 1 0))],[.box 34 [zi,(.b (.sl true .lk))],.box 34 [zi,(.own 2)],.row 114 .lk]⟩,[.int,.ls .lk,.int,.ls .lk]⟩,zx,lp ML Fa⟩
def Us:Ma:=⟨⟨[.c (.agg [zi,(.b (.sl false .lk)),(.b (.sl false .bool)),(.b (.sl false .int)),(.b (.sl false .db)),(.b (.sl false .pk))])],[]⟩,[.int,.ls .lk,.ls .bool,.ls .int,.ls .db,.ls .pk],⟨[.c (.agg [zi,(.own 0)])],[.row 114 .lk]⟩,[.int,.ls .lk],Hw⟩
def BF:Ka:=Qa tab [] 34 0 [(6,9,[(0,true),(1,true),(2,true),(3,true),(4,true),(5,true),(6,true),(7,true),(8,false)],[])] [(3,Ts)]
theorem eM:Na Tryz.prog BF.Γ:=Pa (l:=[]) trivial
theorem zJI:Cb Tryz.prog 0 34 (Bb (Tryz.f38.body.getD .skip) 0) Ts:=Jb (G:=BF) (F:=Ts.F) (eid:=Ts.eid) (FX:=Ts.FX) (FR:=Ts.FR) (B:=ML) (n:=Fa) Ga Ja eM mixed (Ha (G:=BF) (n:=0) (by kernel_rfl) (by kernel_rfl) trivial (by kernel_rfl)) (fun s=>by kernel_rfl)
theorem IY:GC Tryz.prog 38 Us:=Ra (G:=BF) (c:=Tryz.f38.body.getD .skip) Ga Ja eM mixed Tryz.func38 (by kernel_rfl) Tryz.ntmps38 (Ha (G:=BF) (n:=1) (by kernel_rfl) (by kernel_rfl) ⟨trivial,Kb (id:=3) (L0:=Ts) (by kernel_rfl) (by kernel_rfl) zJI⟩ (by kernel_rfl)) (fun s=>by kernel_rfl)
def Vs:Za:=⟨⟨[2,3,5],⟨[.c (.one (.ptr 0 0)),.c (.one (.ptr 1 0)),zc],[.box 108 [zi,zi,(.b (.sl false .en))],.box 108 [zi,zi,(.b (.sl false .en))]]⟩,[.int,.int,.int,.ls .en,.int,.int,.ls .en]⟩,0,⟨[],⟨[],[]⟩,[]⟩,⟨[4],⟨[.c (.one (.b .bool))],[]⟩,[.bool]⟩,lp OL Fa⟩
def DF:Ma:=⟨⟨[.c (.agg [zi,zi,(.b (.sl false .en))]),.c (.agg [zi,zi,(.b (.sl false .en))])],[]⟩,[.int,.int,.ls .en,.int,.int,.ls .en],⟨[.c (.one (.b .bool))],[]⟩,[.bool],XA⟩
def EF:Ka:=Qa tab [] 45 0 [(6,10,tk 10,[])] [(4,Vs)]
theorem eN:Na Tryz.prog EF.Γ:=Pa (l:=[]) trivial
theorem zJG:Cb Tryz.prog 0 45 (Bb (Tryz.f128.body.getD .skip) 0) Vs:=Jb (G:=EF) (F:=Vs.F) (eid:=Vs.eid) (FX:=Vs.FX) (FR:=Vs.FR) (B:=OL) (n:=Fa) Ga Ja eN mixed (Ha (G:=EF) (n:=0) (by kernel_rfl) (by kernel_rfl) trivial (by kernel_rfl)) (fun s=>by kernel_rfl)
theorem eO:GC Tryz.prog 128 DF:=Ra (G:=EF) (c:=Tryz.f128.body.getD .skip) Ga Ja eN mixed Tryz.func128 (by kernel_rfl) Tryz.ntmps128 (Ha (G:=EF) (n:=1) (by kernel_rfl) (by kernel_rfl) ⟨trivial,Kb (id:=4) (L0:=Vs) (by kernel_rfl) (by kernel_rfl) zJG⟩ (by kernel_rfl)) (fun s=>by kernel_rfl)
def Ws:Za:=⟨⟨[0,3,4],⟨[.c (.one (.b (.sl false .ls))),.c (.one (.own 0)),zc],[.row 108 .ls]⟩,[.ls .ls,.int,.ls .ls]⟩,0,⟨[3],⟨[.c (.one (.own 0))],[.row 108 .ls]⟩,[.ls .ls]⟩,zx,lp YA Fa⟩
def Cn:Ma:=⟨⟨[.c (.one (.b (.sl false .ls)))],[]⟩,[.ls .ls],⟨[.c (.one (.own 0))],[.row 108 .ls]⟩,[.ls .ls],Qm⟩
def FF:Ka:=Qa tab [(107,[],Bn)] 21 0 [] [(3,Ws)]
theorem eP:Na Tryz.prog FF.Γ:=Pa (l:=[(107,[],Bn)]) ⟨⟨AN,Tryz.call107⟩,trivial⟩
theorem zJo:Cb Tryz.prog 0 21 (Bb (Tryz.f104.body.getD .skip) 0) Ws:=Jb (G:=FF) (F:=Ws.F) (eid:=Ws.eid) (FX:=Ws.FX) (FR:=Ws.FR) (B:=YA) (n:=Fa) Ga Ja eP mixed (Ha (G:=FF) (n:=0) (by kernel_rfl) (by kernel_rfl) trivial (by kernel_rfl)) (fun s=>by kernel_rfl)
theorem BN:GC Tryz.prog 104 Cn:=Ra (G:=FF) (c:=Tryz.f104.body.getD .skip) Ga Ja eP mixed Tryz.func104 (by kernel_rfl) Tryz.ntmps104 (Ha (G:=FF) (n:=1) (by kernel_rfl) (by kernel_rfl) ⟨trivial,Kb (id:=3) (L0:=Ws) (by kernel_rfl) (by kernel_rfl) zJo⟩ (by kernel_rfl)) (fun s=>by kernel_rfl)
def Ik:Ma:=⟨⟨[.c (.agg [zi,zi,(.b (.sl false .en))])],[]⟩,[.int,.int,.ls .en],⟨[.c (.agg [zi,zi,(.own 0)])],[.row 153 .en]⟩,[.int,.int,.ls .en],Oh⟩
def JY:Ka:=Qa Sg [(146,[],KS)] 8 0 [] []
theorem zOa:Na Tryz.prog JY.Γ:=Pa (l:=[(146,[],KS)]) ⟨⟨rB,Tryz.call146⟩,trivial⟩
theorem GF:GC Tryz.prog 117 Ik:=Ra (G:=JY) (c:=Tryz.f117.body.getD .skip) Ga Ld zOa mixed Tryz.func117 (by kernel_rfl) Tryz.ntmps117 (Ha (G:=JY) (n:=0) (by kernel_rfl) (by kernel_rfl) trivial (by kernel_rfl)) (fun s=>by kernel_rfl)
def Xs:Za:=⟨⟨[1,3,4],⟨[.c (.one (.ptr 0 0)),.c (.one (.own 1)),zc],[.box 39 [zi,(.b (.sl false .lk)),(.b (.sl false .bool)),(.b (.sl false .int)),(.b (.sl false .db)),(.b (.sl false .pk))],.row 108 .ls]⟩,[.int,.int,.ls .lk,.ls .bool,.ls .int,.ls .db,.ls .pk,.ls .ls]⟩,0,⟨[1,3],⟨[.c (.one (.ptr 0 0)),.c (.one (.own 1))],[.box 39 [zi,(.b (.sl false .lk)),(.b (.sl false .bool)),(.b (.sl false .int)),(.b (.sl false .db)),(.b (.sl false .pk))],.row 108 .ls]⟩,[.int,.ls .lk,.ls .bool,.ls .int,.ls .db,.ls .pk,.ls .ls]⟩,zx,lp ZA Fa⟩
def Ys:Za:=⟨⟨[1,3,5],⟨[.c (.one (.ptr 0 0)),.c (.one (.own 1)),zc],[.box 39 [zi,(.b (.sl false .lk)),(.b (.sl false .bool)),(.b (.sl false .int)),(.b (.sl false .db)),(.b (.sl false .pk))],.row 108 .ls]⟩,[.int,.int,.ls .lk,.ls .bool,.ls .int,.ls .db,.ls .pk,.ls .ls]⟩,2,⟨[3],⟨[.c (.one (.own 0))],[.row 108 .ls]⟩,[.ls .ls]⟩,zx,lp BB Fa⟩
def KY:Ma:=⟨⟨[.c (.agg [zi,(.b (.sl false .lk)),(.b (.sl false .bool)),(.b (.sl false .int)),(.b (.sl false .db)),(.b (.sl false .pk))])],[]⟩,[.int,.ls .lk,.ls .bool,.ls .int,.ls .db,.ls .pk],⟨[.c (.one (.own 0))],[.row 108 .ls]⟩,[.ls .ls],PL⟩
def Zs:Ka:=Qa tab [] 38 0 [] [(3,Xs),(7,Ys)]
theorem LY:Na Tryz.prog Zs.Γ:=Pa (l:=[]) trivial
theorem zJv:Cb Tryz.prog 0 38 (Bb (Tryz.f79.body.getD .skip) 0) Xs:=Jb (G:=Zs) (F:=Xs.F) (eid:=Xs.eid) (FX:=Xs.FX) (FR:=Xs.FR) (B:=ZA) (n:=Fa) Ga Ja LY mixed (Ha (G:=Zs) (n:=0) (by kernel_rfl) (by kernel_rfl) trivial (by kernel_rfl)) (fun s=>by kernel_rfl)
theorem zJw:Cb Tryz.prog 0 38 (Bb (Tryz.f79.body.getD .skip) 1) Ys:=Jb (G:=Zs) (F:=Ys.F) (eid:=Ys.eid) (FX:=Ys.FX) (FR:=Ys.FR) (B:=BB) (n:=Fa) Ga Ja LY mixed (Ha (G:=Zs) (n:=0) (by kernel_rfl) (by kernel_rfl) trivial (by kernel_rfl)) (fun s=>by kernel_rfl)
theorem zLw:GC Tryz.prog 79 KY:=Ra (G:=Zs) (c:=Tryz.f79.body.getD .skip) Ga Ja LY mixed Tryz.func79 (by kernel_rfl) Tryz.ntmps79 (Ha (G:=Zs) (n:=2) (by kernel_rfl) (by kernel_rfl) ⟨⟨trivial,Kb (id:=3) (L0:=Xs) (by kernel_rfl) (by kernel_rfl) zJv⟩,Kb (id:=7) (L0:=Ys) (by kernel_rfl) (by kernel_rfl) zJw⟩ (by kernel_rfl)) (fun s=>by kernel_rfl)
def At:Za:=⟨⟨[1,3],⟨[.c (.one (.ptr 0 0)),zc],[.box 39 [zi,(.b (.sl false .lk)),(.b (.sl false .bool)),(.b (.sl false .int)),(.b (.sl false .db)),(.b (.sl false .pk))]]⟩,[.int,.int,.ls .lk,.ls .bool,.ls .int,.ls .db,.ls .pk]⟩,0,⟨[],⟨[],[]⟩,[]⟩,⟨[2],⟨[.c (.one (.b .bool))],[]⟩,[.bool]⟩,lp CB Fa⟩
def MY:Ma:=⟨⟨[.c (.agg [zi,(.b (.sl false .lk)),(.b (.sl false .bool)),(.b (.sl false .int)),(.b (.sl false .db)),(.b (.sl false .pk))])],[]⟩,[.int,.ls .lk,.ls .bool,.ls .int,.ls .db,.ls .pk],⟨[.c (.one (.b .bool))],[]⟩,[.bool],QL⟩
def HF:Ka:=Qa tab [(82,[],Ti),(101,[],DE),(127,[],AY)] 65 0 [] [(4,At)]
theorem eQ:Na Tryz.prog HF.Γ:=Pa (l:=[(82,[],Ti),(101,[],DE),(127,[],AY)]) ⟨⟨Ow,Tryz.call82⟩,⟨⟨dN,Tryz.call101⟩,⟨⟨zLi,Tryz.call127⟩,trivial⟩⟩⟩
theorem zJH:Cb Tryz.prog 0 65 (Bb (Tryz.f77.body.getD .skip) 0) At:=Jb (G:=HF) (F:=At.F) (eid:=At.eid) (FX:=At.FX) (FR:=At.FR) (B:=CB) (n:=Fa) Ga Ja eQ mixed (Ha (G:=HF) (n:=0) (by kernel_rfl) (by kernel_rfl) trivial (by kernel_rfl)) (fun s=>by kernel_rfl)
theorem zLG:GC Tryz.prog 77 MY:=Ra (G:=HF) (c:=Tryz.f77.body.getD .skip) Ga Ja eQ mixed Tryz.func77 (by kernel_rfl) Tryz.ntmps77 (Ha (G:=HF) (n:=1) (by kernel_rfl) (by kernel_rfl) ⟨trivial,Kb (id:=4) (L0:=At) (by kernel_rfl) (by kernel_rfl) zJH⟩ (by kernel_rfl)) (fun s=>by kernel_rfl)
def Bt:Za:=⟨⟨[3,7,8,9],⟨[.c (.one (.own 0)),.c (.one (.b (.sl false .ls))),zc,zc],[.row 108 .uls]⟩,[.ls .ls,.int,.int,.ls .uls]⟩,0,⟨[3],⟨[.c (.one (.own 0))],[.row 108 .uls]⟩,[.ls .uls]⟩,zx,lp DB Fa⟩
def Dn:Ma:=⟨⟨[.c (.one (.b (.sl false .ls)))],[]⟩,[.ls .ls],⟨[.c (.one (.own 0))],[.row 108 .uls]⟩,[.ls .uls],Kq⟩
def IF:Ka:=Qa Sg [(117,[],Ik)] 20 0 [] [(3,Bt)]
theorem eR:Na Tryz.prog IF.Γ:=Pa (l:=[(117,[],Ik)]) ⟨⟨GF,Tryz.call117⟩,trivial⟩
theorem zIG:Cb Tryz.prog 0 20 (Bb (Tryz.f119.body.getD .skip) 0) Bt:=Jb (G:=IF) (F:=Bt.F) (eid:=Bt.eid) (FX:=Bt.FX) (FR:=Bt.FR) (B:=DB) (n:=Fa) Ga Ld eR mixed (Ha (G:=IF) (n:=0) (by kernel_rfl) (by kernel_rfl) trivial (by kernel_rfl)) (fun s=>by kernel_rfl)
theorem CN:GC Tryz.prog 119 Dn:=Ra (G:=IF) (c:=Tryz.f119.body.getD .skip) Ga Ld eR mixed Tryz.func119 (by kernel_rfl) Tryz.ntmps119 (Ha (G:=IF) (n:=1) (by kernel_rfl) (by kernel_rfl) ⟨trivial,Kb (id:=3) (L0:=Bt) (by kernel_rfl) (by kernel_rfl) zIG⟩ (by kernel_rfl)) (fun s=>by kernel_rfl)
def Ct:Za:=⟨⟨[2,3,5],⟨[.c (.one (.ptr 0 0)),.c (.one (.ptr 1 0)),zc],[.box 39 [zi,(.b (.sl false .lk)),(.b (.sl false .bool)),(.b (.sl false .int)),(.b (.sl false .db)),(.b (.sl false .pk))],.box 108 [zi,zi,(.b (.sl false .en))]]⟩,[.int,.int,.ls .lk,.ls .bool,.ls .int,.ls .db,.ls .pk,.int,.int,.ls .en]⟩,0,⟨[2,3],⟨[.c (.one (.ptr 0 0)),.c (.one (.ptr 1 0))],[.box 39 [zi,(.b (.sl false .lk)),(.b (.sl false .bool)),(.b (.sl false .int)),(.b (.sl false .db)),(.b (.sl false .pk))],.box 108 [zi,zi,(.b (.sl false .en))]]⟩,[.int,.ls .lk,.ls .bool,.ls .int,.ls .db,.ls .pk,.int,.int,.ls .en]⟩,⟨[4],⟨[.c (.one (.b .bool))],[]⟩,[.bool]⟩,lp EB Fa⟩
def NY:Ma:=⟨⟨[.c (.agg [zi,(.b (.sl false .lk)),(.b (.sl false .bool)),(.b (.sl false .int)),(.b (.sl false .db)),(.b (.sl false .pk))]),.c (.agg [zi,zi,(.b (.sl false .en))])],[]⟩,[.int,.ls .lk,.ls .bool,.ls .int,.ls .db,.ls .pk,.int,.int,.ls .en],⟨[.c (.one (.b .bool))],[]⟩,[.bool],FB⟩
def JF:Ka:=Qa tab [(130,[],Cs),(129,[],QE),(103,[],SE),(38,[],Us),(128,[],DF)] 85 0 [(1,20,[(0,true),(1,false),(2,true),(3,true),(4,true),(5,true),(6,true),(7,true),(8,true),(9,true),(10,true),(11,true),(12,true),(13,true),(14,true),(15,true),(16,true),(17,true),(18,true),(19,true)],[]),(6,10,tk 10,[]),(7,16,tk 16,[]),(9,18,[(0,true),(1,true),(2,true),(3,true),(4,true),(5,true),(6,true),(7,true),(8,true),(9,true),(10,true),(11,true),(13,true),(14,true),(15,true),(16,true),(12,false),(17,false)],[])] [(4,Ct)]
theorem eS:Na Tryz.prog JF.Γ:=Pa (l:=[(130,[],Cs),(129,[],QE),(103,[],SE),(38,[],Us),(128,[],DF)]) ⟨⟨PX,Tryz.call130⟩,⟨⟨eC,Tryz.call129⟩,⟨⟨eE,Tryz.call103⟩,⟨⟨IY,Tryz.call38⟩,⟨⟨eO,Tryz.call128⟩,trivial⟩⟩⟩⟩⟩
theorem zJC:Cb Tryz.prog 0 85 (Bb (Tryz.f80.body.getD .skip) 0) Ct:=Jb (G:=JF) (F:=Ct.F) (eid:=Ct.eid) (FX:=Ct.FX) (FR:=Ct.FR) (B:=EB) (n:=Fa) Ga Ja eS mixed (Ha (G:=JF) (n:=0) (by kernel_rfl) (by kernel_rfl) trivial (by kernel_rfl)) (fun s=>by kernel_rfl)
theorem zLC:GC Tryz.prog 80 NY:=Ra (G:=JF) (c:=Tryz.f80.body.getD .skip) Ga Ja eS mixed Tryz.func80 (by kernel_rfl) Tryz.ntmps80 (Ha (G:=JF) (n:=1) (by kernel_rfl) (by kernel_rfl) ⟨trivial,Kb (id:=4) (L0:=Ct) (by kernel_rfl) (by kernel_rfl) zJC⟩ (by kernel_rfl)) (fun s=>by kernel_rfl)
def OY:Ma:=⟨⟨[zc,.c (.agg [zi,zi,zi])],[]⟩,[.int,.int,.int,.int],⟨[.c (.one (.b .bool))],[]⟩,[.bool],aT⟩
def PY:Ka:=Qa tab [] 5 0 [] []
theorem zN0:Na Tryz.prog PY.Γ:=Pa (l:=[]) trivial
theorem zJY:GC Tryz.prog 109 OY:=Ra (G:=PY) (c:=Tryz.f109.body.getD .skip) Ga Ja zN0 mixed Tryz.func109 (by kernel_rfl) Tryz.ntmps109 (Ha (G:=PY) (n:=0) (by kernel_rfl) (by kernel_rfl) trivial (by kernel_rfl)) (fun s=>by kernel_rfl)
def Dt:Za:=⟨⟨[0,3,4],⟨[.c (.one (.b (.sl false .ls))),zc,zc],[]⟩,[.ls .ls,.int,.int]⟩,2,⟨[0,3],⟨[.c (.one (.b (.sl false .ls))),zc],[]⟩,[.ls .ls,.int]⟩,⟨[2],⟨[.c (.one (.b .bool))],[]⟩,[.bool]⟩,lp GB Fa⟩
def Et:Za:=⟨⟨[0,3],⟨[.c (.one (.b (.sl false .ls))),zc],[]⟩,[.ls .ls,.int]⟩,0,⟨[],⟨[],[]⟩,[]⟩,⟨[2],⟨[.c (.one (.b .bool))],[]⟩,[.bool]⟩,lp IB Fa⟩
def QY:Ma:=⟨⟨[.c (.one (.b (.sl false .ls)))],[]⟩,[.ls .ls],⟨[.c (.one (.b .bool))],[]⟩,[.bool],RL⟩
def Ft:Ka:=Qa tab [(128,[],DF)] 52 0 [(7,33,tk 33,[])] [(5,Dt),(2,Et)]
theorem RY:Na Tryz.prog Ft.Γ:=Pa (l:=[(128,[],DF)]) ⟨⟨eO,Tryz.call128⟩,trivial⟩
theorem zJF:Cb Tryz.prog 0 52 (Bb (Bb (Tryz.f78.body.getD .skip) 0) 0) Dt:=Jb (G:=Ft) (F:=Dt.F) (eid:=Dt.eid) (FX:=Dt.FX) (FR:=Dt.FR) (B:=GB) (n:=Fa) Ga Ja RY mixed (Ha (G:=Ft) (n:=0) (by kernel_rfl) (by kernel_rfl) trivial (by kernel_rfl)) (fun s=>by kernel_rfl)
theorem zJE:Cb Tryz.prog 0 52 (Bb (Tryz.f78.body.getD .skip) 0) Et:=Jb (G:=Ft) (F:=Et.F) (eid:=Et.eid) (FX:=Et.FX) (FR:=Et.FR) (B:=IB) (n:=Fa) Ga Ja RY mixed (Ha (G:=Ft) (n:=1) (by kernel_rfl) (by kernel_rfl) ⟨trivial,Kb (id:=5) (L0:=Dt) (by kernel_rfl) (by kernel_rfl) zJF⟩ (by kernel_rfl)) (fun s=>by kernel_rfl)
theorem zLE:GC Tryz.prog 78 QY:=Ra (G:=Ft) (c:=Tryz.f78.body.getD .skip) Ga Ja RY mixed Tryz.func78 (by kernel_rfl) Tryz.ntmps78 (Ha (G:=Ft) (n:=1) (by kernel_rfl) (by kernel_rfl) ⟨trivial,Kb (id:=2) (L0:=Et) (by kernel_rfl) (by kernel_rfl) zJE⟩ (by kernel_rfl)) (fun s=>by kernel_rfl)
def KF:Ma:=⟨⟨[zc,.c (.agg [zi,zi,zi])],[]⟩,[.int,.int,.int,.int],⟨[.c (.one (.b .bool))],[]⟩,[.bool],RT⟩
def SY:Ka:=Qa tab [] 5 0 [] []
theorem zOc:Na Tryz.prog SY.Γ:=Pa (l:=[]) trivial
theorem eT:GC Tryz.prog 123 KF:=Ra (G:=SY) (c:=Tryz.f123.body.getD .skip) Ga Ja zOc mixed Tryz.func123 (by kernel_rfl) Tryz.ntmps123 (Ha (G:=SY) (n:=0) (by kernel_rfl) (by kernel_rfl) trivial (by kernel_rfl)) (fun s=>by kernel_rfl)
def Gt:Za:=⟨⟨[0,1,12,13],⟨[.c (.one (.b (.sl false .en))),.c (.one (.b (.sl false .en))),zc,zc],[]⟩,[.ls .en,.ls .en,.int,.int]⟩,0,⟨[],⟨[],[]⟩,[]⟩,⟨[4],⟨[.c (.one (.b .bool))],[]⟩,[.bool]⟩,lp SL Fa⟩
def TY:Ma:=⟨⟨[.c (.one (.b (.sl false .en))),.c (.one (.b (.sl false .en)))],[]⟩,[.ls .en,.ls .en],⟨[.c (.one (.b .bool))],[]⟩,[.bool],TL⟩
def LF:Ka:=Qa tab [] 26 0 [(6,8,tk 8,[])] [(4,Gt)]
theorem eU:Na Tryz.prog LF.Γ:=Pa (l:=[]) trivial
theorem zJe:Cb Tryz.prog 0 26 (Bb (Tryz.f138.body.getD .skip) 0) Gt:=Jb (G:=LF) (F:=Gt.F) (eid:=Gt.eid) (FX:=Gt.FX) (FR:=Gt.FR) (B:=SL) (n:=Fa) Ga Ja eU mixed (Ha (G:=LF) (n:=0) (by kernel_rfl) (by kernel_rfl) trivial (by kernel_rfl)) (fun s=>by kernel_rfl)
theorem zLd:GC Tryz.prog 138 TY:=Ra (G:=LF) (c:=Tryz.f138.body.getD .skip) Ga Ja eU mixed Tryz.func138 (by kernel_rfl) Tryz.ntmps138 (Ha (G:=LF) (n:=1) (by kernel_rfl) (by kernel_rfl) ⟨trivial,Kb (id:=4) (L0:=Gt) (by kernel_rfl) (by kernel_rfl) zJe⟩ (by kernel_rfl)) (fun s=>by kernel_rfl)
def Pw:Za:=⟨⟨[1,2],⟨[.c (.one (.ptr 0 0)),.c (.one (.ptr 1 0))],[.box 39 [zi,(.b (.sl false .lk)),(.b (.sl false .bool)),(.b (.sl false .int)),(.b (.sl false .db)),(.b (.sl false .pk))],.box 39 [zi,(.b (.sl true .lk)),(.b (.sl true .bool)),(.b (.sl true .int)),(.b (.sl true .db)),(.b (.sl true .pk))]]⟩,[.int,.ls .lk,.ls .bool,.ls .int,.ls .db,.ls .pk,.int,.ls .lk,.ls .bool,.ls .int,.ls .db,.ls .pk]⟩,0,⟨[1,2,3],⟨[.c (.one (.ptr 0 0)),.c (.one (.ptr 1 0)),.c (.one (.ptr 2 0))],[.box 39 [zi,(.b (.sl false .lk)),(.b (.sl false .bool)),(.b (.sl false .int)),(.b (.sl false .db)),(.b (.sl false .pk))],.box 39 [zi,(.b (.sl true .lk)),(.b (.sl true .bool)),(.b (.sl true .int)),(.b (.sl true .db)),(.b (.sl true .pk))],.box 39 [zi,(.own 3),(.own 4),(.own 5),(.own 6),(.own 7)],.row 114 .lk,.row 4 .bool,.row 3 .int,.row 86 .db,.row 112 .pk]⟩,[.int,.ls .lk,.ls .bool,.ls .int,.ls .db,.ls .pk,.int,.ls .lk,.ls .bool,.ls .int,.ls .db,.ls .pk,.int,.ls .lk,.ls .bool,.ls .int,.ls .db,.ls .pk]⟩,zx,JB⟩
def Ht:Za:=⟨⟨[1,2,3,4],⟨[.c (.one (.ptr 0 0)),.c (.one (.ptr 1 0)),.c (.one (.ptr 2 0)),zc],[.box 39 [zi,(.b (.sl false .lk)),(.b (.sl false .bool)),(.b (.sl false .int)),(.b (.sl false .db)),(.b (.sl false .pk))],.box 39 [zi,(.b (.sl true .lk)),(.b (.sl true .bool)),(.b (.sl true .int)),(.b (.sl true .db)),(.b (.sl true .pk))],.box 39 [zi,(.own 3),(.own 4),(.own 5),(.own 6),(.own 7)],.row 114 .lk,.row 4 .bool,.row 3 .int,.row 86 .db,.row 112 .pk]⟩,[.int,.int,.ls .lk,.ls .bool,.ls .int,.ls .db,.ls .pk,.int,.ls .lk,.ls .bool,.ls .int,.ls .db,.ls .pk,.int,.ls .lk,.ls .bool,.ls .int,.ls .db,.ls .pk]⟩,0,⟨[1,2,3],⟨[.c (.one (.ptr 0 0)),.c (.one (.ptr 1 0)),.c (.one (.ptr 2 0))],[.box 39 [zi,(.b (.sl false .lk)),(.b (.sl false .bool)),(.b (.sl false .int)),(.b (.sl false .db)),(.b (.sl false .pk))],.box 39 [zi,(.b (.sl true .lk)),(.b (.sl true .bool)),(.b (.sl true .int)),(.b (.sl true .db)),(.b (.sl true .pk))],.box 39 [zi,(.own 3),(.own 4),(.own 5),(.own 6),(.own 7)],.row 114 .lk,.row 4 .bool,.row 3 .int,.row 86 .db,.row 112 .pk]⟩,[.int,.ls .lk,.ls .bool,.ls .int,.ls .db,.ls .pk,.int,.ls .lk,.ls .bool,.ls .int,.ls .db,.ls .pk,.int,.ls .lk,.ls .bool,.ls .int,.ls .db,.ls .pk]⟩,zx,lp KB Fa⟩
def Jt:Za:=⟨⟨[1,2,3,5],⟨[.c (.one (.ptr 0 0)),.c (.one (.ptr 1 0)),.c (.one (.ptr 2 0)),zc],[.box 39 [zi,(.b (.sl false .lk)),(.b (.sl false .bool)),(.b (.sl false .int)),(.b (.sl false .db)),(.b (.sl false .pk))],.box 39 [zi,(.b (.sl true .lk)),(.b (.sl true .bool)),(.b (.sl true .int)),(.b (.sl true .db)),(.b (.sl true .pk))],.box 39 [zi,(.own 3),(.own 4),(.own 5),(.own 6),(.own 7)],.row 114 .lk,.row 4 .bool,.row 3 .int,.row 86 .db,.row 112 .pk]⟩,[.int,.int,.ls .lk,.ls .bool,.ls .int,.ls .db,.ls .pk,.int,.ls .lk,.ls .bool,.ls .int,.ls .db,.ls .pk,.int,.ls .lk,.ls .bool,.ls .int,.ls .db,.ls .pk]⟩,2,⟨[2,3],⟨[.c (.one (.ptr 0 0)),.c (.one (.ptr 1 0))],[.box 39 [zi,(.b (.sl true .lk)),(.b (.sl true .bool)),(.b (.sl true .int)),(.b (.sl true .db)),(.b (.sl true .pk))],.box 39 [zi,(.own 2),(.own 3),(.own 4),(.own 5),(.own 6)],.row 114 .lk,.row 4 .bool,.row 3 .int,.row 86 .db,.row 112 .pk]⟩,[.int,.ls .lk,.ls .bool,.ls .int,.ls .db,.ls .pk,.int,.ls .lk,.ls .bool,.ls .int,.ls .db,.ls .pk]⟩,zx,lp LB Fa⟩
def Fn:Ma:=⟨⟨[.c (.agg [zi,(.b (.sl false .lk)),(.b (.sl false .bool)),(.b (.sl false .int)),(.b (.sl false .db)),(.b (.sl false .pk))])],[]⟩,[.int,.ls .lk,.ls .bool,.ls .int,.ls .db,.ls .pk],⟨[.c (.agg [zi,(.own 0),(.own 1),(.own 2),(.own 3),(.own 4)])],[.row 114 .lk,.row 4 .bool,.row 3 .int,.row 86 .db,.row 112 .pk]⟩,[.int,.ls .lk,.ls .bool,.ls .int,.ls .db,.ls .pk],Lq⟩
def Kl:Ka:=Qa tab [(102,[],EY),(107,[],Bn),(104,[],Cn)] 65 0 [(5,9,[(0,true),(1,true),(2,true),(3,true),(4,true),(5,true),(6,true),(7,false),(8,false)],[]),(9,17,[(0,true),(1,true),(2,true),(3,true),(4,true),(5,true),(6,true),(7,true),(8,true),(9,true),(10,true),(11,true),(12,true),(13,true),(14,false),(15,true),(16,false)],[])] [(1,Pw),(3,Ht),(7,Jt)]
theorem DN:Na Tryz.prog Kl.Γ:=Pa (l:=[(102,[],EY),(107,[],Bn),(104,[],Cn)]) ⟨⟨zLu,Tryz.call102⟩,⟨⟨AN,Tryz.call107⟩,⟨⟨BN,Tryz.call104⟩,trivial⟩⟩⟩
theorem zJy:If Tryz.prog 0 65 (Ud Kl.plan (Tryz.f63.body.getD .skip) 0).1 (Ud Kl.plan (Tryz.f63.body.getD .skip) 0).2 Pw:=kC (G:=Kl) (D:=[(3,9),(7,13),(11,17),(12,18)]) (ks:=[]) (t:=(.val 0 (.val 1 (.val 4 (.val 5 (.val 8 (.val 9 (.alt 2 (.alt 6 (.alt 10 (.alt 13 (.one 14 (.one 15 .done)) (.one 14 (.one 13 (.one 15 .done)))) (.one 14 (.one 10 (.one 13 (.one 15 .done))))) (.one 14 (.one 6 (.one 10 (.one 13 (.one 15 .done)))))) (.one 14 (.one 2 (.one 6 (.one 10 (.one 13 (.one 15 .done)))))))))))))) (F:=Pw.F) (eid:=0) (FX:=Pw.FX) (FR:=Pw.FR) (sh:=JB) Ga Ja DN mixed (by kernel_rfl) (by kernel_rfl) ⟨fun s=>by kernel_rfl,fun s=>by kernel_rfl,fun s=>by kernel_rfl,fun s=>by kernel_rfl,fun s=>by kernel_rfl,trivial⟩
theorem zJz:Cb Tryz.prog 0 65 (Bb (Tryz.f63.body.getD .skip) 0) Ht:=Jb (G:=Kl) (F:=Ht.F) (eid:=Ht.eid) (FX:=Ht.FX) (FR:=Ht.FR) (B:=KB) (n:=Fa) Ga Ja DN mixed (Ha (G:=Kl) (n:=0) (by kernel_rfl) (by kernel_rfl) trivial (by kernel_rfl)) (fun s=>by kernel_rfl)
theorem zJA:Cb Tryz.prog 0 65 (Bb (Tryz.f63.body.getD .skip) 1) Jt:=Jb (G:=Kl) (F:=Jt.F) (eid:=Jt.eid) (FX:=Jt.FX) (FR:=Jt.FR) (B:=LB) (n:=Fa) Ga Ja DN mixed (Ha (G:=Kl) (n:=0) (by kernel_rfl) (by kernel_rfl) trivial (by kernel_rfl)) (fun s=>by kernel_rfl)
theorem EN:GC Tryz.prog 63 Fn:=Ra (G:=Kl) (c:=Tryz.f63.body.getD .skip) Ga Ja DN mixed Tryz.func63 (by kernel_rfl) Tryz.ntmps63 (Em (G:=Kl) (n:=2) (m:=1) (by kernel_rfl) (by kernel_rfl) ⟨⟨trivial,Kb (id:=3) (L0:=Ht) (by kernel_rfl) (by kernel_rfl) zJz⟩,Kb (id:=7) (L0:=Jt) (by kernel_rfl) (by kernel_rfl) zJA⟩ (by kernel_rfl) ⟨trivial,Ej (L0:=Pw) (by kernel_rfl) zJy⟩) (fun s=>by kernel_rfl)
def MF:Ma:=⟨⟨[.c (.agg [zi,zi,(.b (.sl false .en))]),.c (.agg [zi,zi,(.b (.sl false .en))])],[]⟩,[.int,.int,.ls .en,.int,.int,.ls .en],⟨[.c (.one (.b .bool))],[]⟩,[.bool],MB⟩
def UY:Ka:=Qa tab [(138,[],TY)] 24 0 [] []
theorem zOh:Na Tryz.prog UY.Γ:=Pa (l:=[(138,[],TY)]) ⟨⟨zLd,Tryz.call138⟩,trivial⟩
theorem eV:GC Tryz.prog 91 MF:=Ra (G:=UY) (c:=Tryz.f91.body.getD .skip) Ga Ja zOh mixed Tryz.func91 (by kernel_rfl) Tryz.ntmps91 (Ha (G:=UY) (n:=0) (by kernel_rfl) (by kernel_rfl) trivial (by kernel_rfl)) (fun s=>by kernel_rfl)
def Kt:Ma:=⟨⟨[.c (.agg [zi,zi,(.b (.sl false .en))]),.c (.one (.at_ [(.int .i64),(.int .i64),(.sl false .en)] 0))],[]⟩,[.int,.int,.ls .en,.int,.int,.ls .en],⟨[.c (.one (.b .bool))],[]⟩,[.bool],UL⟩
def VY:Ka:=Qa tab [(91,[],MF)] 22 0 [] []
theorem zN2:Na Tryz.prog VY.Γ:=Pa (l:=[(91,[],MF)]) ⟨⟨eV,Tryz.call91⟩,trivial⟩
theorem WY:GC Tryz.prog 90 Kt:=Ra (G:=VY) (c:=Tryz.f90.body.getD .skip) Ga Ja zN2 mixed Tryz.func90 (by kernel_rfl) Tryz.ntmps90 (Ha (G:=VY) (n:=0) (by kernel_rfl) (by kernel_rfl) trivial (by kernel_rfl)) (fun s=>by kernel_rfl)
def Lt:Za:=⟨⟨[1,4,5,12,13,14],⟨[.c (.fn 109 []),.c (.one (.ptr 0 0)),.c (.one (.ptr 1 0)),.c (.one (.b (.sl false .lk))),zc,zc],[.box 34 [zi,(.own 2)],.box 34 [zi,(.own 3)],.row 114 .lk,.row 114 .lk]⟩,[.ls .lk,.int,.int,.int,.int,.ls .lk,.ls .lk]⟩,0,⟨[4,5],⟨[.c (.one (.ptr 0 0)),.c (.one (.ptr 1 0))],[.box 34 [zi,(.own 2)],.box 34 [zi,(.own 3)],.row 114 .lk,.row 114 .lk]⟩,[.int,.int,.ls .lk,.ls .lk]⟩,zx,lp ST Fa⟩
def NF:Ma:=⟨⟨[.c (.agg [zi,(.b (.sl false .lk))]),.c (.fn 109 [])],[]⟩,[.int,.ls .lk],⟨[.c (.agg [zi,(.own 0)])],[.row 114 .lk]⟩,[.int,.ls .lk],tD⟩
def OF:Ka:=Qa tab [(109,[],OY)] 31 0 [] [(3,Lt)]
theorem eW:Na Tryz.prog OF.Γ:=Pa (l:=[(109,[],OY)]) ⟨⟨zJY,Tryz.call109⟩,trivial⟩
theorem zIo:Cb Tryz.prog 0 31 (Bb (Tryz.f92.body.getD .skip) 0) Lt:=Jb (G:=OF) (F:=Lt.F) (eid:=Lt.eid) (FX:=Lt.FX) (FR:=Lt.FR) (B:=ST) (n:=Fa) Ga Ja eW mixed (Ha (G:=OF) (n:=0) (by kernel_rfl) (by kernel_rfl) trivial (by kernel_rfl)) (fun s=>by kernel_rfl)
theorem eX:GC Tryz.prog 92 NF:=Ra (G:=OF) (c:=Tryz.f92.body.getD .skip) Ga Ja eW mixed Tryz.func92 (by kernel_rfl) Tryz.ntmps92 (Ha (G:=OF) (n:=1) (by kernel_rfl) (by kernel_rfl) ⟨trivial,Kb (id:=3) (L0:=Lt) (by kernel_rfl) (by kernel_rfl) zIo⟩ (by kernel_rfl)) (fun s=>by kernel_rfl)
def PF:Ma:=⟨⟨[zc,.c (.agg [zi,zi,zi]),.c (.one (.at_ [(.int .i64),(.sl false .lk),(.sl false .bool),(.sl false .int),(.sl false .db),(.sl false .pk)] 0))],[]⟩,[.int,.int,.int,.int,.int,.ls .lk,.ls .bool,.ls .int,.ls .db,.ls .pk],⟨[.c (.one (.b .bool))],[]⟩,[.bool],TT⟩
def XY:Ka:=Qa tab [] 11 0 [] []
theorem zN8:Na Tryz.prog XY.Γ:=Pa (l:=[]) trivial
theorem eY:GC Tryz.prog 93 PF:=Ra (G:=XY) (c:=Tryz.f93.body.getD .skip) Ga Ja zN8 mixed Tryz.func93 (by kernel_rfl) Tryz.ntmps93 (Ha (G:=XY) (n:=0) (by kernel_rfl) (by kernel_rfl) trivial (by kernel_rfl)) (fun s=>by kernel_rfl)
def Mt:Za:=⟨⟨[1,4,5,12,13,14],⟨[.c (.fn 123 []),.c (.one (.ptr 0 0)),.c (.one (.ptr 1 0)),.c (.one (.b (.sl false .lk))),zc,zc],[.box 34 [zi,(.own 2)],.box 34 [zi,(.own 3)],.row 114 .lk,.row 114 .lk]⟩,[.ls .lk,.int,.int,.int,.int,.ls .lk,.ls .lk]⟩,0,⟨[4,5],⟨[.c (.one (.ptr 0 0)),.c (.one (.ptr 1 0))],[.box 34 [zi,(.own 2)],.box 34 [zi,(.own 3)],.row 114 .lk,.row 114 .lk]⟩,[.int,.int,.ls .lk,.ls .lk]⟩,zx,lp VL Fa⟩
def QF:Ma:=⟨⟨[.c (.agg [zi,(.b (.sl false .lk))]),.c (.fn 123 [])],[]⟩,[.int,.ls .lk],⟨[.c (.agg [zi,(.own 0)])],[.row 114 .lk]⟩,[.int,.ls .lk],WL⟩
def RF:Ka:=Qa tab [(123,[],KF)] 31 0 [] [(3,Mt)]
theorem eZ:Na Tryz.prog RF.Γ:=Pa (l:=[(123,[],KF)]) ⟨⟨eT,Tryz.call123⟩,trivial⟩
theorem zIp:Cb Tryz.prog 0 31 (Bb (Tryz.f92.body.getD .skip) 0) Mt:=Jb (G:=RF) (F:=Mt.F) (eid:=Mt.eid) (FX:=Mt.FX) (FR:=Mt.FR) (B:=VL) (n:=Fa) Ga Ja eZ mixed (Ha (G:=RF) (n:=0) (by kernel_rfl) (by kernel_rfl) trivial (by kernel_rfl)) (fun s=>by kernel_rfl)
theorem fA:GC Tryz.prog 92 QF:=Ra (G:=RF) (c:=Tryz.f92.body.getD .skip) Ga Ja eZ mixed Tryz.func92 (by kernel_rfl) Tryz.ntmps92 (Ha (G:=RF) (n:=1) (by kernel_rfl) (by kernel_rfl) ⟨trivial,Kb (id:=3) (L0:=Mt) (by kernel_rfl) (by kernel_rfl) zIp⟩ (by kernel_rfl)) (fun s=>by kernel_rfl)
def Nt:Za:=⟨⟨[0,1,7,8],⟨[.c (.one (.b (.sl false .ls))),.c (.fn 90 [(.at_ [(.int .i64),(.int .i64),(.sl false .en)] 0)]),zc,zc],[]⟩,[.ls .ls,.int,.int,.ls .en,.int,.int]⟩,0,⟨[],⟨[],[]⟩,[]⟩,⟨[4],⟨[zc],[]⟩,[.int]⟩,lp NB Fa⟩
def YY:Ma:=⟨⟨[.c (.one (.b (.sl false .ls))),.c (.fn 90 [(.at_ [(.int .i64),(.int .i64),(.sl false .en)] 0)])],[]⟩,[.ls .ls,.int,.int,.ls .en],⟨[zc],[]⟩,[.int],UT⟩
def SF:Ka:=Qa tab [(90,[],Kt)] 19 0 [] [(2,Nt)]
theorem fB:Na Tryz.prog SF.Γ:=Pa (l:=[(90,[],Kt)]) ⟨⟨WY,Tryz.call90⟩,trivial⟩
theorem zJg:Cb Tryz.prog 0 19 (Bb (Tryz.f137.body.getD .skip) 0) Nt:=Jb (G:=SF) (F:=Nt.F) (eid:=Nt.eid) (FX:=Nt.FX) (FR:=Nt.FR) (B:=NB) (n:=Fa) Ga Ja fB mixed (Ha (G:=SF) (n:=0) (by kernel_rfl) (by kernel_rfl) trivial (by kernel_rfl)) (fun s=>by kernel_rfl)
theorem zLf:GC Tryz.prog 137 YY:=Ra (G:=SF) (c:=Tryz.f137.body.getD .skip) Ga Ja fB mixed Tryz.func137 (by kernel_rfl) Tryz.ntmps137 (Ha (G:=SF) (n:=1) (by kernel_rfl) (by kernel_rfl) ⟨trivial,Kb (id:=2) (L0:=Nt) (by kernel_rfl) (by kernel_rfl) zJg⟩ (by kernel_rfl)) (fun s=>by kernel_rfl)
def ZY:Ma:=⟨⟨[.c (.one (.b (.sl false .ls))),.c (.fn 90 [(.at_ [(.int .i64),(.int .i64),(.sl false .en)] 0)])],[]⟩,[.ls .ls,.int,.int,.ls .en],⟨[.c (.one (.b .bool))],[]⟩,[.bool],XL⟩
def AZ:Ka:=Qa tab [(90,[],Kt),(137,[90],YY)] 9 0 [] []
theorem zPa:Na Tryz.prog AZ.Γ:=Pa (l:=[(90,[],Kt),(137,[90],YY)]) ⟨⟨WY,Tryz.call90⟩,⟨⟨zLf,Tryz.call137⟩,trivial⟩⟩
theorem zLb:GC Tryz.prog 89 ZY:=Ra (G:=AZ) (c:=Tryz.f89.body.getD .skip) Ga Ja zPa mixed Tryz.func89 (by kernel_rfl) Tryz.ntmps89 (Ha (G:=AZ) (n:=0) (by kernel_rfl) (by kernel_rfl) trivial (by kernel_rfl)) (fun s=>by kernel_rfl)
def Ot:Za:=⟨⟨[1,4,5,12,13,14],⟨[.c (.fn 93 [(.at_ [(.int .i64),(.sl false .lk),(.sl false .bool),(.sl false .int),(.sl false .db),(.sl false .pk)] 0)]),.c (.one (.ptr 0 0)),.c (.one (.ptr 1 0)),.c (.one (.b (.sl false .lk))),zc,zc],[.box 34 [zi,(.own 2)],.box 34 [zi,(.own 3)],.row 114 .lk,.row 114 .lk]⟩,[.int,.ls .lk,.ls .bool,.ls .int,.ls .db,.ls .pk,.ls .lk,.int,.int,.int,.int,.ls .lk,.ls .lk]⟩,0,⟨[4,5],⟨[.c (.one (.ptr 0 0)),.c (.one (.ptr 1 0))],[.box 34 [zi,(.own 2)],.box 34 [zi,(.own 3)],.row 114 .lk,.row 114 .lk]⟩,[.int,.int,.ls .lk,.ls .lk]⟩,zx,lp YL Fa⟩
def BZ:Ma:=⟨⟨[.c (.agg [zi,(.b (.sl false .lk))]),.c (.fn 93 [(.at_ [(.int .i64),(.sl false .lk),(.sl false .bool),(.sl false .int),(.sl false .db),(.sl false .pk)] 0)])],[]⟩,[.int,.ls .lk,.int,.ls .lk,.ls .bool,.ls .int,.ls .db,.ls .pk],⟨[.c (.agg [zi,(.own 0)])],[.row 114 .lk]⟩,[.int,.ls .lk],VT⟩
def TF:Ka:=Qa tab [(93,[],PF)] 31 0 [] [(3,Ot)]
theorem fC:Na Tryz.prog TF.Γ:=Pa (l:=[(93,[],PF)]) ⟨⟨eY,Tryz.call93⟩,trivial⟩
theorem zIq:Cb Tryz.prog 0 31 (Bb (Tryz.f92.body.getD .skip) 0) Ot:=Jb (G:=TF) (F:=Ot.F) (eid:=Ot.eid) (FX:=Ot.FX) (FR:=Ot.FR) (B:=YL) (n:=Fa) Ga Ja fC mixed (Ha (G:=TF) (n:=0) (by kernel_rfl) (by kernel_rfl) trivial (by kernel_rfl)) (fun s=>by kernel_rfl)
theorem zJQ:GC Tryz.prog 92 BZ:=Ra (G:=TF) (c:=Tryz.f92.body.getD .skip) Ga Ja fC mixed Tryz.func92 (by kernel_rfl) Tryz.ntmps92 (Ha (G:=TF) (n:=1) (by kernel_rfl) (by kernel_rfl) ⟨trivial,Kb (id:=3) (L0:=Ot) (by kernel_rfl) (by kernel_rfl) zIq⟩ (by kernel_rfl)) (fun s=>by kernel_rfl)
def Pt:Za:=⟨⟨[1,3,4],⟨[.c (.one (.ptr 0 0)),zc,zc],[.box 39 [zi,(.b (.sl false .lk)),(.b (.sl false .bool)),(.b (.sl false .int)),(.b (.sl false .db)),(.b (.sl false .pk))]]⟩,[.int,.int,.int,.ls .lk,.ls .bool,.ls .int,.ls .db,.ls .pk]⟩,2,⟨[1,3],⟨[.c (.one (.ptr 0 0)),zc],[.box 39 [zi,(.b (.sl false .lk)),(.b (.sl false .bool)),(.b (.sl false .int)),(.b (.sl false .db)),(.b (.sl false .pk))]]⟩,[.int,.int,.ls .lk,.ls .bool,.ls .int,.ls .db,.ls .pk]⟩,⟨[2],⟨[.c (.one (.b .bool))],[]⟩,[.bool]⟩,lp OB Fa⟩
def Qt:Za:=⟨⟨[1,3],⟨[.c (.one (.ptr 0 0)),zc],[.box 39 [zi,(.b (.sl false .lk)),(.b (.sl false .bool)),(.b (.sl false .int)),(.b (.sl false .db)),(.b (.sl false .pk))]]⟩,[.int,.int,.ls .lk,.ls .bool,.ls .int,.ls .db,.ls .pk]⟩,0,⟨[1],⟨[.c (.one (.ptr 0 0))],[.box 39 [zi,(.b (.sl false .lk)),(.b (.sl false .bool)),(.b (.sl false .int)),(.b (.sl false .db)),(.b (.sl false .pk))]]⟩,[.int,.ls .lk,.ls .bool,.ls .int,.ls .db,.ls .pk]⟩,⟨[2],⟨[.c (.one (.b .bool))],[]⟩,[.bool]⟩,lp PB Fa⟩
def Rt:Za:=⟨⟨[1,7],⟨[.c (.one (.ptr 0 0)),zc],[.box 39 [zi,(.b (.sl false .lk)),(.b (.sl false .bool)),(.b (.sl false .int)),(.b (.sl false .db)),(.b (.sl false .pk))]]⟩,[.int,.int,.ls .lk,.ls .bool,.ls .int,.ls .db,.ls .pk]⟩,4,⟨[],⟨[],[]⟩,[]⟩,⟨[2],⟨[.c (.one (.b .bool))],[]⟩,[.bool]⟩,lp QB Fa⟩
def CZ:Ma:=⟨⟨[.c (.agg [zi,(.b (.sl false .lk)),(.b (.sl false .bool)),(.b (.sl false .int)),(.b (.sl false .db)),(.b (.sl false .pk))])],[]⟩,[.int,.ls .lk,.ls .bool,.ls .int,.ls .db,.ls .pk],⟨[.c (.one (.b .bool))],[]⟩,[.bool],ZL⟩
def Gn:Ka:=Qa tab [(82,[],Ti),(81,[],ME),(79,[],KY),(77,[],MY),(80,[],NY),(78,[],QY)] 97 0 [(9,9,tk 9,[]),(12,10,tk 10,[]),(17,20,[(0,true),(1,true),(2,true),(3,true),(4,true),(5,true),(6,true),(7,true),(8,true),(9,true),(10,false),(11,true),(12,true),(13,true),(14,true),(15,true),(16,true),(17,true),(18,true),(19,true)],[])] [(7,Pt),(4,Qt),(15,Rt)]
theorem FN:Na Tryz.prog Gn.Γ:=Pa (l:=[(82,[],Ti),(81,[],ME),(79,[],KY),(77,[],MY),(80,[],NY),(78,[],QY)]) ⟨⟨Ow,Tryz.call82⟩,⟨⟨dX,Tryz.call81⟩,⟨⟨zLw,Tryz.call79⟩,⟨⟨zLG,Tryz.call77⟩,⟨⟨zLC,Tryz.call80⟩,⟨⟨zLE,Tryz.call78⟩,trivial⟩⟩⟩⟩⟩⟩
theorem zJn:Cb Tryz.prog 0 97 (Bb (Bb (Tryz.f37.body.getD .skip) 0) 0) Pt:=Jb (G:=Gn) (F:=Pt.F) (eid:=Pt.eid) (FX:=Pt.FX) (FR:=Pt.FR) (B:=OB) (n:=Fa) Ga Ja FN mixed (Ha (G:=Gn) (n:=0) (by kernel_rfl) (by kernel_rfl) trivial (by kernel_rfl)) (fun s=>by kernel_rfl)
theorem zJm:Cb Tryz.prog 0 97 (Bb (Tryz.f37.body.getD .skip) 0) Qt:=Jb (G:=Gn) (F:=Qt.F) (eid:=Qt.eid) (FX:=Qt.FX) (FR:=Qt.FR) (B:=PB) (n:=Fa) Ga Ja FN mixed (Ha (G:=Gn) (n:=1) (by kernel_rfl) (by kernel_rfl) ⟨trivial,Kb (id:=7) (L0:=Pt) (by kernel_rfl) (by kernel_rfl) zJn⟩ (by kernel_rfl)) (fun s=>by kernel_rfl)
theorem zJl:Cb Tryz.prog 0 97 (Bb (Tryz.f37.body.getD .skip) 1) Rt:=Jb (G:=Gn) (F:=Rt.F) (eid:=Rt.eid) (FX:=Rt.FX) (FR:=Rt.FR) (B:=QB) (n:=Fa) Ga Ja FN mixed (Ha (G:=Gn) (n:=0) (by kernel_rfl) (by kernel_rfl) trivial (by kernel_rfl)) (fun s=>by kernel_rfl)
theorem zLn:GC Tryz.prog 37 CZ:=Ra (G:=Gn) (c:=Tryz.f37.body.getD .skip) Ga Ja FN mixed Tryz.func37 (by kernel_rfl) Tryz.ntmps37 (Ha (G:=Gn) (n:=2) (by kernel_rfl) (by kernel_rfl) ⟨⟨trivial,Kb (id:=4) (L0:=Qt) (by kernel_rfl) (by kernel_rfl) zJm⟩,Kb (id:=15) (L0:=Rt) (by kernel_rfl) (by kernel_rfl) zJl⟩ (by kernel_rfl)) (fun s=>by kernel_rfl)
def Tt:Ma:=⟨⟨[.c (.agg [zi,(.b (.sl false .lk)),(.b (.sl false .bool)),(.b (.sl false .int)),(.b (.sl false .db)),(.b (.sl false .pk))])],[]⟩,[.int,.ls .lk,.ls .bool,.ls .int,.ls .db,.ls .pk],⟨[.c (.agg [zi,(.own 0)])],[.row 114 .lk]⟩,[.int,.ls .lk],Iw⟩
def DZ:Ka:=Qa tab [(92,[109],NF),(93,[],PF),(92,[123],QF),(92,[93],BZ)] 7 0 [] []
theorem zN7:Na Tryz.prog DZ.Γ:=Pa (l:=[(92,[109],NF),(93,[],PF),(92,[123],QF),(92,[93],BZ)]) ⟨⟨eX,Tryz.call92⟩,⟨⟨eY,Tryz.call93⟩,⟨⟨fA,Tryz.call92⟩,⟨⟨zJQ,Tryz.call92⟩,trivial⟩⟩⟩⟩
theorem EZ:GC Tryz.prog 44 Tt:=Ra (G:=DZ) (c:=Tryz.f44.body.getD .skip) Ga Ja zN7 mixed Tryz.func44 (by kernel_rfl) Tryz.ntmps44 (Ha (G:=DZ) (n:=0) (by kernel_rfl) (by kernel_rfl) trivial (by kernel_rfl)) (fun s=>by kernel_rfl)
def Qw:Za:=⟨⟨[1,2],⟨[.c (.one (.ptr 0 0)),.c (.one (.ptr 1 0))],[.box 39 [zi,(.b (.sl false .lk)),(.b (.sl false .bool)),(.b (.sl false .int)),(.b (.sl false .db)),(.b (.sl false .pk))],.box 39 [zi,(.b (.sl true .lk)),(.b (.sl true .bool)),(.b (.sl true .int)),(.b (.sl true .db)),(.b (.sl true .pk))]]⟩,[.int,.ls .lk,.ls .bool,.ls .int,.ls .db,.ls .pk,.int,.ls .lk,.ls .bool,.ls .int,.ls .db,.ls .pk]⟩,0,⟨[1,2,3],⟨[.c (.one (.ptr 0 0)),.c (.one (.ptr 1 0)),.c (.one (.ptr 2 0))],[.box 39 [zi,(.b (.sl false .lk)),(.b (.sl false .bool)),(.b (.sl false .int)),(.b (.sl false .db)),(.b (.sl false .pk))],.box 39 [zi,(.b (.sl true .lk)),(.b (.sl true .bool)),(.b (.sl true .int)),(.b (.sl true .db)),(.b (.sl true .pk))],.box 39 [zi,(.own 3),(.own 4),(.own 5),(.own 6),(.own 7)],.row 114 .lk,.row 4 .bool,.row 3 .int,.row 86 .udb,.row 112 .upk]⟩,[.int,.ls .lk,.ls .bool,.ls .int,.ls .db,.ls .pk,.int,.ls .lk,.ls .bool,.ls .int,.ls .db,.ls .pk,.int,.ls .lk,.ls .bool,.ls .int,.ls .udb,.ls .upk]⟩,zx,RB⟩
def Ut:Za:=⟨⟨[1,2,3,19,20,21],⟨[.c (.one (.ptr 0 0)),.c (.one (.ptr 1 0)),.c (.one (.ptr 2 0)),.c (.one (.b (.sl false .db))),zc,zc],[.box 39 [zi,(.b (.sl false .lk)),(.b (.sl false .bool)),(.b (.sl false .int)),(.b (.sl false .db)),(.b (.sl false .pk))],.box 39 [zi,(.b (.sl true .lk)),(.b (.sl true .bool)),(.b (.sl true .int)),(.b (.sl true .db)),(.b (.sl true .pk))],.box 39 [zi,(.own 3),(.own 4),(.own 5),(.own 6),(.own 7)],.row 114 .lk,.row 4 .bool,.row 3 .int,.row 86 .udb,.row 112 .upk]⟩,[.ls .db,.int,.int,.int,.ls .lk,.ls .bool,.ls .int,.ls .db,.ls .pk,.int,.ls .lk,.ls .bool,.ls .int,.ls .db,.ls .pk,.int,.ls .lk,.ls .bool,.ls .int,.ls .udb,.ls .upk]⟩,0,⟨[1,2,3],⟨[.c (.one (.ptr 0 0)),.c (.one (.ptr 1 0)),.c (.one (.ptr 2 0))],[.box 39 [zi,(.b (.sl false .lk)),(.b (.sl false .bool)),(.b (.sl false .int)),(.b (.sl false .db)),(.b (.sl false .pk))],.box 39 [zi,(.b (.sl true .lk)),(.b (.sl true .bool)),(.b (.sl true .int)),(.b (.sl true .db)),(.b (.sl true .pk))],.box 39 [zi,(.own 3),(.own 4),(.own 5),(.own 6),(.own 7)],.row 114 .lk,.row 4 .bool,.row 3 .int,.row 86 .udb,.row 112 .upk]⟩,[.int,.ls .lk,.ls .bool,.ls .int,.ls .db,.ls .pk,.int,.ls .lk,.ls .bool,.ls .int,.ls .db,.ls .pk,.int,.ls .lk,.ls .bool,.ls .int,.ls .udb,.ls .upk]⟩,zx,lp SB Fa⟩
def Vt:Za:=⟨⟨[2,3,34,35,36],⟨[.c (.one (.ptr 0 0)),.c (.one (.ptr 1 0)),.c (.one (.b (.sl false .pk))),zc,zc],[.box 39 [zi,(.b (.sl true .lk)),(.b (.sl true .bool)),(.b (.sl true .int)),(.b (.sl true .db)),(.b (.sl true .pk))],.box 39 [zi,(.own 2),(.own 3),(.own 4),(.own 5),(.own 6)],.row 114 .lk,.row 4 .bool,.row 3 .int,.row 86 .udb,.row 112 .upk]⟩,[.ls .pk,.int,.int,.int,.ls .lk,.ls .bool,.ls .int,.ls .db,.ls .pk,.int,.ls .lk,.ls .bool,.ls .int,.ls .udb,.ls .upk]⟩,2,⟨[2,3],⟨[.c (.one (.ptr 0 0)),.c (.one (.ptr 1 0))],[.box 39 [zi,(.b (.sl true .lk)),(.b (.sl true .bool)),(.b (.sl true .int)),(.b (.sl true .db)),(.b (.sl true .pk))],.box 39 [zi,(.own 2),(.own 3),(.own 4),(.own 5),(.own 6)],.row 114 .lk,.row 4 .bool,.row 3 .int,.row 86 .udb,.row 112 .upk]⟩,[.int,.ls .lk,.ls .bool,.ls .int,.ls .db,.ls .pk,.int,.ls .lk,.ls .bool,.ls .int,.ls .udb,.ls .upk]⟩,zx,lp TB Fa⟩
def FZ:Ma:=⟨⟨[.c (.agg [zi,(.b (.sl false .lk)),(.b (.sl false .bool)),(.b (.sl false .int)),(.b (.sl false .db)),(.b (.sl false .pk))])],[]⟩,[.int,.ls .lk,.ls .bool,.ls .int,.ls .db,.ls .pk],⟨[.c (.agg [zi,(.own 0),(.own 1),(.own 2),(.own 3),(.own 4)])],[.row 114 .lk,.row 4 .bool,.row 3 .int,.row 86 .udb,.row 112 .upk]⟩,[.int,.ls .lk,.ls .bool,.ls .int,.ls .udb,.ls .upk],AM⟩
def Ll:Ka:=Qa Sg [(124,[],GS),(125,[],IS),(117,[],Ik),(119,[],Dn),(123,[],KF),(92,[109],NF),(92,[123],QF)] 53 0 [(5,5,[(0,true),(1,true),(2,true),(3,false),(4,false)],[]),(10,9,[(0,true),(1,true),(2,true),(3,true),(4,true),(5,true),(6,false),(7,true),(8,false)],[])] [(1,Qw),(3,Ut),(8,Vt)]
theorem GN:Na Tryz.prog Ll.Γ:=Pa (l:=[(124,[],GS),(125,[],IS),(117,[],Ik),(119,[],Dn),(123,[],KF),(92,[109],NF),(92,[123],QF)]) ⟨⟨qZ,Tryz.call124⟩,⟨⟨rA,Tryz.call125⟩,⟨⟨GF,Tryz.call117⟩,⟨⟨CN,Tryz.call119⟩,⟨⟨eT,Tryz.call123⟩,⟨⟨eX,Tryz.call92⟩,⟨⟨fA,Tryz.call92⟩,trivial⟩⟩⟩⟩⟩⟩⟩
theorem zIH:If Tryz.prog 0 53 (Ud Ll.plan (Tryz.f73.body.getD .skip) 0).1 (Ud Ll.plan (Tryz.f73.body.getD .skip) 0).2 Qw:=WH (G:=Ll) (n:=11) (ks:=[]) (t:=(.val 0 (.val 1 (.val 3 (.val 4 (.val 6 (.val 7 (.two 2 (.two 5 (.two 8 (.val 9 (.one 10 .done)) 10 (.one 8 (.val 9 .done))) 10 (.one 5 (.one 8 (.val 9 .done)))) 10 (.one 2 (.one 5 (.one 8 (.val 9 .done)))))))))))) (F:=Qw.F) (eid:=0) (FX:=Qw.FX) (FR:=Qw.FR) (sh:=RB) Ga Ld GN mixed (by kernel_rfl) (by kernel_rfl) ⟨fun s=>by kernel_rfl,fun s=>by kernel_rfl,fun s=>by kernel_rfl,fun s=>by kernel_rfl,trivial⟩
theorem zII:Cb Tryz.prog 0 53 (Bb (Tryz.f73.body.getD .skip) 0) Ut:=Jb (G:=Ll) (F:=Ut.F) (eid:=Ut.eid) (FX:=Ut.FX) (FR:=Ut.FR) (B:=SB) (n:=Fa) Ga Ld GN mixed (Ha (G:=Ll) (n:=0) (by kernel_rfl) (by kernel_rfl) trivial (by kernel_rfl)) (fun s=>by kernel_rfl)
theorem zIJ:Cb Tryz.prog 0 53 (Bb (Tryz.f73.body.getD .skip) 1) Vt:=Jb (G:=Ll) (F:=Vt.F) (eid:=Vt.eid) (FX:=Vt.FX) (FR:=Vt.FR) (B:=TB) (n:=Fa) Ga Ld GN mixed (Ha (G:=Ll) (n:=0) (by kernel_rfl) (by kernel_rfl) trivial (by kernel_rfl)) (fun s=>by kernel_rfl)
theorem zJ9:GC Tryz.prog 73 FZ:=Ra (G:=Ll) (c:=Tryz.f73.body.getD .skip) Ga Ld GN mixed Tryz.func73 (by kernel_rfl) Tryz.ntmps73 (Em (G:=Ll) (n:=2) (m:=1) (by kernel_rfl) (by kernel_rfl) ⟨⟨trivial,Kb (id:=3) (L0:=Ut) (by kernel_rfl) (by kernel_rfl) zII⟩,Kb (id:=8) (L0:=Vt) (by kernel_rfl) (by kernel_rfl) zIJ⟩ (by kernel_rfl) ⟨trivial,Ej (L0:=Qw) (by kernel_rfl) zIH⟩) (fun s=>by kernel_rfl)
def Xt:Za:=⟨⟨[2,3,31,32,33],⟨[.c (.one (.ptr 0 0)),.c (.one (.ptr 1 0)),.c (.one (.b (.sl false .en))),zc,zc],[.box 39 [zi,(.b (.sl false .lk)),(.b (.sl false .bool)),(.b (.sl false .int)),(.b (.sl false .db)),(.b (.sl false .pk))],.box 108 [zi,zi,(.b (.sl false .en))]]⟩,[.ls .en,.int,.int,.int,.ls .lk,.ls .bool,.ls .int,.ls .db,.ls .pk,.int,.int,.ls .en]⟩,0,⟨[2,3],⟨[.c (.one (.ptr 0 0)),.c (.one (.ptr 1 0))],[.box 39 [zi,(.b (.sl false .lk)),(.b (.sl false .bool)),(.b (.sl false .int)),(.b (.sl false .db)),(.b (.sl false .pk))],.box 108 [zi,zi,(.b (.sl false .en))]]⟩,[.int,.ls .lk,.ls .bool,.ls .int,.ls .db,.ls .pk,.int,.int,.ls .en]⟩,⟨[4],⟨[.c (.one (.b .bool))],[]⟩,[.bool]⟩,lp UB Fa⟩
def GZ:Ma:=⟨⟨[.c (.agg [zi,(.b (.sl false .lk)),(.b (.sl false .bool)),(.b (.sl false .int)),(.b (.sl false .db)),(.b (.sl false .pk))]),.c (.agg [zi,zi,(.b (.sl false .en))])],[]⟩,[.int,.ls .lk,.ls .bool,.ls .int,.ls .db,.ls .pk,.int,.int,.ls .en],⟨[.c (.one (.b .bool))],[]⟩,[.bool],BM⟩
def UF:Ka:=Qa tab [(132,[],OE),(91,[],MF),(136,[],LE),(112,[],ZE),(44,[],Tt)] 79 0 [(1,20,[(0,true),(1,false),(2,true),(3,true),(4,true),(5,true),(6,true),(7,true),(8,true),(9,true),(10,true),(11,true),(12,true),(13,true),(14,true),(15,true),(16,true),(17,true),(18,true),(19,true)],[]),(7,12,tk 12,[]),(10,18,[(0,true),(1,true),(2,true),(3,true),(4,true),(5,true),(6,true),(7,true),(8,true),(9,true),(10,true),(11,true),(13,true),(14,true),(15,true),(16,true),(12,false),(17,false)],[])] [(4,Xt)]
theorem fD:Na Tryz.prog UF.Γ:=Pa (l:=[(132,[],OE),(91,[],MF),(136,[],LE),(112,[],ZE),(44,[],Tt)]) ⟨⟨dZ,Tryz.call132⟩,⟨⟨eV,Tryz.call91⟩,⟨⟨dV,Tryz.call136⟩,⟨⟨eL,Tryz.call112⟩,⟨⟨EZ,Tryz.call44⟩,trivial⟩⟩⟩⟩⟩
theorem zIF:Cb Tryz.prog 0 79 (Bb (Tryz.f88.body.getD .skip) 0) Xt:=Jb (G:=UF) (F:=Xt.F) (eid:=Xt.eid) (FX:=Xt.FX) (FR:=Xt.FR) (B:=UB) (n:=Fa) Ga Ja fD mixed (Ha (G:=UF) (n:=0) (by kernel_rfl) (by kernel_rfl) trivial (by kernel_rfl)) (fun s=>by kernel_rfl)
theorem zJ4:GC Tryz.prog 88 GZ:=Ra (G:=UF) (c:=Tryz.f88.body.getD .skip) Ga Ja fD mixed Tryz.func88 (by kernel_rfl) Tryz.ntmps88 (Ha (G:=UF) (n:=1) (by kernel_rfl) (by kernel_rfl) ⟨trivial,Kb (id:=4) (L0:=Xt) (by kernel_rfl) (by kernel_rfl) zIF⟩ (by kernel_rfl)) (fun s=>by kernel_rfl)
def Yt:Ma:=⟨⟨[.c (.one (.b (.sl false .ls))),.c (.agg [zi,zi,(.b (.sl false .en))])],[]⟩,[.ls .ls,.int,.int,.ls .en],⟨[.tup [(.one (.own 0)),(.one zi)]],[.row 108 .uls]⟩,[.int,.ls .uls],Wo⟩
def HZ:Ka:=Qa Sg [(145,[],NS),(117,[],Ik),(119,[],Dn),(87,[],YE)] 58 0 [(4,9,tk 9,[]),(6,9,tk 9,[])] []
theorem zOg:Na Tryz.prog HZ.Γ:=Pa (l:=[(145,[],NS),(117,[],Ik),(119,[],Dn),(87,[],YE)]) ⟨⟨rD,Tryz.call145⟩,⟨⟨GF,Tryz.call117⟩,⟨⟨CN,Tryz.call119⟩,⟨⟨eJ,Tryz.call87⟩,trivial⟩⟩⟩⟩
theorem IZ:GC Tryz.prog 115 Yt:=Ra (G:=HZ) (c:=Tryz.f115.body.getD .skip) Ga Ld zOg mixed Tryz.func115 (by kernel_rfl) Tryz.ntmps115 (Ha (G:=HZ) (n:=0) (by kernel_rfl) (by kernel_rfl) trivial (by kernel_rfl)) (fun s=>by kernel_rfl)
def Zt:Za:=⟨⟨[0,3,8,9],⟨[.c (.one (.b (.sl false .ls))),.c (.one (.ptr 0 0)),.c (.one (.own 1)),zc],[.box 108 [zi,zi,(.b (.sl false .en))],.row 108 .ls]⟩,[.ls .ls,.int,.int,.int,.ls .en,.ls .ls]⟩,0,⟨[0,3,8],⟨[.c (.one (.b (.sl false .ls))),.c (.one (.ptr 0 0)),.c (.one (.own 1))],[.box 108 [zi,zi,(.b (.sl false .en))],.row 108 .ls]⟩,[.ls .ls,.int,.int,.ls .en,.ls .ls]⟩,zx,lp Gl Fa⟩
def Au:Za:=⟨⟨[0,3,8,10],⟨[.c (.one (.b (.sl false .ls))),.c (.one (.ptr 0 0)),.c (.one (.own 1)),zc],[.box 108 [zi,zi,(.b (.sl false .en))],.row 108 .ls]⟩,[.ls .ls,.int,.int,.int,.ls .en,.ls .ls]⟩,2,⟨[8],⟨[.c (.one (.own 0))],[.row 108 .ls]⟩,[.ls .ls]⟩,zx,lp Hl Fa⟩
def Bu:Ma:=⟨⟨[.c (.one (.b (.sl false .ls))),.c (.agg [zi,zi,(.b (.sl false .en))])],[]⟩,[.ls .ls,.int,.int,.ls .en],⟨[.tup [(.one (.own 0)),(.one zi)]],[.row 108 .ls]⟩,[.int,.ls .ls],Jw⟩
def Cu:Ka:=Qa tab [(81,[],ME),(107,[],Bn),(104,[],Cn)] 91 0 [(8,12,tk 12,[]),(15,7,tk 7,[])] [(8,Zt),(13,Au)]
theorem JZ:Na Tryz.prog Cu.Γ:=Pa (l:=[(81,[],ME),(107,[],Bn),(104,[],Cn)]) ⟨⟨dX,Tryz.call81⟩,⟨⟨AN,Tryz.call107⟩,⟨⟨BN,Tryz.call104⟩,trivial⟩⟩⟩
theorem zJt:Cb Tryz.prog 0 91 (Bb (Tryz.f147.body.getD .skip) 0) Zt:=Jb (G:=Cu) (F:=Zt.F) (eid:=Zt.eid) (FX:=Zt.FX) (FR:=Zt.FR) (B:=Gl) (n:=Fa) Ga Ja JZ mixed (Ha (G:=Cu) (n:=0) (by kernel_rfl) (by kernel_rfl) trivial (by kernel_rfl)) (fun s=>by kernel_rfl)
theorem zJs:Cb Tryz.prog 0 91 (Bb (Tryz.f147.body.getD .skip) 1) Au:=Jb (G:=Cu) (F:=Au.F) (eid:=Au.eid) (FX:=Au.FX) (FR:=Au.FR) (B:=Hl) (n:=Fa) Ga Ja JZ mixed (Ha (G:=Cu) (n:=0) (by kernel_rfl) (by kernel_rfl) trivial (by kernel_rfl)) (fun s=>by kernel_rfl)
theorem KZ:GC Tryz.prog 147 Bu:=Ra (G:=Cu) (c:=Tryz.f147.body.getD .skip) Ga Ja JZ mixed Tryz.func147 (by kernel_rfl) Tryz.ntmps147 (Ha (G:=Cu) (n:=2) (by kernel_rfl) (by kernel_rfl) ⟨⟨trivial,Kb (id:=8) (L0:=Zt) (by kernel_rfl) (by kernel_rfl) zJt⟩,Kb (id:=13) (L0:=Au) (by kernel_rfl) (by kernel_rfl) zJs⟩ (by kernel_rfl)) (fun s=>by kernel_rfl)
def Du:Za:=⟨⟨[5,10,11,12],⟨[.c (.one (.own 0)),.c (.one (.b (.sl false .ls))),zc,zc],[.row 108 .uls]⟩,[.ls .ls,.int,.int,.ls .uls]⟩,0,⟨[5],⟨[.c (.one (.own 0))],[.row 108 .uls]⟩,[.ls .uls]⟩,zx,lp VB Fa⟩
def LZ:Ma:=⟨⟨[.c (.one (.b (.sl false .ls))),.c (.one (.b (.sl false .ls)))],[]⟩,[.ls .ls,.ls .ls],⟨[.c (.one (.own 0))],[.row 108 .uls]⟩,[.ls .uls],Ge⟩
def VF:Ka:=Qa Sg [(119,[],Dn),(115,[],Yt)] 24 0 [] [(3,Du)]
theorem fE:Na Tryz.prog VF.Γ:=Pa (l:=[(119,[],Dn),(115,[],Yt)]) ⟨⟨CN,Tryz.call119⟩,⟨⟨IZ,Tryz.call115⟩,trivial⟩⟩
theorem zIK:Cb Tryz.prog 0 24 (Bb (Tryz.f118.body.getD .skip) 0) Du:=Jb (G:=VF) (F:=Du.F) (eid:=Du.eid) (FX:=Du.FX) (FR:=Du.FR) (B:=VB) (n:=Fa) Ga Ld fE mixed (Ha (G:=VF) (n:=0) (by kernel_rfl) (by kernel_rfl) trivial (by kernel_rfl)) (fun s=>by kernel_rfl)
theorem zKd:GC Tryz.prog 118 LZ:=Ra (G:=VF) (c:=Tryz.f118.body.getD .skip) Ga Ld fE mixed Tryz.func118 (by kernel_rfl) Tryz.ntmps118 (Ha (G:=VF) (n:=1) (by kernel_rfl) (by kernel_rfl) ⟨trivial,Kb (id:=3) (L0:=Du) (by kernel_rfl) (by kernel_rfl) zIK⟩ (by kernel_rfl)) (fun s=>by kernel_rfl)
def Eu:Za:=⟨⟨[1,5,6],⟨[.c (.one (.b (.sl false .ls))),.c (.one (.own 0)),zc],[.row 108 .ls]⟩,[.ls .ls,.int,.ls .ls]⟩,0,⟨[5],⟨[.c (.one (.own 0))],[.row 108 .ls]⟩,[.ls .ls]⟩,zx,lp WB Fa⟩
def MZ:Ma:=⟨⟨[.c (.one (.b (.sl false .ls))),.c (.one (.b (.sl false .ls)))],[]⟩,[.ls .ls,.ls .ls],⟨[.c (.one (.own 0))],[.row 108 .ls]⟩,[.ls .ls],CM⟩
def WF:Ka:=Qa tab [(104,[],Cn),(147,[],Bu)] 28 0 [] [(3,Eu)]
theorem fF:Na Tryz.prog WF.Γ:=Pa (l:=[(104,[],Cn),(147,[],Bu)]) ⟨⟨BN,Tryz.call104⟩,⟨⟨KZ,Tryz.call147⟩,trivial⟩⟩
theorem zJq:Cb Tryz.prog 0 28 (Bb (Tryz.f122.body.getD .skip) 0) Eu:=Jb (G:=WF) (F:=Eu.F) (eid:=Eu.eid) (FX:=Eu.FX) (FR:=Eu.FR) (B:=WB) (n:=Fa) Ga Ja fF mixed (Ha (G:=WF) (n:=0) (by kernel_rfl) (by kernel_rfl) trivial (by kernel_rfl)) (fun s=>by kernel_rfl)
theorem zLq:GC Tryz.prog 122 MZ:=Ra (G:=WF) (c:=Tryz.f122.body.getD .skip) Ga Ja fF mixed Tryz.func122 (by kernel_rfl) Tryz.ntmps122 (Ha (G:=WF) (n:=1) (by kernel_rfl) (by kernel_rfl) ⟨trivial,Kb (id:=3) (L0:=Eu) (by kernel_rfl) (by kernel_rfl) zJq⟩ (by kernel_rfl)) (fun s=>by kernel_rfl)
def Fu:Za:=⟨⟨[1,3,4,52,53,54],⟨[.c (.one (.ptr 0 0)),zc,.c (.one (.own 1)),.c (.one (.b (.sl false .db))),zc,zc],[.box 39 [zi,(.b (.sl false .lk)),(.b (.sl false .bool)),(.b (.sl false .int)),(.b (.sl false .db)),(.b (.sl false .pk))],.row 108 .ls]⟩,[.int,.ls .db,.int,.int,.int,.ls .lk,.ls .bool,.ls .int,.ls .db,.ls .pk,.ls .ls]⟩,0,⟨[1,3,4],⟨[.c (.one (.ptr 0 0)),zc,.c (.one (.own 1))],[.box 39 [zi,(.b (.sl false .lk)),(.b (.sl false .bool)),(.b (.sl false .int)),(.b (.sl false .db)),(.b (.sl false .pk))],.row 108 .ls]⟩,[.int,.int,.ls .lk,.ls .bool,.ls .int,.ls .db,.ls .pk,.ls .ls]⟩,⟨[2],⟨[.c (.one (.b .bool))],[]⟩,[.bool]⟩,lp XB Fa⟩
def Gu:Za:=⟨⟨[1,3,4,97,98,99],⟨[.c (.one (.ptr 0 0)),zc,.c (.one (.own 1)),.c (.one (.b (.sl false .pk))),zc,zc],[.box 39 [zi,(.b (.sl false .lk)),(.b (.sl false .bool)),(.b (.sl false .int)),(.b (.sl false .db)),(.b (.sl false .pk))],.row 108 .ls]⟩,[.int,.ls .pk,.int,.int,.int,.ls .lk,.ls .bool,.ls .int,.ls .db,.ls .pk,.ls .ls]⟩,2,⟨[1,4],⟨[.c (.one (.ptr 0 0)),.c (.one (.own 1))],[.box 39 [zi,(.b (.sl false .lk)),(.b (.sl false .bool)),(.b (.sl false .int)),(.b (.sl false .db)),(.b (.sl false .pk))],.row 108 .ls]⟩,[.int,.ls .lk,.ls .bool,.ls .int,.ls .db,.ls .pk,.ls .ls]⟩,⟨[2],⟨[.c (.one (.b .bool))],[]⟩,[.bool]⟩,lp YB Fa⟩
def Hu:Za:=⟨⟨[1,4,115,116,117],⟨[.c (.one (.ptr 0 0)),.c (.one (.b (.sl true .ls))),.c (.one (.b (.sl true .ls))),zc,zc],[.box 39 [zi,(.b (.sl false .lk)),(.b (.sl false .bool)),(.b (.sl false .int)),(.b (.sl false .db)),(.b (.sl false .pk))]]⟩,[.ls .ls,.ls .ls,.int,.int,.int,.ls .lk,.ls .bool,.ls .int,.ls .db,.ls .pk]⟩,4,⟨[],⟨[],[]⟩,[]⟩,⟨[2],⟨[.c (.one (.b .bool))],[]⟩,[.bool]⟩,lp ZB Fa⟩
def NZ:Ma:=⟨⟨[.c (.agg [zi,(.b (.sl false .lk)),(.b (.sl false .bool)),(.b (.sl false .int)),(.b (.sl false .db)),(.b (.sl false .pk))])],[]⟩,[.int,.ls .lk,.ls .bool,.ls .int,.ls .db,.ls .pk],⟨[.c (.one (.b .bool))],[]⟩,[.bool],DM⟩
def Hn:Ka:=Qa tab [(58,[],An),(85,[],QX),(86,[],ZX),(87,[],YE),(90,[],Kt),(89,[90],ZY),(88,[],GZ)] 134 0 [(11,13,tk 13,[])] [(6,Fu),(16,Gu),(23,Hu)]
theorem HN:Na Tryz.prog Hn.Γ:=Pa (l:=[(58,[],An),(85,[],QX),(86,[],ZX),(87,[],YE),(90,[],Kt),(89,[90],ZY),(88,[],GZ)]) ⟨⟨ZM,Tryz.call58⟩,⟨⟨zJN,Tryz.call85⟩,⟨⟨zJM,Tryz.call86⟩,⟨⟨eJ,Tryz.call87⟩,⟨⟨WY,Tryz.call90⟩,⟨⟨zLb,Tryz.call89⟩,⟨⟨zJ4,Tryz.call88⟩,trivial⟩⟩⟩⟩⟩⟩⟩
theorem zIw:Cb Tryz.prog 0 134 (Bb (Tryz.f43.body.getD .skip) 0) Fu:=Jb (G:=Hn) (F:=Fu.F) (eid:=Fu.eid) (FX:=Fu.FX) (FR:=Fu.FR) (B:=XB) (n:=Fa) Ga Ja HN mixed (Ha (G:=Hn) (n:=0) (by kernel_rfl) (by kernel_rfl) trivial (by kernel_rfl)) (fun s=>by kernel_rfl)
theorem zIu:Cb Tryz.prog 0 134 (Bb (Tryz.f43.body.getD .skip) 1) Gu:=Jb (G:=Hn) (F:=Gu.F) (eid:=Gu.eid) (FX:=Gu.FX) (FR:=Gu.FR) (B:=YB) (n:=Fa) Ga Ja HN mixed (Ha (G:=Hn) (n:=0) (by kernel_rfl) (by kernel_rfl) trivial (by kernel_rfl)) (fun s=>by kernel_rfl)
theorem zIv:Cb Tryz.prog 0 134 (Bb (Tryz.f43.body.getD .skip) 2) Hu:=Jb (G:=Hn) (F:=Hu.F) (eid:=Hu.eid) (FX:=Hu.FX) (FR:=Hu.FR) (B:=ZB) (n:=Fa) Ga Ja HN mixed (Ha (G:=Hn) (n:=0) (by kernel_rfl) (by kernel_rfl) trivial (by kernel_rfl)) (fun s=>by kernel_rfl)
theorem zJZ:GC Tryz.prog 43 NZ:=Ra (G:=Hn) (c:=Tryz.f43.body.getD .skip) Ga Ja HN mixed Tryz.func43 (by kernel_rfl) Tryz.ntmps43 (Ha (G:=Hn) (n:=3) (by kernel_rfl) (by kernel_rfl) ⟨⟨⟨trivial,Kb (id:=6) (L0:=Fu) (by kernel_rfl) (by kernel_rfl) zIw⟩,Kb (id:=16) (L0:=Gu) (by kernel_rfl) (by kernel_rfl) zIu⟩,Kb (id:=23) (L0:=Hu) (by kernel_rfl) (by kernel_rfl) zIv⟩ (by kernel_rfl)) (fun s=>by kernel_rfl)
end
section
open Go.RowKit
def Iu:Za:=⟨⟨[3,4,6,8,9,10],⟨[zc,.c (.one (.ptr 5 0)),.c (.one (.ptr 6 0)),.c (.one (.ptr 7 0)),.c (.one (.own 8)),zc],[.row 114 .lk,.row 4 .bool,.row 3 .int,.row 86 .db,.dead,.box 39 [zi,(.own 0),(.own 1),(.own 2),(.own 3),(.own 9)],.box 108 [zi,zi,(.b (.sl true .en))],.box 39 [zi,(.b (.sl true .lk)),(.b (.sl true .bool)),(.b (.sl true .int)),(.b (.sl true .db)),(.b (.sl true .pk))],.row 3 .int,.row 112 .pk]⟩,[.int,.int,.ls .lk,.ls .bool,.ls .int,.ls .db,.int,.int,.int,.ls .en,.int,.ls .lk,.ls .bool,.ls .int,.ls .db,.ls .pk,.ls .int,.ls .pk]⟩,0,⟨[4,8],⟨[.c (.one (.ptr 5 0)),.c (.one (.ptr 6 0))],[.row 114 .lk,.row 4 .bool,.row 3 .int,.row 86 .db,.dead,.box 39 [zi,(.own 0),(.own 1),(.own 2),(.own 3),(.own 7)],.box 39 [zi,(.b (.sl true .lk)),(.b (.sl true .bool)),(.b (.sl true .int)),(.b (.sl true .db)),(.b (.sl true .pk))],.row 112 .pk]⟩,[.ls .lk,.ls .bool,.ls .int,.ls .db,.int,.int,.ls .lk,.ls .bool,.ls .int,.ls .db,.ls .pk,.ls .pk]⟩,zx,lp MM Fa⟩
def XF:Ma:=⟨⟨[.c (.agg [zi,(.own 0),(.own 1),(.own 2),(.own 3),(.own 4)]),zc,.c (.agg [zi,zi,(.b (.sl true .en))]),zc],[.row 114 .lk,.row 4 .bool,.row 3 .int,.row 86 .db,.row 112 .pk]⟩,[.int,.int,.int,.int,.ls .en,.int,.ls .lk,.ls .bool,.ls .int,.ls .db,.ls .pk],⟨[.c (.agg [zi,(.own 0),(.own 1),(.own 2),(.own 3),(.own 5)])],[.row 114 .lk,.row 4 .bool,.row 3 .int,.row 86 .db,.dead,.row 112 .pk]⟩,[.int,.ls .lk,.ls .bool,.ls .int,.ls .db,.ls .pk],EC⟩
def YF:Ka:=Qa tab [(107,[],Bn),(163,[],RX),(38,[],Us)] 48 5 [(6,10,[(1,true),(2,true),(4,true),(5,true),(6,true),(7,true),(8,true),(0,false),(3,false),(9,false)],[])] [(3,Iu)]
theorem fG:Na Tryz.prog YF.Γ:=Pa (l:=[(107,[],Bn),(163,[],RX),(38,[],Us)]) ⟨⟨AN,Tryz.call107⟩,⟨⟨zLj,Tryz.call163⟩,⟨⟨IY,Tryz.call38⟩,trivial⟩⟩⟩
theorem zJB:Cb Tryz.prog 5 48 (Bb (Tryz.f154.body.getD .skip) 0) Iu:=Jb (G:=YF) (F:=Iu.F) (eid:=Iu.eid) (FX:=Iu.FX) (FR:=Iu.FR) (B:=MM) (n:=Fa) Ga Ja fG mixed (Ha (G:=YF) (n:=0) (by kernel_rfl) (by kernel_rfl) trivial (by kernel_rfl)) (fun s=>by kernel_rfl)
theorem fH:GC Tryz.prog 154 XF:=Oy (G:=YF) (c:=Tryz.f154.body.getD .skip) Ga Ja fG mixed Tryz.func154 (by kernel_rfl) Tryz.ntmps154 (Ha (G:=YF) (n:=1) (by kernel_rfl) (by kernel_rfl) ⟨trivial,Kb (id:=3) (L0:=Iu) (by kernel_rfl) (by kernel_rfl) zJB⟩ (by kernel_rfl)) [4] (fun s=>by kernel_rfl)
def OZ:Ma:=⟨⟨[.c (.agg [zi,(.b (.sl true .lk)),(.b (.sl true .bool)),(.b (.sl true .int)),(.b (.sl true .db)),(.b (.sl true .pk))]),.c (.agg [zi,zi,zi,(.b (.sl true .en))])],[]⟩,[.int,.ls .lk,.ls .bool,.ls .int,.ls .db,.ls .pk,.int,.int,.int,.ls .en],⟨[.c (.agg [zi,(.b (.sl true .lk)),(.b (.sl true .bool)),(.b (.sl true .int)),(.b (.sl true .db)),(.b (.sl true .pk))])],[]⟩,[.int,.ls .lk,.ls .bool,.ls .int,.ls .db,.ls .pk],NM⟩
def PZ:Ka:=Qa tab [(63,[],Fn),(147,[],Bu),(154,[],XF)] 39 0 [(1,13,[(0,true),(1,true),(2,true),(3,true),(4,true),(5,true),(6,true),(7,true),(8,false),(9,true),(10,true),(11,true),(12,true)],[])] []
theorem zPx:Na Tryz.prog PZ.Γ:=Pa (l:=[(63,[],Fn),(147,[],Bu),(154,[],XF)]) ⟨⟨EN,Tryz.call63⟩,⟨⟨KZ,Tryz.call147⟩,⟨⟨fH,Tryz.call154⟩,trivial⟩⟩⟩
theorem zLB:GC Tryz.prog 141 OZ:=Ra (G:=PZ) (c:=Tryz.f141.body.getD .skip) Ga Ja zPx mixed Tryz.func141 (by kernel_rfl) Tryz.ntmps141 (Ha (G:=PZ) (n:=0) (by kernel_rfl) (by kernel_rfl) trivial (by kernel_rfl)) (fun s=>by kernel_rfl)
def QZ:Ma:=⟨⟨[.c (.agg [zi,(.b (.sl true .lk)),(.b (.sl true .bool)),(.b (.sl true .int)),(.b (.sl true .db)),(.b (.sl true .pk))]),zc],[]⟩,[.int,.ls .lk,.ls .bool,.ls .int,.ls .db,.ls .pk,.int],⟨[.c (.agg [zi,(.b (.sl true .lk)),(.b (.sl true .bool)),(.b (.sl true .int)),(.b (.sl true .db)),(.b (.sl true .pk))])],[]⟩,[.int,.ls .lk,.ls .bool,.ls .int,.ls .db,.ls .pk],Vm⟩
def RZ:Ka:=Qa tab [(104,[],Cn),(63,[],Fn),(122,[],MZ)] 49 0 [(5,12,tk 12,[]),(7,6,[(0,true),(1,true),(2,true),(3,true),(4,true),(5,false)],[])] []
theorem zPD:Na Tryz.prog RZ.Γ:=Pa (l:=[(104,[],Cn),(63,[],Fn),(122,[],MZ)]) ⟨⟨BN,Tryz.call104⟩,⟨⟨EN,Tryz.call63⟩,⟨⟨zLq,Tryz.call122⟩,trivial⟩⟩⟩
theorem zLH:GC Tryz.prog 72 QZ:=Ra (G:=RZ) (c:=Tryz.f72.body.getD .skip) Ga Ja zPD mixed Tryz.func72 (by kernel_rfl) Tryz.ntmps72 (Ha (G:=RZ) (n:=0) (by kernel_rfl) (by kernel_rfl) trivial (by kernel_rfl)) (fun s=>by kernel_rfl)
def Sw:Za:=⟨⟨[0,3,6,9,15,16,17],⟨[.c (.one (.ptr 0 0)),zc,.c (.one (.ptr 6 0)),zc,.c (.one (.own 7)),zc,zc],[.box 39 [zi,(.own 1),(.own 2),(.own 3),(.own 4),(.own 8)],.row 114 .lk,.row 4 .bool,.row 3 .int,.row 86 .udb,.dead,.box 108 [zi,zi,(.b (.sl true .en))],.row 3 .int,.row 112 .upk]⟩,[.int,.int,.int,.int,.int,.ls .lk,.ls .bool,.ls .int,.ls .udb,.int,.int,.ls .en,.ls .int,.ls .upk]⟩,0,⟨[0,3,6,15,16,17],⟨[.c (.one (.ptr 0 0)),zc,.c (.one (.ptr 6 0)),.c (.one (.own 7)),zc,zc],[.box 39 [zi,(.own 1),(.own 2),(.own 3),(.own 4),(.own 8)],.row 114 .lk,.row 4 .bool,.row 3 .int,.row 86 .udb,.dead,.box 108 [zi,zi,(.b (.sl true .en))],.row 3 .int,.row 112 .upk]⟩,[.int,.int,.int,.int,.ls .lk,.ls .bool,.ls .int,.ls .udb,.int,.int,.ls .en,.ls .int,.ls .upk]⟩,zx,OM⟩
def Ju:Za:=⟨⟨[0,3,6,15,16,17],⟨[.c (.one (.ptr 0 0)),zc,.c (.one (.ptr 6 0)),.c (.one (.own 7)),zc,zc],[.box 39 [zi,(.own 1),(.own 2),(.own 3),(.own 4),(.own 8)],.row 114 .lk,.row 4 .bool,.row 3 .int,.row 86 .udb,.dead,.box 108 [zi,zi,(.b (.sl true .en))],.row 3 .int,.row 112 .upk]⟩,[.int,.int,.int,.int,.ls .lk,.ls .bool,.ls .int,.ls .udb,.int,.int,.ls .en,.ls .int,.ls .upk]⟩,0,⟨[],⟨[],[.box 39 [zi,(.own 1),(.own 2),(.own 3),(.own 4),(.own 6)],.row 114 .lk,.row 4 .bool,.row 3 .int,.row 86 .udb,.dead,.row 112 .upk]⟩,[.int,.ls .lk,.ls .bool,.ls .int,.ls .udb,.ls .upk]⟩,zx,lp PM Fa⟩
def ZF:Ma:=⟨⟨[.c (.one (.ptr 0 0)),zc,.c (.agg [zi,zi,(.b (.sl true .en))]),zc],[.box 39 [zi,(.own 1),(.own 2),(.own 3),(.own 4),(.own 5)],.row 114 .lk,.row 4 .bool,.row 3 .int,.row 86 .udb,.row 112 .upk]⟩,[.int,.int,.int,.ls .en,.int,.int,.ls .lk,.ls .bool,.ls .int,.ls .udb,.ls .upk],⟨[.tup []],[.box 39 [zi,(.own 1),(.own 2),(.own 3),(.own 4),(.own 6)],.row 114 .lk,.row 4 .bool,.row 3 .int,.row 86 .udb,.dead,.row 112 .upk]⟩,[.int,.ls .lk,.ls .bool,.ls .int,.ls .udb,.ls .upk],Oq⟩
def Bp:Ka:=Qa Sg [(144,[],GE),(117,[],Ik),(44,[],Tt)] 46 6 [] [(5,Sw),(2,Ju)]
theorem SZ:Na Tryz.prog Bp.Γ:=Pa (l:=[(144,[],GE),(117,[],Ik),(44,[],Tt)]) ⟨⟨dQ,Tryz.call144⟩,⟨⟨GF,Tryz.call117⟩,⟨⟨EZ,Tryz.call44⟩,trivial⟩⟩⟩
theorem zIE:If Tryz.prog 6 46 (Ud Bp.plan (Bb (Tryz.f116.body.getD .skip) 0) 0).1 (Ud Bp.plan (Bb (Tryz.f116.body.getD .skip) 0) 0).2 Sw:=II (G:=Bp) (U:=[0,1,2,3,5]) (n:=10) (tl:=[10,11,12,13]) (ks:=[]) (t:=(.val 4 (.val 6 (.one 7 (.val 8 (.one 9 .done)))))) (F:=Sw.F) (eid:=0) (FX:=Sw.FX) (FR:=Sw.FR) (sh:=OM) Ga Ld SZ mixed (by kernel_rfl) (by kernel_rfl) ⟨fun s=>by kernel_rfl,trivial⟩
theorem zID:Cb Tryz.prog 6 46 (Bb (Tryz.f116.body.getD .skip) 0) Ju:=Jb (G:=Bp) (F:=Ju.F) (eid:=Ju.eid) (FX:=Ju.FX) (FR:=Ju.FR) (B:=PM) (n:=Fa) Ga Ld SZ mixed (Em (G:=Bp) (n:=0) (m:=1) (by kernel_rfl) (by kernel_rfl) trivial (by kernel_rfl) ⟨trivial,Ej (L0:=Sw) (by kernel_rfl) zIE⟩) (fun s=>by kernel_rfl)
theorem fI:GC Tryz.prog 116 ZF:=Oy (G:=Bp) (c:=Tryz.f116.body.getD .skip) Ga Ld SZ mixed Tryz.func116 (by kernel_rfl) Tryz.ntmps116 (Ha (G:=Bp) (n:=1) (by kernel_rfl) (by kernel_rfl) ⟨trivial,Kb (id:=2) (L0:=Ju) (by kernel_rfl) (by kernel_rfl) zID⟩ (by kernel_rfl)) [5] (fun s=>by kernel_rfl)
def Tw:Za:=⟨⟨[1,2,4],⟨[zc,.c (.one (.ptr 5 0)),.c (.one (.ptr 6 0))],[.row 114 .lk,.row 4 .bool,.row 3 .int,.row 86 .db,.dead,.box 39 [zi,(.own 0),(.own 1),(.own 2),(.own 3),(.own 7)],.box 39 [zi,(.b (.sl true .lk)),(.b (.sl true .bool)),(.b (.sl true .int)),(.b (.sl true .db)),(.b (.sl true .pk))],.row 112 .pk]⟩,[.int,.ls .lk,.ls .bool,.ls .int,.ls .db,.int,.int,.ls .lk,.ls .bool,.ls .int,.ls .db,.ls .pk,.ls .pk]⟩,0,⟨[1,2,4,5],⟨[zc,.c (.one (.ptr 5 0)),.c (.one (.ptr 6 0)),.c (.one (.ptr 7 0))],[.row 114 .lk,.row 4 .bool,.row 3 .int,.row 86 .db,.dead,.box 39 [zi,(.own 0),(.own 1),(.own 2),(.own 3),(.own 8)],.box 39 [zi,(.b (.sl true .lk)),(.b (.sl true .bool)),(.b (.sl true .int)),(.b (.sl true .db)),(.b (.sl true .pk))],.box 108 [zi,zi,(.own 9)],.row 112 .pk,.row 153 .en]⟩,[.int,.ls .lk,.ls .bool,.ls .int,.ls .db,.int,.int,.ls .lk,.ls .bool,.ls .int,.ls .db,.ls .pk,.int,.int,.ls .pk,.ls .en]⟩,zx,FC⟩
def TZ:Ma:=⟨⟨[.c (.agg [zi,(.own 0),(.own 1),(.own 2),(.own 3),(.own 4)]),zc],[.row 114 .lk,.row 4 .bool,.row 3 .int,.row 86 .db,.row 112 .pk]⟩,[.int,.int,.ls .lk,.ls .bool,.ls .int,.ls .db,.ls .pk],⟨[.c (.agg [zi,(.own 0),(.own 1),(.own 2),(.own 3),(.own 5)])],[.row 114 .lk,.row 4 .bool,.row 3 .int,.row 86 .db,.dead,.row 112 .pk]⟩,[.int,.ls .lk,.ls .bool,.ls .int,.ls .db,.ls .pk],Mw⟩
def Uw:Ka:=Qa tab [(103,[],SE),(38,[],Us),(147,[],Bu),(154,[],XF)] 46 5 [(1,9,tk 9,[]),(3,11,[(0,true),(1,true),(2,true),(3,true),(4,true),(5,true),(6,false),(7,true),(8,true),(9,true),(10,true)],[])] [(2,Tw)]
theorem fJ:Na Tryz.prog Uw.Γ:=Pa (l:=[(103,[],SE),(38,[],Us),(147,[],Bu),(154,[],XF)]) ⟨⟨eE,Tryz.call103⟩,⟨⟨IY,Tryz.call38⟩,⟨⟨KZ,Tryz.call147⟩,⟨⟨fH,Tryz.call154⟩,trivial⟩⟩⟩⟩
theorem zJx:If Tryz.prog 5 46 (Ud Uw.plan (Tryz.f142.body.getD .skip) 0).1 (Ud Uw.plan (Tryz.f142.body.getD .skip) 0).2 Tw:=WH (G:=Uw) (n:=10) (ks:=[]) (t:=(.val 0 (.val 2 (.val 3 (.val 4 (.val 5 (.val 6 (.val 7 (.two 1 (.two 8 (.one 9 .done) 9 (.one 8 .done)) 9 (.one 1 (.one 8 .done))))))))))) (F:=Tw.F) (eid:=0) (FX:=Tw.FX) (FR:=Tw.FR) (sh:=FC) Ga Ja fJ mixed (by kernel_rfl) (by kernel_rfl) ⟨fun s=>by kernel_rfl,fun s=>by kernel_rfl,fun s=>by kernel_rfl,trivial⟩
theorem zLx:GC Tryz.prog 142 TZ:=Oy (G:=Uw) (c:=Tryz.f142.body.getD .skip) Ga Ja fJ mixed Tryz.func142 (by kernel_rfl) Tryz.ntmps142 (Em (G:=Uw) (n:=0) (m:=1) (by kernel_rfl) (by kernel_rfl) trivial (by kernel_rfl) ⟨trivial,Ej (L0:=Tw) (by kernel_rfl) zJx⟩) [4] (fun s=>by kernel_rfl)
def Vw:Za:=⟨⟨[2,4,5],⟨[.c (.one (.ptr 0 0)),.c (.one (.ptr 1 0)),.c (.one (.ptr 2 0))],[.box 39 [zi,(.b (.sl true .lk)),(.b (.sl true .bool)),(.b (.sl true .int)),(.b (.sl true .db)),(.b (.sl true .pk))],.box 39 [zi,(.b (.sl true .lk)),(.b (.sl true .bool)),(.b (.sl true .int)),(.b (.sl true .db)),(.b (.sl true .pk))],.box 112 [zi,zi,zi,(.b (.sl true .en))]]⟩,[.int,.ls .lk,.ls .bool,.ls .int,.ls .db,.ls .pk,.int,.ls .lk,.ls .bool,.ls .int,.ls .db,.ls .pk,.int,.int,.int,.ls .en]⟩,0,⟨[2,4],⟨[.c (.one (.ptr 0 0)),.c (.one (.ptr 1 0))],[.box 39 [zi,(.b (.sl true .lk)),(.b (.sl true .bool)),(.b (.sl true .int)),(.b (.sl true .db)),(.own 2)],.box 39 [zi,(.b (.sl true .lk)),(.b (.sl true .bool)),(.b (.sl true .int)),(.b (.sl true .db)),(.b (.sl true .pk))],.row 112 .pk]⟩,[.int,.ls .lk,.ls .bool,.ls .int,.ls .db,.int,.ls .lk,.ls .bool,.ls .int,.ls .db,.ls .pk,.ls .pk]⟩,zx,IC⟩
def UZ:Ma:=⟨⟨[.c (.agg [zi,(.b (.sl true .lk)),(.b (.sl true .bool)),(.b (.sl true .int)),(.b (.sl true .db)),(.b (.sl true .pk))]),.c (.agg [zi,zi])],[]⟩,[.int,.ls .lk,.ls .bool,.ls .int,.ls .db,.ls .pk,.int,.int],⟨[.c (.agg [zi,(.b (.sl true .lk)),(.b (.sl true .bool)),(.b (.sl true .int)),(.b (.sl true .db)),(.b (.sl true .pk))])],[]⟩,[.int,.ls .lk,.ls .bool,.ls .int,.ls .db,.ls .pk],Pq⟩
def Ww:Ka:=Qa tab [(82,[],Ti),(141,[],OZ)] 59 0 [(8,13,[(1,true),(2,true),(3,true),(4,true),(5,true),(7,true),(8,true),(9,true),(10,true),(11,true),(12,true),(0,false),(6,false)],[])] [(6,Vw)]
theorem fK:Na Tryz.prog Ww.Γ:=Pa (l:=[(82,[],Ti),(141,[],OZ)]) ⟨⟨Ow,Tryz.call82⟩,⟨⟨zLB,Tryz.call141⟩,trivial⟩⟩
theorem zJD:If Tryz.prog 0 59 (Ud Ww.plan (Tryz.f105.body.getD .skip) 0).1 (Ud Ww.plan (Tryz.f105.body.getD .skip) 0).2 Vw:=WH (G:=Ww) (n:=6) (ks:=[]) (t:=(.val 1 (.val 2 (.val 4 (.two 0 (.two 3 (.one 5 .done) 5 (.one 3 .done)) 5 (.one 0 (.one 3 .done))))))) (F:=Vw.F) (eid:=0) (FX:=Vw.FX) (FR:=Vw.FR) (sh:=IC) Ga Ja fK mixed (by kernel_rfl) (by kernel_rfl) ⟨fun s=>by kernel_rfl,fun s=>by kernel_rfl,fun s=>by kernel_rfl,trivial⟩
theorem zLD:GC Tryz.prog 105 UZ:=Ra (G:=Ww) (c:=Tryz.f105.body.getD .skip) Ga Ja fK mixed Tryz.func105 (by kernel_rfl) Tryz.ntmps105 (Em (G:=Ww) (n:=0) (m:=1) (by kernel_rfl) (by kernel_rfl) trivial (by kernel_rfl) ⟨trivial,Ej (L0:=Vw) (by kernel_rfl) zJD⟩) (fun s=>by kernel_rfl)
def Xw:Za:=⟨⟨[3,6,7],⟨[.c (.one (.ptr 0 0)),.c (.one (.ptr 1 0)),.c (.one (.ptr 2 0))],[.box 39 [zi,(.own 3),(.own 4),(.own 5),(.own 6),(.own 7)],.box 39 [zi,(.b (.sl true .lk)),(.b (.sl true .bool)),(.b (.sl true .int)),(.b (.sl true .db)),(.b (.sl true .pk))],.box 114 [zi,zi,zi],.row 114 .lk,.row 4 .bool,.row 3 .int,.row 86 .db,.row 112 .pk]⟩,[.int,.int,.ls .lk,.ls .bool,.ls .int,.ls .db,.ls .pk,.int,.int,.int,.ls .lk,.ls .bool,.ls .int,.ls .db,.ls .pk]⟩,0,⟨[6],⟨[.c (.one (.ptr 0 0))],[.box 39 [zi,(.own 1),(.own 2),(.own 3),(.own 4),(.own 5)],.row 114 .lk,.row 4 .bool,.row 3 .int,.row 86 .db,.row 112 .pk]⟩,[.int,.ls .lk,.ls .bool,.ls .int,.ls .db,.ls .pk]⟩,zx,JC⟩
def VZ:Ma:=⟨⟨[.c (.agg [zi,(.b (.sl true .lk)),(.b (.sl true .bool)),(.b (.sl true .int)),(.b (.sl true .db)),(.b (.sl true .pk))]),zc,.c (.one (.b .bool))],[]⟩,[.int,.ls .lk,.ls .bool,.ls .int,.ls .db,.ls .pk,.int,.bool],⟨[.c (.agg [zi,(.b (.sl true .lk)),(.b (.sl true .bool)),(.b (.sl true .int)),(.b (.sl true .db)),(.b (.sl true .pk))])],[]⟩,[.int,.ls .lk,.ls .bool,.ls .int,.ls .db,.ls .pk],Wm⟩
def Yw:Ka:=Qa tab [(63,[],Fn),(142,[],TZ)] 54 0 [] [(6,Xw)]
theorem fL:Na Tryz.prog Yw.Γ:=Pa (l:=[(63,[],Fn),(142,[],TZ)]) ⟨⟨EN,Tryz.call63⟩,⟨⟨zLx,Tryz.call142⟩,trivial⟩⟩
theorem zJJ:If Tryz.prog 0 54 (Ud Yw.plan (Tryz.f106.body.getD .skip) 0).1 (Ud Yw.plan (Tryz.f106.body.getD .skip) 0).2 Xw:=RQ (G:=Yw) (t:=(.val 1 (.val 4 (.alt 0 (.alt 2 (.alt 3 (.one 5 (.one 6 (.one 7 .done))) (.one 5 (.one 3 (.one 6 (.one 7 .done))))) (.one 5 (.one 2 (.one 3 (.one 6 (.one 7 .done)))))) (.alt 2 (.alt 0 (.alt 3 (.one 5 (.one 6 (.one 7 .done))) (.one 5 (.one 3 (.one 6 (.one 7 .done))))) (.one 5 (.one 0 (.one 3 (.one 6 (.one 7 .done)))))) (.one 5 (.alt 0 (.one 2 (.one 3 (.one 6 (.one 7 .done)))) (.one 2 (.one 0 (.one 3 (.one 6 (.one 7 .done)))))))))))) (F:=Xw.F) (eid:=0) (FX:=Xw.FX) (FR:=Xw.FR) (sh:=JC) Ga Ja fL mixed (by kernel_rfl) (by kernel_rfl) ⟨fun s=>by kernel_rfl,fun s=>by kernel_rfl,fun s=>by kernel_rfl,fun s=>by kernel_rfl,fun s=>by kernel_rfl,fun s=>by kernel_rfl,fun s=>by kernel_rfl,fun s=>by kernel_rfl,trivial⟩
theorem zLJ:GC Tryz.prog 106 VZ:=Ra (G:=Yw) (c:=Tryz.f106.body.getD .skip) Ga Ja fL mixed Tryz.func106 (by kernel_rfl) Tryz.ntmps106 (Em (G:=Yw) (n:=0) (m:=1) (by kernel_rfl) (by kernel_rfl) trivial (by kernel_rfl) ⟨trivial,Ej (L0:=Xw) (by kernel_rfl) zJJ⟩) (fun s=>by kernel_rfl)
def Zw:Za:=⟨⟨[0,1],⟨[.c (.one (.ptr 0 0)),zc],[.box 39 [zi,(.own 1),(.own 2),(.own 3),(.own 4),(.own 6)],.row 114 .lk,.row 4 .bool,.row 3 .int,.row 86 .udb,.dead,.row 112 .upk]⟩,[.int,.int,.ls .lk,.ls .bool,.ls .int,.ls .udb,.ls .upk]⟩,0,⟨[0,1,4],⟨[.c (.one (.ptr 0 0)),zc,.c (.one (.ptr 6 0))],[.box 39 [zi,(.own 1),(.own 2),(.own 3),(.own 4),(.own 7)],.row 114 .lk,.row 4 .bool,.row 3 .int,.row 86 .udb,.dead,.box 108 [zi,zi,(.own 8)],.row 112 .upk,.row 153 .en]⟩,[.int,.int,.ls .lk,.ls .bool,.ls .int,.ls .udb,.int,.int,.ls .upk,.ls .en]⟩,zx,KC⟩
def Bx:Za:=⟨⟨[0,1,4],⟨[.c (.one (.ptr 0 0)),zc,.c (.one (.ptr 6 0))],[.box 39 [zi,(.own 1),(.own 2),(.own 3),(.own 4),(.own 7)],.row 114 .lk,.row 4 .bool,.row 3 .int,.row 86 .udb,.dead,.box 108 [zi,zi,(.own 8)],.row 112 .upk,.row 153 .en]⟩,[.int,.int,.ls .lk,.ls .bool,.ls .int,.ls .udb,.int,.int,.ls .upk,.ls .en]⟩,0,⟨[0,1,4],⟨[.c (.one (.ptr 0 0)),zc,.c (.one (.ptr 6 0))],[.box 39 [zi,(.own 1),(.own 2),(.own 3),(.own 4),(.own 7)],.row 114 .lk,.row 4 .bool,.row 3 .int,.row 86 .udb,.dead,.box 108 [zi,zi,(.own 8)],.row 112 .upk,.row 153 .en]⟩,[.int,.int,.ls .lk,.ls .bool,.ls .int,.ls .udb,.int,.int,.ls .upk,.ls .en]⟩,zx,LC⟩
def WZ:Ma:=⟨⟨[.c (.one (.ptr 0 0)),zc],[.box 39 [zi,(.own 1),(.own 2),(.own 3),(.own 4),(.own 5)],.row 114 .lk,.row 4 .bool,.row 3 .int,.row 86 .udb,.row 112 .upk]⟩,[.int,.int,.ls .lk,.ls .bool,.ls .int,.ls .udb,.ls .upk],⟨[.tup []],[.box 39 [zi,(.own 1),(.own 2),(.own 3),(.own 4),(.own 6)],.row 114 .lk,.row 4 .bool,.row 3 .int,.row 86 .udb,.dead,.row 112 .upk]⟩,[.int,.ls .lk,.ls .bool,.ls .int,.ls .udb,.ls .upk],Il⟩
def In:Ka:=Qa Sg [(112,[],ZE),(44,[],Tt),(115,[],Yt),(116,[],ZF)] 49 6 [] [(1,Zw),(2,Bx)]
theorem XZ:Na Tryz.prog In.Γ:=Pa (l:=[(112,[],ZE),(44,[],Tt),(115,[],Yt),(116,[],ZF)]) ⟨⟨eL,Tryz.call112⟩,⟨⟨EZ,Tryz.call44⟩,⟨⟨IZ,Tryz.call115⟩,⟨⟨fI,Tryz.call116⟩,trivial⟩⟩⟩⟩
theorem zIx:If Tryz.prog 6 49 (Ud In.plan (Tryz.f113.body.getD .skip) 0).1 (Ud In.plan (Tryz.f113.body.getD .skip) 0).2 Zw:=WH (G:=In) (n:=14) (ks:=[]) (t:=(.val 0 (.val 1 (.val 2 (.val 4 (.val 5 (.val 6 (.val 7 (.val 8 (.val 9 (.val 10 (.val 11 (.two 3 (.two 12 (.one 13 .done) 13 (.one 12 .done)) 13 (.one 3 (.one 12 .done))))))))))))))) (F:=Zw.F) (eid:=0) (FX:=Zw.FX) (FR:=Zw.FR) (sh:=KC) Ga Ld XZ mixed (by kernel_rfl) (by kernel_rfl) ⟨fun s=>by kernel_rfl,fun s=>by kernel_rfl,fun s=>by kernel_rfl,trivial⟩
theorem zIy:If Tryz.prog 6 49 (Ud In.plan (Tryz.f113.body.getD .skip) 1).1 (Ud In.plan (Tryz.f113.body.getD .skip) 1).2 Bx:=RQ (G:=In) (t:=(.val 0 (.val 1 (.val 2 (.val 4 (.val 5 (.val 6 (.val 7 (.val 9 (.alt 3 (.alt 8 (.val 10 (.alt 11 (.one 12 (.one 13 (.val 14 (.val 15 (.val 16 (.val 17 (.one 18 .done))))))) (.one 12 (.one 11 (.one 13 (.val 14 (.val 15 (.val 16 (.val 17 (.one 18 .done)))))))))) (.one 12 (.one 8 (.val 10 (.one 11 (.one 13 (.val 14 (.val 15 (.val 16 (.val 17 (.one 18 .done))))))))))) (.alt 8 (.val 10 (.alt 3 (.alt 11 (.one 12 (.one 13 (.val 14 (.val 15 (.val 16 (.val 17 (.one 18 .done))))))) (.one 12 (.one 11 (.one 13 (.val 14 (.val 15 (.val 16 (.val 17 (.one 18 .done))))))))) (.alt 11 (.alt 3 (.one 12 (.one 13 (.val 14 (.val 15 (.val 16 (.val 17 (.one 18 .done))))))) (.one 12 (.alt 3 (.one 13 (.val 14 (.val 15 (.val 16 (.val 17 (.one 18 .done)))))) (.one 13 (.val 14 (.val 15 (.val 16 (.one 3 (.val 17 (.one 18 .done)))))))))) (.one 12 (.alt 3 (.one 11 (.one 13 (.val 14 (.val 15 (.val 16 (.val 17 (.one 18 .done))))))) (.one 11 (.alt 3 (.one 13 (.val 14 (.val 15 (.val 16 (.val 17 (.one 18 .done)))))) (.one 13 (.val 14 (.val 15 (.val 16 (.one 3 (.val 17 (.one 18 .done)))))))))))))) (.one 12 (.alt 3 (.one 8 (.val 10 (.one 11 (.one 13 (.val 14 (.val 15 (.val 16 (.val 17 (.one 18 .done))))))))) (.one 8 (.val 10 (.alt 3 (.one 11 (.one 13 (.val 14 (.val 15 (.val 16 (.val 17 (.one 18 .done))))))) (.one 11 (.alt 3 (.one 13 (.val 14 (.val 15 (.val 16 (.val 17 (.one 18 .done)))))) (.one 13 (.val 14 (.val 15 (.val 16 (.one 3 (.val 17 (.one 18 .done))))))))))))))))))))))))) (F:=Bx.F) (eid:=0) (FX:=Bx.FX) (FR:=Bx.FR) (sh:=LC) Ga Ld XZ mixed (by kernel_rfl) (by kernel_rfl) ⟨fun s=>by kernel_rfl,fun s=>by kernel_rfl,fun s=>by kernel_rfl,fun s=>by kernel_rfl,fun s=>by kernel_rfl,fun s=>by kernel_rfl,fun s=>by kernel_rfl,fun s=>by kernel_rfl,fun s=>by kernel_rfl,fun s=>by kernel_rfl,fun s=>by kernel_rfl,fun s=>by kernel_rfl,fun s=>by kernel_rfl,fun s=>by kernel_rfl,fun s=>by kernel_rfl,trivial⟩
theorem zJ1:GC Tryz.prog 113 WZ:=Oy (G:=In) (c:=Tryz.f113.body.getD .skip) Ga Ld XZ mixed Tryz.func113 (by kernel_rfl) Tryz.ntmps113 (Em (G:=In) (n:=0) (m:=2) (by kernel_rfl) (by kernel_rfl) trivial (by kernel_rfl) ⟨⟨trivial,Ej (L0:=Zw) (by kernel_rfl) zIx⟩,Ej (L0:=Bx) (by kernel_rfl) zIy⟩) [5] (fun s=>by kernel_rfl)
def YZ:Ma:=⟨⟨[.c (.agg [zi,(.b (.sl true .lk)),(.b (.sl true .bool)),(.b (.sl true .int)),(.b (.sl true .db)),(.b (.sl true .pk))]),.c (.agg [zi,zi])],[]⟩,[.int,.ls .lk,.ls .bool,.ls .int,.ls .db,.ls .pk,.int,.int],⟨[.c (.agg [zi,(.b (.sl true .lk)),(.b (.sl true .bool)),(.b (.sl true .int)),(.b (.sl true .db)),(.b (.sl true .pk))])],[]⟩,[.int,.ls .lk,.ls .bool,.ls .int,.ls .db,.ls .pk],QM⟩
def ZZ:Ka:=Qa tab [(82,[],Ti),(72,[],QZ),(105,[],UZ),(106,[],VZ)] 42 0 [] []
theorem zPv:Na Tryz.prog ZZ.Γ:=Pa (l:=[(82,[],Ti),(72,[],QZ),(105,[],UZ),(106,[],VZ)]) ⟨⟨Ow,Tryz.call82⟩,⟨⟨zLH,Tryz.call72⟩,⟨⟨zLD,Tryz.call105⟩,⟨⟨zLJ,Tryz.call106⟩,trivial⟩⟩⟩⟩
theorem zLz:GC Tryz.prog 62 YZ:=Ra (G:=ZZ) (c:=Tryz.f62.body.getD .skip) Ga Ja zPv mixed Tryz.func62 (by kernel_rfl) Tryz.ntmps62 (Ha (G:=ZZ) (n:=0) (by kernel_rfl) (by kernel_rfl) trivial (by kernel_rfl)) (fun s=>by kernel_rfl)
def B0:Ma:=⟨⟨[.c (.agg [zi,(.b (.sl true .lk)),(.b (.sl true .bool)),(.b (.sl true .int)),(.b (.sl true .db)),(.b (.sl true .pk))]),.c (.agg [zi,zi])],[]⟩,[.int,.ls .lk,.ls .bool,.ls .int,.ls .db,.ls .pk,.int,.int],⟨[.c (.agg [zi,(.own 0),(.own 1),(.own 2),(.own 3),(.own 4)])],[.row 114 .lk,.row 4 .bool,.row 3 .int,.row 86 .db,.row 112 .pk]⟩,[.int,.ls .lk,.ls .bool,.ls .int,.ls .db,.ls .pk],JU⟩
def C0:Ka:=Qa tab [(63,[],Fn),(37,[],CZ),(62,[],YZ)] 13 0 [] []
theorem zPi:Na Tryz.prog C0.Γ:=Pa (l:=[(63,[],Fn),(37,[],CZ),(62,[],YZ)]) ⟨⟨EN,Tryz.call63⟩,⟨⟨zLn,Tryz.call37⟩,⟨⟨zLz,Tryz.call62⟩,trivial⟩⟩⟩
theorem fM:GC Tryz.prog 30 B0:=Ra (G:=C0) (c:=Tryz.f30.body.getD .skip) Ga Ja zPi mixed Tryz.func30 (by kernel_rfl) Tryz.ntmps30 (Ha (G:=C0) (n:=0) (by kernel_rfl) (by kernel_rfl) trivial (by kernel_rfl)) (fun s=>by kernel_rfl)
def Cx:Za:=⟨⟨[0,3,8],⟨[.c (.one (.ptr 0 0)),.c (.one (.ptr 6 0)),.c (.one (.ptr 7 0))],[.box 39 [zi,(.own 1),(.own 2),(.own 3),(.own 4),(.own 8)],.row 114 .lk,.row 4 .bool,.row 3 .int,.row 86 .udb,.dead,.box 63 [zi,zi],.box 112 [zi,zi,zi,(.b (.sl true .en))],.row 112 .upk]⟩,[.int,.ls .lk,.ls .bool,.ls .int,.ls .udb,.int,.int,.int,.int,.int,.ls .en,.ls .upk]⟩,0,⟨[0,8],⟨[.c (.one (.ptr 0 0)),.c (.one (.ptr 6 0))],[.box 39 [zi,(.own 1),(.own 2),(.own 3),(.own 4),(.own 7)],.row 114 .lk,.row 4 .bool,.row 3 .int,.row 86 .udb,.dead,.box 112 [zi,zi,zi,(.b (.sl true .en))],.row 112 .upk]⟩,[.int,.ls .lk,.ls .bool,.ls .int,.ls .udb,.int,.int,.int,.ls .en,.ls .upk]⟩,zx,Qq⟩
def Dx:Za:=⟨⟨[0,3],⟨[.c (.one (.ptr 0 0)),.c (.one (.ptr 6 0))],[.box 39 [zi,(.own 1),(.own 2),(.own 3),(.own 4),(.own 7)],.row 114 .lk,.row 4 .bool,.row 3 .int,.row 86 .udb,.dead,.box 63 [zi,zi],.row 112 .upk]⟩,[.int,.ls .lk,.ls .bool,.ls .int,.ls .udb,.int,.int,.ls .upk]⟩,0,⟨[],⟨[],[.box 39 [zi,(.own 1),(.own 2),(.own 3),(.own 4),(.own 6)],.row 114 .lk,.row 4 .bool,.row 3 .int,.row 86 .udb,.dead,.row 112 .upk]⟩,[.int,.ls .lk,.ls .bool,.ls .int,.ls .udb,.ls .upk]⟩,zx,Jl⟩
def Ex:Za:=⟨⟨[0,3],⟨[.c (.one (.ptr 0 0)),.c (.one (.ptr 6 0))],[.box 39 [zi,(.own 1),(.own 2),(.own 3),(.own 4),(.own 7)],.row 114 .lk,.row 4 .bool,.row 3 .int,.row 86 .udb,.dead,.box 63 [zi,zi],.row 112 .upk]⟩,[.int,.ls .lk,.ls .bool,.ls .int,.ls .udb,.int,.int,.ls .upk]⟩,0,⟨[],⟨[],[.box 39 [zi,(.own 1),(.own 2),(.own 3),(.own 4),(.own 6)],.row 114 .lk,.row 4 .bool,.row 3 .int,.row 86 .udb,.dead,.row 112 .upk]⟩,[.int,.ls .lk,.ls .bool,.ls .int,.ls .udb,.ls .upk]⟩,zx,Dh⟩
def Fx:Za:=⟨⟨[0,11,12],⟨[.c (.one (.ptr 0 0)),.c (.one (.ptr 6 0)),.c (.one (.own 7))],[.box 39 [zi,(.own 1),(.own 2),(.own 3),(.own 4),(.own 8)],.row 114 .lk,.row 4 .bool,.row 3 .int,.row 86 .udb,.dead,.box 114 [zi,zi,zi],.row 108 .uls,.row 112 .upk]⟩,[.int,.ls .lk,.ls .bool,.ls .int,.ls .udb,.int,.int,.int,.ls .uls,.ls .upk]⟩,0,⟨[],⟨[],[.box 39 [zi,(.own 1),(.own 2),(.own 3),(.own 4),(.own 6)],.row 114 .lk,.row 4 .bool,.row 3 .int,.row 86 .udb,.dead,.row 112 .upk]⟩,[.int,.ls .lk,.ls .bool,.ls .int,.ls .udb,.ls .upk]⟩,zx,Ee⟩
def D0:Ma:=⟨⟨[.c (.one (.ptr 0 0)),.c (.agg [zi,zi])],[.box 39 [zi,(.own 1),(.own 2),(.own 3),(.own 4),(.own 5)],.row 114 .lk,.row 4 .bool,.row 3 .int,.row 86 .udb,.row 112 .upk]⟩,[.int,.int,.int,.ls .lk,.ls .bool,.ls .int,.ls .udb,.ls .upk],⟨[.tup []],[.box 39 [zi,(.own 1),(.own 2),(.own 3),(.own 4),(.own 6)],.row 114 .lk,.row 4 .bool,.row 3 .int,.row 86 .udb,.dead,.row 112 .upk]⟩,[.int,.ls .lk,.ls .bool,.ls .int,.ls .udb,.ls .upk],RM⟩
def Qh:Ka:=Qa Sg [(114,[],MS),(58,[],An),(117,[],Ik),(119,[],Dn),(115,[],Yt),(118,[],LZ),(116,[],ZF),(113,[],WZ)] 284 6 [(1,17,[(0,true),(1,true),(2,true),(3,true),(4,true),(5,true),(6,true),(7,true),(9,true),(10,true),(11,true),(12,true),(13,true),(14,true),(15,true),(16,true),(8,false)],[]),(3,10,[(0,true),(1,true),(2,true),(3,true),(4,true),(5,true),(6,true),(7,true),(8,true),(9,false)],[]),(5,28,tk 28,[]),(6,7,tk 7,[]),(10,9,[(0,true),(1,true),(2,true),(3,true),(4,true),(5,true),(6,true),(7,true),(8,false)],[]),(12,15,[(0,true),(1,true),(2,true),(3,true),(4,true),(5,true),(6,true),(7,true),(8,true),(9,true),(10,false),(11,true),(12,true),(13,true),(14,true)],[]),(13,7,tk 7,[]),(22,10,[(0,true),(1,true),(2,true),(3,true),(4,true),(5,true),(6,true),(7,true),(8,true),(9,false)],[]),(23,6,tk 6,[]),(24,16,tk 16,[])] [(11,Cx),(17,Dx),(20,Ex),(25,Fx)]
theorem AG:Na Tryz.prog Qh.Γ:=Pa (l:=[(114,[],MS),(58,[],An),(117,[],Ik),(119,[],Dn),(115,[],Yt),(118,[],LZ),(116,[],ZF),(113,[],WZ)]) ⟨⟨rC,Tryz.call114⟩,⟨⟨ZM,Tryz.call58⟩,⟨⟨GF,Tryz.call117⟩,⟨⟨CN,Tryz.call119⟩,⟨⟨IZ,Tryz.call115⟩,⟨⟨zKd,Tryz.call118⟩,⟨⟨fI,Tryz.call116⟩,⟨⟨zJ1,Tryz.call113⟩,trivial⟩⟩⟩⟩⟩⟩⟩⟩
theorem zIz:If Tryz.prog 6 284 (Ud Qh.plan (Tryz.f66.body.getD .skip) 0).1 (Ud Qh.plan (Tryz.f66.body.getD .skip) 0).2 Cx:=II (G:=Qh) (U:=[0,1,2,3,5,7]) (n:=10) (tl:=[10,11,12,13]) (ks:=[]) (t:=(.val 4 (.val 6 (.val 8 (.val 9 .done))))) (F:=Cx.F) (eid:=0) (FX:=Cx.FX) (FR:=Cx.FR) (sh:=Qq) Ga Ld AG mixed (by kernel_rfl) (by kernel_rfl) ⟨fun s=>by kernel_rfl,trivial⟩
theorem zIA:If Tryz.prog 6 284 (Ud Qh.plan (Tryz.f66.body.getD .skip) 1).1 (Ud Qh.plan (Tryz.f66.body.getD .skip) 1).2 Dx:=II (G:=Qh) (U:=[0,1,2,3,5,7]) (n:=10) (tl:=[10,11,12,13]) (ks:=[]) (t:=(.val 4 (.val 6 (.val 8 (.val 9 .done))))) (F:=Dx.F) (eid:=0) (FX:=Dx.FX) (FR:=Dx.FR) (sh:=Jl) Ga Ld AG mixed (by kernel_rfl) (by kernel_rfl) ⟨fun s=>by kernel_rfl,trivial⟩
theorem zIB:If Tryz.prog 6 284 (Ud Qh.plan (Tryz.f66.body.getD .skip) 2).1 (Ud Qh.plan (Tryz.f66.body.getD .skip) 2).2 Ex:=II (G:=Qh) (U:=[0,1,2,3,5,6,7,9,14,15,16,18]) (n:=26) (tl:=[26,27,28,29]) (ks:=[]) (t:=(.val 4 (.val 8 (.val 10 (.val 11 (.val 12 (.val 13 (.val 17 (.val 19 (.val 20 (.val 21 (.val 22 (.one 23 (.val 24 (.one 25 .done))))))))))))))) (F:=Ex.F) (eid:=0) (FX:=Ex.FX) (FR:=Ex.FR) (sh:=Dh) Ga Ld AG mixed (by kernel_rfl) (by kernel_rfl) ⟨fun s=>by kernel_rfl,trivial⟩
theorem zIC:If Tryz.prog 6 284 (Ud Qh.plan (Tryz.f66.body.getD .skip) 3).1 (Ud Qh.plan (Tryz.f66.body.getD .skip) 3).2 Fx:=RQ (G:=Qh) (t:=(.val 0 (.val 1 (.val 2 (.val 4 (.val 6 (.val 7 (.val 8 (.val 10 (.val 12 (.val 13 (.alt 3 (.alt 5 (.alt 9 (.alt 11 (.one 14 (.val 15 (.one 16 (.val 17 (.one 18 .done))))) (.one 14 (.val 15 (.alt 11 (.one 16 (.val 17 (.one 18 .done))) (.one 16 (.one 11 (.val 17 (.one 18 .done)))))))) (.alt 11 (.alt 9 (.one 14 (.val 15 (.one 16 (.val 17 (.one 18 .done))))) (.one 14 (.one 9 (.val 15 (.one 16 (.val 17 (.one 18 .done))))))) (.one 14 (.alt 9 (.val 15 (.alt 11 (.one 16 (.val 17 (.one 18 .done))) (.one 16 (.one 11 (.val 17 (.one 18 .done)))))) (.one 11 (.one 9 (.val 15 (.one 16 (.val 17 (.one 18 .done)))))))))) (.alt 9 (.alt 5 (.alt 11 (.one 14 (.val 15 (.one 16 (.val 17 (.one 18 .done))))) (.one 14 (.val 15 (.alt 11 (.one 16 (.val 17 (.one 18 .done))) (.one 16 (.one 11 (.val 17 (.one 18 .done)))))))) (.alt 11 (.alt 5 (.one 14 (.val 15 (.one 16 (.val 17 (.one 18 .done))))) (.one 14 (.one 5 (.val 15 (.one 16 (.val 17 (.one 18 .done))))))) (.one 14 (.alt 5 (.val 15 (.alt 11 (.one 16 (.val 17 (.one 18 .done))) (.one 16 (.one 11 (.val 17 (.one 18 .done)))))) (.one 11 (.one 5 (.val 15 (.one 16 (.val 17 (.one 18 .done)))))))))) (.alt 11 (.alt 5 (.alt 9 (.one 14 (.val 15 (.one 16 (.val 17 (.one 18 .done))))) (.one 14 (.one 9 (.val 15 (.one 16 (.val 17 (.one 18 .done))))))) (.alt 9 (.alt 5 (.one 14 (.val 15 (.one 16 (.val 17 (.one 18 .done))))) (.one 14 (.one 5 (.val 15 (.one 16 (.val 17 (.one 18 .done))))))) (.one 14 (.alt 5 (.one 9 (.val 15 (.one 16 (.val 17 (.one 18 .done))))) (.one 9 (.one 5 (.val 15 (.one 16 (.val 17 (.one 18 .done)))))))))) (.one 14 (.alt 5 (.alt 9 (.val 15 (.alt 11 (.one 16 (.val 17 (.one 18 .done))) (.one 16 (.one 11 (.val 17 (.one 18 .done)))))) (.one 11 (.one 9 (.val 15 (.one 16 (.val 17 (.one 18 .done))))))) (.alt 9 (.alt 5 (.val 15 (.alt 11 (.one 16 (.val 17 (.one 18 .done))) (.one 16 (.one 11 (.val 17 (.one 18 .done)))))) (.one 11 (.one 5 (.val 15 (.one 16 (.val 17 (.one 18 .done))))))) (.one 11 (.alt 5 (.one 9 (.val 15 (.one 16 (.val 17 (.one 18 .done))))) (.one 9 (.one 5 (.val 15 (.one 16 (.val 17 (.one 18 .done)))))))))))))) (.alt 5 (.alt 3 (.alt 9 (.alt 11 (.one 14 (.val 15 (.one 16 (.val 17 (.one 18 .done))))) (.one 14 (.val 15 (.alt 11 (.one 16 (.val 17 (.one 18 .done))) (.one 16 (.one 11 (.val 17 (.one 18 .done)))))))) (.alt 11 (.alt 9 (.one 14 (.val 15 (.one 16 (.val 17 (.one 18 .done))))) (.one 14 (.one 9 (.val 15 (.one 16 (.val 17 (.one 18 .done))))))) (.one 14 (.alt 9 (.val 15 (.alt 11 (.one 16 (.val 17 (.one 18 .done))) (.one 16 (.one 11 (.val 17 (.one 18 .done)))))) (.one 11 (.one 9 (.val 15 (.one 16 (.val 17 (.one 18 .done)))))))))) (.alt 9 (.alt 3 (.alt 11 (.one 14 (.val 15 (.one 16 (.val 17 (.one 18 .done))))) (.one 14 (.val 15 (.alt 11 (.one 16 (.val 17 (.one 18 .done))) (.one 16 (.one 11 (.val 17 (.one 18 .done)))))))) (.alt 11 (.alt 3 (.one 14 (.val 15 (.one 16 (.val 17 (.one 18 .done))))) (.one 14 (.one 3 (.val 15 (.one 16 (.val 17 (.one 18 .done))))))) (.one 14 (.alt 3 (.val 15 (.alt 11 (.one 16 (.val 17 (.one 18 .done))) (.one 16 (.one 11 (.val 17 (.one 18 .done)))))) (.one 11 (.one 3 (.val 15 (.one 16 (.val 17 (.one 18 .done)))))))))) (.alt 11 (.alt 3 (.alt 9 (.one 14 (.val 15 (.one 16 (.val 17 (.one 18 .done))))) (.one 14 (.one 9 (.val 15 (.one 16 (.val 17 (.one 18 .done))))))) (.alt 9 (.alt 3 (.one 14 (.val 15 (.one 16 (.val 17 (.one 18 .done))))) (.one 14 (.one 3 (.val 15 (.one 16 (.val 17 (.one 18 .done))))))) (.one 14 (.alt 3 (.one 9 (.val 15 (.one 16 (.val 17 (.one 18 .done))))) (.one 9 (.one 3 (.val 15 (.one 16 (.val 17 (.one 18 .done)))))))))) (.one 14 (.alt 3 (.alt 9 (.val 15 (.alt 11 (.one 16 (.val 17 (.one 18 .done))) (.one 16 (.one 11 (.val 17 (.one 18 .done)))))) (.one 11 (.one 9 (.val 15 (.one 16 (.val 17 (.one 18 .done))))))) (.alt 9 (.alt 3 (.val 15 (.alt 11 (.one 16 (.val 17 (.one 18 .done))) (.one 16 (.one 11 (.val 17 (.one 18 .done)))))) (.one 11 (.one 3 (.val 15 (.one 16 (.val 17 (.one 18 .done))))))) (.one 11 (.alt 3 (.one 9 (.val 15 (.one 16 (.val 17 (.one 18 .done))))) (.one 9 (.one 3 (.val 15 (.one 16 (.val 17 (.one 18 .done)))))))))))))) (.alt 9 (.alt 3 (.alt 5 (.alt 11 (.one 14 (.val 15 (.one 16 (.val 17 (.one 18 .done))))) (.one 14 (.val 15 (.alt 11 (.one 16 (.val 17 (.one 18 .done))) (.one 16 (.one 11 (.val 17 (.one 18 .done)))))))) (.alt 11 (.alt 5 (.one 14 (.val 15 (.one 16 (.val 17 (.one 18 .done))))) (.one 14 (.one 5 (.val 15 (.one 16 (.val 17 (.one 18 .done))))))) (.one 14 (.alt 5 (.val 15 (.alt 11 (.one 16 (.val 17 (.one 18 .done))) (.one 16 (.one 11 (.val 17 (.one 18 .done)))))) (.one 11 (.one 5 (.val 15 (.one 16 (.val 17 (.one 18 .done)))))))))) (.alt 5 (.alt 3 (.alt 11 (.one 14 (.val 15 (.one 16 (.val 17 (.one 18 .done))))) (.one 14 (.val 15 (.alt 11 (.one 16 (.val 17 (.one 18 .done))) (.one 16 (.one 11 (.val 17 (.one 18 .done)))))))) (.alt 11 (.alt 3 (.one 14 (.val 15 (.one 16 (.val 17 (.one 18 .done))))) (.one 14 (.one 3 (.val 15 (.one 16 (.val 17 (.one 18 .done))))))) (.one 14 (.alt 3 (.val 15 (.alt 11 (.one 16 (.val 17 (.one 18 .done))) (.one 16 (.one 11 (.val 17 (.one 18 .done)))))) (.one 11 (.one 3 (.val 15 (.one 16 (.val 17 (.one 18 .done)))))))))) (.alt 11 (.alt 3 (.alt 5 (.one 14 (.val 15 (.one 16 (.val 17 (.one 18 .done))))) (.one 14 (.one 5 (.val 15 (.one 16 (.val 17 (.one 18 .done))))))) (.alt 5 (.alt 3 (.one 14 (.val 15 (.one 16 (.val 17 (.one 18 .done))))) (.one 14 (.one 3 (.val 15 (.one 16 (.val 17 (.one 18 .done))))))) (.one 14 (.alt 3 (.one 5 (.val 15 (.one 16 (.val 17 (.one 18 .done))))) (.one 5 (.one 3 (.val 15 (.one 16 (.val 17 (.one 18 .done)))))))))) (.one 14 (.alt 3 (.alt 5 (.val 15 (.alt 11 (.one 16 (.val 17 (.one 18 .done))) (.one 16 (.one 11 (.val 17 (.one 18 .done)))))) (.one 11 (.one 5 (.val 15 (.one 16 (.val 17 (.one 18 .done))))))) (.alt 5 (.alt 3 (.val 15 (.alt 11 (.one 16 (.val 17 (.one 18 .done))) (.one 16 (.one 11 (.val 17 (.one 18 .done)))))) (.one 11 (.one 3 (.val 15 (.one 16 (.val 17 (.one 18 .done))))))) (.one 11 (.alt 3 (.one 5 (.val 15 (.one 16 (.val 17 (.one 18 .done))))) (.one 5 (.one 3 (.val 15 (.one 16 (.val 17 (.one 18 .done)))))))))))))) (.alt 11 (.alt 3 (.alt 5 (.alt 9 (.one 14 (.val 15 (.one 16 (.val 17 (.one 18 .done))))) (.one 14 (.one 9 (.val 15 (.one 16 (.val 17 (.one 18 .done))))))) (.alt 9 (.alt 5 (.one 14 (.val 15 (.one 16 (.val 17 (.one 18 .done))))) (.one 14 (.one 5 (.val 15 (.one 16 (.val 17 (.one 18 .done))))))) (.one 14 (.alt 5 (.one 9 (.val 15 (.one 16 (.val 17 (.one 18 .done))))) (.one 9 (.one 5 (.val 15 (.one 16 (.val 17 (.one 18 .done)))))))))) (.alt 5 (.alt 3 (.alt 9 (.one 14 (.val 15 (.one 16 (.val 17 (.one 18 .done))))) (.one 14 (.one 9 (.val 15 (.one 16 (.val 17 (.one 18 .done))))))) (.alt 9 (.alt 3 (.one 14 (.val 15 (.one 16 (.val 17 (.one 18 .done))))) (.one 14 (.one 3 (.val 15 (.one 16 (.val 17 (.one 18 .done))))))) (.one 14 (.alt 3 (.one 9 (.val 15 (.one 16 (.val 17 (.one 18 .done))))) (.one 9 (.one 3 (.val 15 (.one 16 (.val 17 (.one 18 .done)))))))))) (.alt 9 (.alt 3 (.alt 5 (.one 14 (.val 15 (.one 16 (.val 17 (.one 18 .done))))) (.one 14 (.one 5 (.val 15 (.one 16 (.val 17 (.one 18 .done))))))) (.alt 5 (.alt 3 (.one 14 (.val 15 (.one 16 (.val 17 (.one 18 .done))))) (.one 14 (.one 3 (.val 15 (.one 16 (.val 17 (.one 18 .done))))))) (.one 14 (.alt 3 (.one 5 (.val 15 (.one 16 (.val 17 (.one 18 .done))))) (.one 5 (.one 3 (.val 15 (.one 16 (.val 17 (.one 18 .done)))))))))) (.one 14 (.alt 3 (.alt 5 (.one 9 (.val 15 (.one 16 (.val 17 (.one 18 .done))))) (.one 9 (.one 5 (.val 15 (.one 16 (.val 17 (.one 18 .done))))))) (.alt 5 (.alt 3 (.one 9 (.val 15 (.one 16 (.val 17 (.one 18 .done))))) (.one 9 (.one 3 (.val 15 (.one 16 (.val 17 (.one 18 .done))))))) (.one 9 (.alt 3 (.one 5 (.val 15 (.one 16 (.val 17 (.one 18 .done))))) (.one 5 (.one 3 (.val 15 (.one 16 (.val 17 (.one 18 .done)))))))))))))) (.one 14 (.alt 3 (.alt 5 (.alt 9 (.val 15 (.alt 11 (.one 16 (.val 17 (.one 18 .done))) (.one 16 (.one 11 (.val 17 (.one 18 .done)))))) (.one 11 (.one 9 (.val 15 (.one 16 (.val 17 (.one 18 .done))))))) (.alt 9 (.alt 5 (.val 15 (.alt 11 (.one 16 (.val 17 (.one 18 .done))) (.one 16 (.one 11 (.val 17 (.one 18 .done)))))) (.one 11 (.one 5 (.val 15 (.one 16 (.val 17 (.one 18 .done))))))) (.one 11 (.alt 5 (.one 9 (.val 15 (.one 16 (.val 17 (.one 18 .done))))) (.one 9 (.one 5 (.val 15 (.one 16 (.val 17 (.one 18 .done)))))))))) (.alt 5 (.alt 3 (.alt 9 (.val 15 (.alt 11 (.one 16 (.val 17 (.one 18 .done))) (.one 16 (.one 11 (.val 17 (.one 18 .done)))))) (.one 11 (.one 9 (.val 15 (.one 16 (.val 17 (.one 18 .done))))))) (.alt 9 (.alt 3 (.val 15 (.alt 11 (.one 16 (.val 17 (.one 18 .done))) (.one 16 (.one 11 (.val 17 (.one 18 .done)))))) (.one 11 (.one 3 (.val 15 (.one 16 (.val 17 (.one 18 .done))))))) (.one 11 (.alt 3 (.one 9 (.val 15 (.one 16 (.val 17 (.one 18 .done))))) (.one 9 (.one 3 (.val 15 (.one 16 (.val 17 (.one 18 .done)))))))))) (.alt 9 (.alt 3 (.alt 5 (.val 15 (.alt 11 (.one 16 (.val 17 (.one 18 .done))) (.one 16 (.one 11 (.val 17 (.one 18 .done)))))) (.one 11 (.one 5 (.val 15 (.one 16 (.val 17 (.one 18 .done))))))) (.alt 5 (.alt 3 (.val 15 (.alt 11 (.one 16 (.val 17 (.one 18 .done))) (.one 16 (.one 11 (.val 17 (.one 18 .done)))))) (.one 11 (.one 3 (.val 15 (.one 16 (.val 17 (.one 18 .done))))))) (.one 11 (.alt 3 (.one 5 (.val 15 (.one 16 (.val 17 (.one 18 .done))))) (.one 5 (.one 3 (.val 15 (.one 16 (.val 17 (.one 18 .done)))))))))) (.one 11 (.alt 3 (.alt 5 (.one 9 (.val 15 (.one 16 (.val 17 (.one 18 .done))))) (.one 9 (.one 5 (.val 15 (.one 16 (.val 17 (.one 18 .done))))))) (.alt 5 (.alt 3 (.one 9 (.val 15 (.one 16 (.val 17 (.one 18 .done))))) (.one 9 (.one 3 (.val 15 (.one 16 (.val 17 (.one 18 .done))))))) (.one 9 (.alt 3 (.one 5 (.val 15 (.one 16 (.val 17 (.one 18 .done))))) (.one 5 (.one 3 (.val 15 (.one 16 (.val 17 (.one 18 .done)))))))))))))))))))))))))))))) (F:=Fx.F) (eid:=0) (FX:=Fx.FX) (FR:=Fx.FR) (sh:=Ee) Ga Ld AG mixed (by kernel_rfl) (by kernel_rfl) ⟨fun s=>by kernel_rfl,fun s=>by kernel_rfl,fun s=>by kernel_rfl,fun s=>by kernel_rfl,fun s=>by kernel_rfl,fun s=>by kernel_rfl,fun s=>by kernel_rfl,fun s=>by kernel_rfl,fun s=>by kernel_rfl,fun s=>by kernel_rfl,fun s=>by kernel_rfl,fun s=>by kernel_rfl,fun s=>by kernel_rfl,fun s=>by kernel_rfl,fun s=>by kernel_rfl,fun s=>by kernel_rfl,fun s=>by kernel_rfl,fun s=>by kernel_rfl,fun s=>by kernel_rfl,fun s=>by kernel_rfl,fun s=>by kernel_rfl,fun s=>by kernel_rfl,fun s=>by kernel_rfl,fun s=>by kernel_rfl,fun s=>by kernel_rfl,fun s=>by kernel_rfl,fun s=>by kernel_rfl,fun s=>by kernel_rfl,fun s=>by kernel_rfl,fun s=>by kernel_rfl,fun s=>by kernel_rfl,fun s=>by kernel_rfl,fun s=>by kernel_rfl,fun s=>by kernel_rfl,fun s=>by kernel_rfl,fun s=>by kernel_rfl,fun s=>by kernel_rfl,fun s=>by kernel_rfl,fun s=>by kernel_rfl,fun s=>by kernel_rfl,fun s=>by kernel_rfl,fun s=>by kernel_rfl,fun s=>by kernel_rfl,fun s=>by kernel_rfl,fun s=>by kernel_rfl,fun s=>by kernel_rfl,fun s=>by kernel_rfl,fun s=>by kernel_rfl,fun s=>by kernel_rfl,fun s=>by kernel_rfl,fun s=>by kernel_rfl,fun s=>by kernel_rfl,fun s=>by kernel_rfl,fun s=>by kernel_rfl,fun s=>by kernel_rfl,fun s=>by kernel_rfl,fun s=>by kernel_rfl,fun s=>by kernel_rfl,fun s=>by kernel_rfl,fun s=>by kernel_rfl,fun s=>by kernel_rfl,fun s=>by kernel_rfl,fun s=>by kernel_rfl,fun s=>by kernel_rfl,fun s=>by kernel_rfl,fun s=>by kernel_rfl,fun s=>by kernel_rfl,fun s=>by kernel_rfl,fun s=>by kernel_rfl,fun s=>by kernel_rfl,fun s=>by kernel_rfl,fun s=>by kernel_rfl,fun s=>by kernel_rfl,fun s=>by kernel_rfl,fun s=>by kernel_rfl,fun s=>by kernel_rfl,fun s=>by kernel_rfl,fun s=>by kernel_rfl,fun s=>by kernel_rfl,fun s=>by kernel_rfl,fun s=>by kernel_rfl,fun s=>by kernel_rfl,fun s=>by kernel_rfl,fun s=>by kernel_rfl,fun s=>by kernel_rfl,fun s=>by kernel_rfl,fun s=>by kernel_rfl,fun s=>by kernel_rfl,fun s=>by kernel_rfl,fun s=>by kernel_rfl,fun s=>by kernel_rfl,fun s=>by kernel_rfl,fun s=>by kernel_rfl,fun s=>by kernel_rfl,fun s=>by kernel_rfl,fun s=>by kernel_rfl,fun s=>by kernel_rfl,fun s=>by kernel_rfl,fun s=>by kernel_rfl,fun s=>by kernel_rfl,fun s=>by kernel_rfl,fun s=>by kernel_rfl,fun s=>by kernel_rfl,fun s=>by kernel_rfl,fun s=>by kernel_rfl,fun s=>by kernel_rfl,fun s=>by kernel_rfl,fun s=>by kernel_rfl,fun s=>by kernel_rfl,fun s=>by kernel_rfl,fun s=>by kernel_rfl,fun s=>by kernel_rfl,fun s=>by kernel_rfl,fun s=>by kernel_rfl,fun s=>by kernel_rfl,fun s=>by kernel_rfl,fun s=>by kernel_rfl,fun s=>by kernel_rfl,fun s=>by kernel_rfl,fun s=>by kernel_rfl,fun s=>by kernel_rfl,fun s=>by kernel_rfl,fun s=>by kernel_rfl,fun s=>by kernel_rfl,fun s=>by kernel_rfl,fun s=>by kernel_rfl,fun s=>by kernel_rfl,fun s=>by kernel_rfl,fun s=>by kernel_rfl,fun s=>by kernel_rfl,fun s=>by kernel_rfl,fun s=>by kernel_rfl,fun s=>by kernel_rfl,fun s=>by kernel_rfl,fun s=>by kernel_rfl,fun s=>by kernel_rfl,fun s=>by kernel_rfl,fun s=>by kernel_rfl,fun s=>by kernel_rfl,fun s=>by kernel_rfl,fun s=>by kernel_rfl,fun s=>by kernel_rfl,fun s=>by kernel_rfl,fun s=>by kernel_rfl,trivial⟩
theorem zJ2:GC Tryz.prog 66 D0:=Oy (G:=Qh) (c:=Tryz.f66.body.getD .skip) Ga Ld AG mixed Tryz.func66 (by kernel_rfl) Tryz.ntmps66 (Em (G:=Qh) (n:=0) (m:=4) (by kernel_rfl) (by kernel_rfl) trivial (by kernel_rfl) ⟨⟨⟨⟨trivial,Ej (L0:=Cx) (by kernel_rfl) zIz⟩,Ej (L0:=Dx) (by kernel_rfl) zIA⟩,Ej (L0:=Ex) (by kernel_rfl) zIB⟩,Ej (L0:=Fx) (by kernel_rfl) zIC⟩) [5] (fun s=>by kernel_rfl)
def fN:Ma:=⟨⟨[.c (.agg [zi,(.b (.sl false .lk)),(.b (.sl false .bool)),(.b (.sl false .int)),(.b (.sl false .db)),(.b (.sl false .pk))]),.c (.agg [zi,zi])],[]⟩,[.int,.ls .lk,.ls .bool,.ls .int,.ls .db,.ls .pk,.int,.int],⟨[.c (.agg [zi,(.own 0),(.own 1),(.own 2),(.own 3),(.own 4)])],[.row 114 .lk,.row 4 .bool,.row 3 .int,.row 86 .udb,.row 112 .upk]⟩,[.int,.ls .lk,.ls .bool,.ls .int,.ls .udb,.ls .upk],KU⟩
def F0:Ka:=Qa Sg [(73,[],FZ),(43,[],NZ),(66,[],D0)] 15 0 [] []
theorem zNZ:Na Tryz.prog F0.Γ:=Pa (l:=[(73,[],FZ),(43,[],NZ),(66,[],D0)]) ⟨⟨zJ9,Tryz.call73⟩,⟨⟨zJZ,Tryz.call43⟩,⟨⟨zJ2,Tryz.call66⟩,trivial⟩⟩⟩
theorem zJX:GC Tryz.prog 32 fN:=Ra (G:=F0) (c:=Tryz.f32.body.getD .skip) Ga Ld zNZ mixed Tryz.func32 (by kernel_rfl) Tryz.ntmps32 (Ha (G:=F0) (n:=0) (by kernel_rfl) (by kernel_rfl) trivial (by kernel_rfl)) (fun s=>by kernel_rfl)
end
section
open Go.RowKit
section
variable {w:Wd}
def zW:Wd:=⟨0,[],[],[],[],[]⟩
noncomputable def Kn (w:Wd) (kind a:Int):Wd:=if wv w=true then Mf w kind a else zW
theorem zC0 (h:Xm w) (kind a:Int):KU (w.n,w.ls,w.up,w.sq,w.db,w.net,kind,a,())=some (wt (Kn w kind a)):=by
  unfold KU Kn
  refine Aa.out (Vb (uW h) ?_)
  dsimp only
  cases hv:wv w with
  |false=>exact Aa.gd rfl (.some (by rw [if_neg (by simp)];try rfl))
  |true =>
   rw [if_pos rfl]
   refine Aa.no rfl (Vb (uI h) ?_)
   exact Vb (uQ (OC.1 hv) kind a) (.some rfl)
theorem fO (h:Xm w) (kind a:Int):JU (w.n,w.ls,w.up,w.sq,w.db,w.net,kind,a,())=some (wt (Kn w kind a)):=by
  unfold JU Kn
  refine Aa.out (Vb (vA h) ?_)
  dsimp only
  cases hv:wv w with
  |false=>exact Aa.gd rfl (.some (by rw [if_neg (by simp)];try rfl))
  |true =>
   rw [if_pos rfl]
   have v:=OC.1 hv
   refine Aa.no rfl (Vb (uP v kind a) ?_)
   dsimp only [wt]
   exact Vb (TM (bE v kind a).sm) (.some rfl)
end
end
section
open Go.RowKit
def Eh (W:Wl):List Ca:=[.row 114 .lk W.2.1,.row 4 .bool W.2.2.1,.row 3 .int W.2.2.2.1,.row 86 .db W.2.2.2.2.1,.row 112 .pk W.2.2.2.2.2]
theorem yAj {w':World} {W:Wl} {v:Value} {β:List (Nat×Nat)} (hh:Pb w' (Da (Eh W) β) (fun _=>False) (Eh W) β) (hc:Cv w' (Da (Eh W) β) (fun _=>False) (Eh W) β (Lo W.1) v):Rw w' 0 w'.heap.size W v:=by
  obtain ⟨us,rfl,h3⟩:=hc
  obtain ⟨u0,r,rfl,g0,h3⟩:=h3.cons_inv
  obtain ⟨u1,r,rfl,g1,h3⟩:=h3.cons_inv
  obtain ⟨u2,r,rfl,g2,h3⟩:=h3.cons_inv
  obtain ⟨u3,r,rfl,g3,h3⟩:=h3.cons_inv
  obtain ⟨u4,r,rfl,g4,h3⟩:=h3.cons_inv
  obtain ⟨u5,r,rfl,g5,h3⟩:=h3.cons_inv
  obtain rfl:=h3.nil_inv
  have rd:∀{k:Nat} {t:TypeId} {τ:Ty} {xs:List (El τ)} {u:Value},(Eh W)[k]? =some (.row t τ xs)→C1 w' (Da (Eh W) β) (fun _=>False) (Eh W) β (.own k) u→Ri w' (fun b=>b<0∨w'.heap.size≤b) (fun _=>False) (.sl false τ xs) u:=fun {k t τ xs u} hk hc =>
    Ri.keep (w:=w') (w':=w') (fun _ _ _=>rfl) (Nat.le_refl _) (fun b hb _ h=>by omega) (fun _ _ _ h=>h) (W7 (E':=fun _=>False) hh hk (fun _ _ h=>h) (fun _ _ _ _ h=>h) hc)
  have g0:Ri w' _ _ (iI W.1) u0:=g0
  cases g0
  exact ⟨_,rfl,F2.cons (Ri.s _) (F2.cons (rd (k:=0) rfl g1) (F2.cons (rd (k:=1) rfl g2) (F2.cons (rd (k:=2) rfl g3) (F2.cons (rd (k:=3) rfl g4) (F2.cons (rd (k:=4) rfl g5) F2.nil)))))⟩
theorem BG {w:World} {E:Nat→Prop} {τ:Ty} {xs:List (El τ)} {u:Value} (h:Ri w E (fun _=>False) (.sl false τ xs) u):Ri w E (fun _=>False) (.sl true τ xs) u:=by
  cases h with
  |sl g τ xs A cap b o us hA hcap hl hc hr=>exact .sl true τ xs A cap b o us (fun h=>⟨(hA h).1,(hA h).2.1,(hA h).2.2.1,fun _ h=>h⟩) hcap hl hc hr
def IN (W:Wl):PV:=.agg [.im (iI W.1),.im (.sl true .lk W.2.1),.im (.sl true .bool W.2.2.1),.im (.sl true .int W.2.2.2.1),.im (.sl true .db W.2.2.2.2.1),.im (.sl true .pk W.2.2.2.2.2)]
theorem Rw.argT {w:World} {lo hi:Nat} {W:Wl} {v:Value} (h:Rw w lo hi W v):Cv w (Da [] []) (fun _=>False) [] [] (IN W) v:=by
  obtain ⟨us,rfl,h3⟩:=h.arg
  obtain ⟨u0,r,rfl,g0,h3⟩:=h3.cons_inv
  obtain ⟨u1,r,rfl,g1,h3⟩:=h3.cons_inv
  obtain ⟨u2,r,rfl,g2,h3⟩:=h3.cons_inv
  obtain ⟨u3,r,rfl,g3,h3⟩:=h3.cons_inv
  obtain ⟨u4,r,rfl,g4,h3⟩:=h3.cons_inv
  obtain ⟨u5,r,rfl,g5,h3⟩:=h3.cons_inv
  obtain rfl:=h3.nil_inv
  exact ⟨_,rfl,F2.cons g0 (F2.cons (BG g1) (F2.cons (BG g2) (F2.cons (BG g3) (F2.cons (BG g4) (F2.cons (BG g5) F2.nil)))))⟩
theorem JN {α:Type} (c:α→Nat) (m:Nat):∀xs:List α,(∀x∈xs,c x≤m)→Ac c xs≤m*xs.length
  |[],_=>by simp [Ac]
  |x::r,h=>by
   have h1:=h x (List.mem_cons_self ..)
   have h2:=JN c m r fun y hy=>h y (List.mem_cons_of_mem _ hy)
   rw [Ac,List.length_cons,Nat.mul_succ]
   omega
theorem yAk {d:List Ls} (h:Ke d):∀l∈d,l.e.length≤8:=fun l hl=>by
  obtain ⟨i,hi,e⟩:=List.getElem_of_mem hl
  have h1:=(h i hi).1
  rw [Hd hi,e] at h1
  exact h1.len
theorem yAl {w:Wd} (h:WV w Hc):FW (lw w):=by
  have h1:=h.lsl
  have h2:=h.up
  have h3:=h.sq
  have h4:=h.db
  have h5:=h.net
  have h6:=h.nn
  have hd:∀d∈w.db,d.length≤8∧∀l∈d,l.e.length≤8:=fun d hd=>by
    obtain ⟨i,hi,e⟩:=List.getElem_of_mem hd
    have h7:=h.ok i hi
    have e2:Ab w.db i=d:=by simp [Ab,List.getD,hi,e]
    rw [e2] at h7
    exact ⟨h7.len,yAk h7⟩
  have hp:∀p∈w.net,p.p.e.length≤8:=fun p hp=>(h.poss _ (.inr ⟨p,hp,rfl⟩)).1.len
  have c1:Xf w.db≤144*w.db.length:=JN _ _ _ fun d hdm=>by
    have:=JN So 18 d fun l hl=>by have:=(hd d hdm).2 l hl;unfold So;omega
    rw [IT]
    have:=(hd d hdm).1
    omega
  have c2:Zg w.net≤19*w.net.length:=JN _ _ _ fun p hpm=>by
    have:=hp p hpm
    unfold Lh;omega
  refine ⟨⟨by show w.ls.length≤_;omega,by show w.up.length≤_;omega,by show w.sq.length≤_;omega,by show w.db.length≤_;omega,by show w.net.length≤_;omega,fun d hdm=>⟨by have:=(hd d hdm).1;omega,fun l hl=>by have:=(hd d hdm).2 l hl;omega⟩,fun p hpm=>by have:=hp p hpm;omega⟩,?_⟩
  unfold Ah lw
  dsimp only
  omega
theorem yAm:FW (lw zW):=⟨⟨Nat.zero_le _,Nat.zero_le _,Nat.zero_le _,Nat.zero_le _,Nat.zero_le _,(fun d hd=>by cases hd),(fun p hp=>by cases hp)⟩,Nat.zero_le _⟩
end
section
open Go.RowKit
theorem yAn {w':World} {W:Wl} {v:Value} {B:Nat} {β:List (Nat×Nat)} (hh:Pb w' (Da (Eh W) β) (fun b=>b=B) (Eh W) β) (hc:Cv w' (Da (Eh W) β) (fun b=>b=B) (Eh W) β (Lo W.1) v):Fl w' B W v:=by
  obtain ⟨us,rfl,h3⟩:=hc
  obtain ⟨u0,r,rfl,g0,h3⟩:=h3.cons_inv
  obtain ⟨u1,r,rfl,g1,h3⟩:=h3.cons_inv
  obtain ⟨u2,r,rfl,g2,h3⟩:=h3.cons_inv
  obtain ⟨u3,r,rfl,g3,h3⟩:=h3.cons_inv
  obtain ⟨u4,r,rfl,g4,h3⟩:=h3.cons_inv
  obtain ⟨u5,r,rfl,g5,h3⟩:=h3.cons_inv
  obtain rfl:=h3.nil_inv
  have rd:∀{k:Nat} {t:TypeId} {τ:Ty} {xs:List (El τ)} {u:Value},(Eh W)[k]? =some (.row t τ xs)→C1 w' (Da (Eh W) β) (fun b=>b=B) (Eh W) β (.own k) u→Ri w' (fun b=>b=B∨w'.heap.size≤b) (fun _=>False) (.sl false τ xs) u:=fun {k t τ xs u} hk hc =>
    Ri.keep (w:=w') (w':=w') (fun _ _ _=>rfl) (Nat.le_refl _) (fun b hb h1 h=>h.elim h1 fun h=>by omega) (fun _ _ _ h=>h) (pU (E':=fun b=>b=B) hh hk (fun _ _ h=>h) (fun b c h1 h2=>hh.nx b ⟨k,_,c,hk,h2,h1⟩) hc)
  have g0:Ri w' _ _ (iI W.1) u0:=g0
  cases g0
  exact ⟨_,rfl,F2.cons (Ri.s _) (F2.cons (rd (k:=0) rfl g1) (F2.cons (rd (k:=1) rfl g2) (F2.cons (rd (k:=2) rfl g3) (F2.cons (rd (k:=3) rfl g4) (F2.cons (rd (k:=4) rfl g5) F2.nil)))))⟩
theorem Rw.argTX {w:World} {lo hi B:Nat} {W:Wl} {v:Value} (h:Rw w lo hi W v) (hB:B<lo∨hi≤B):Cv w (Da [] []) (fun b=>b=B) [] [] (IN W) v:=by
  obtain ⟨us,rfl,h3⟩:=h
  obtain ⟨u0,r,rfl,g0,h3⟩:=h3.cons_inv
  obtain ⟨u1,r,rfl,g1,h3⟩:=h3.cons_inv
  obtain ⟨u2,r,rfl,g2,h3⟩:=h3.cons_inv
  obtain ⟨u3,r,rfl,g3,h3⟩:=h3.cons_inv
  obtain ⟨u4,r,rfl,g4,h3⟩:=h3.cons_inv
  obtain ⟨u5,r,rfl,g5,h3⟩:=h3.cons_inv
  obtain rfl:=h3.nil_inv
  have kp:∀{τ:Ty} {xs:List (El τ)} {u:Value},Ri w (fun b=>b<lo∨hi≤b) (fun _=>False) (.sl false τ xs) u→Ri w (Da [] []) (fun b=>b=B) (.sl true τ xs) u:=fun h=>pV (fun b _ hn e=>hn (by omega)) (fun _ _ _ h=>Mo h) h
  have g0:Ri w _ _ (iI W.1) u0:=g0
  cases g0
  exact ⟨_,rfl,F2.cons (Ri.s _) (F2.cons (kp g1) (F2.cons (kp g2) (F2.cons (kp g3) (F2.cons (kp g4) (F2.cons (kp g5) F2.nil)))))⟩
noncomputable def Jk (k a:Int) (A:Wl):Wl:=lw (Kn (wd A) k a)
theorem yAo (k a:Int) (A:Wl):FW (Jk k a A):=by
  unfold Jk Kn
  split
  ·rename_i h
   exact yAl (bE (OC.1 h) k a)
  ·exact yAm
def Ku (k a:Int):PV:=.agg [.im (iI k),.im (iI a)]
theorem KN {w:World} {E X:Nat→Prop} {h:List Ca} {β:List (Nat×Nat)} (k a:Int):Cv w E X h β (Ku k a) (Ni k a):=⟨_,rfl,F2.cons (Ri.s _) (F2.cons (Ri.s _) F2.nil)⟩
theorem yAp {w:World} {E X:Nat→Prop} {h:List Ca} {β:List (Nat×Nat)} {k a:Int} {v:Value} (h:Cv w E X h β (Ku k a) v):v=Ni k a:=by
  obtain ⟨us,rfl,h3⟩:=h
  obtain ⟨x0,r,rfl,g0,h3⟩:=h3.cons_inv
  obtain ⟨x1,r,rfl,g1,h3⟩:=h3.cons_inv
  obtain rfl:=h3.nil_inv
  have g0:Ri w _ _ (iI k) x0:=g0
  have g1:Ri w _ _ (iI a) x1:=g1
  cases g0
  cases g1
  rfl
theorem yAq:R8 Tryz.prog 31:=fun w k a =>
  (Wp xR (s:=(k,a,())) (r:=(k,a,())) rfl (ds:=[Ku k a]) rfl (d:=Ku k a) (h':=[]) rfl (args:=[Ni k a]) (F2.cons (KN k a) F2.nil) (Rj _ _ _)).mono fun ex w' ⟨u,β',h1,h2,h3,h4⟩=>by
    obtain rfl:=yAp h4
    exact ⟨h1,h2.below⟩
set_option maxHeartbeats 4000000 in
theorem yAr:T8 Tryz.prog 32 FW Jk:=fun w lo hi A v k a hf ha=>by
  have h0:fN.sh (A.1,A.2.1,A.2.2.1,A.2.2.2.1,A.2.2.2.2.1,A.2.2.2.2.2,k,a,())=some (wt (Kn (wd A) k a)):=zC0 (w:=wd A) hf.1.sm k a
  exact (Wp zJX h0 (ds:=[Cl A,Ku k a]) rfl (d:=Lo (Jk k a A).1) (h':=Xc (Jk k a A)) rfl (args:=[v,Ni k a]) (F2.cons ha.arg (F2.cons (KN k a) F2.nil)) (Rj _ _ _)).mono fun ex w' ⟨u,β',h1,h2,h3,h4⟩=>⟨u,h1,X7 h2 h3 h4,h2.below⟩
set_option maxHeartbeats 4000000 in
theorem yAs:S8 Tryz.prog 30 FW Jk:=fun w lo hi A v k a hf ha=>by
  have h0:B0.sh (A.1,A.2.1,A.2.2.1,A.2.2.2.1,A.2.2.2.2.1,A.2.2.2.2.2,k,a,())=some (wt (Kn (wd A) k a)):=fO (w:=wd A) hf.1.sm k a
  exact (Wp fM h0 (ds:=[IN A,Ku k a]) rfl (d:=Lo (Jk k a A).1) (h':=Eh (Jk k a A)) rfl (args:=[v,Ni k a]) (F2.cons ha.argT (F2.cons (KN k a) F2.nil)) (Rj _ _ _)).mono fun ex w' ⟨u,β',h1,h2,h3,h4⟩=>⟨u,h1,yAj h3 h4,h2.below⟩
set_option maxHeartbeats 4000000 in
theorem yAt:U8 Tryz.prog 30 FW Jk:=fun w lo hi A v k a B hf ha hB hlt=>by
  have h0:B0.sh (A.1,A.2.1,A.2.2.1,A.2.2.2.1,A.2.2.2.2.1,A.2.2.2.2.2,k,a,())=some (wt (Kn (wd A) k a)):=fO (w:=wd A) hf.1.sm k a
  exact (pT fM h0 (ds:=[IN A,Ku k a]) rfl (d:=Lo (Jk k a A).1) (h':=Eh (Jk k a A)) rfl (X:=fun b=>b=B) (fun b h=>by omega) (args:=[v,Ni k a]) (F2.cons (ha.argTX hB) (F2.cons (KN k a) F2.nil)) (Rj _ _ _)).mono fun ex w' ⟨u,β',h1,h2,h3,h4⟩=>⟨u,h1,yAn h3 h4,h2.below⟩
end
end Go.Proofs.YtknkhdjhongklaaGreat
