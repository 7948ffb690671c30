/- Part 2 of the proof: Kb Kc. -/
import Derived.Test.YtjffopopheiinaaGreatDoorQi1
set_option linter.unusedSimpArgs false
set_option linter.unusedVariables false
set_option maxRecDepth 100000
section
namespace Go.Proofs.YtjffopopheiinaaGreatDoor
open Go.RowKit
def Fk (P:Program) (bl:Bool) (o:Oper) (st st':St):Prop:=∀C a w β,Ab C st a w β→(∀i,o.dst=some i→i<C.N)→∀K Q,(∀u w' β',Ab C st' (a.put o.dst u) w' β'→Zb w st.h β w' st'.h β'→(bl=true→Below w.heap.size w w')→K (a.put o.dst u) w')→o.wp P a w K Q
section
variable {P:Program} {st:St} {o:Oper} {tab:TypeId→Option TI} {C:Nc} {a:Act} {w w':World} {β β':List (Nat×Nat)}
theorem Sb.putL (S:Ab C st a w β) {d:Option Nat} {v:PV} {u:Value} (hd:∀i,d=some i→i<C.N) (h:Cv w (Ka st.h β) C.X st.h β v u):Ab C (st.put d v) (a.put d u) w β:=by
  have:=S.put hd h
  unfold Ab
  rw [Kf]
  exact this
theorem VT {v:PV} (hv:XB P st o v):Fk P true o st (st.put o.dst v):=fun C a w β S hd K Q' hK=>by
  obtain ⟨u,h1,h2⟩:=hv C _ a w β S
  have hr:=h2 w (Ec.refl _ _ _ _)
  unfold Oper.wp
  rw [hr]
  exact hK u w β (S.putL hd h1) (by rw [Kf];exact Zb.refl _ _ _) fun _=>Below.refl _ _
theorem Vx {h:List Fa} {E X:Nat→Prop} (hh:Xd w E X h β) (p:Nat×Nat):(β++[p])[h.length]? =some p:=by rw [List.getElem?_append_right (by rw [hh.len];exact Nat.le_refl _),hh.len,Nat.sub_self];rfl
theorem S8 (S:Ab C st a w β) {t:TypeId} {cs:List PV} {us:List Value} (hF:F2 (C1 w (Ka st.h β) C.X st.h β) cs us) (h1:∀u∈us,u.oneCell'=true) :
    Ab C ⟨st.t,st.h++[.box t cs]⟩ a (w.alloc (.cells us.toArray t)) (β++[(w.heap.size,0)])∧Zb w st.h β (w.alloc (.cells us.toArray t)) (st.h++[.box t cs]) (β++[(w.heap.size,0)])∧Below w.heap.size w (w.alloc (.cells us.toArray t)):=by
  have hb:Below w.heap.size w (w.alloc (.cells us.toArray t)):=(Below.refl _ _).alloc (Nat.le_refl _) _
  obtain ⟨h2,h3⟩:=S.new (o:=.box t cs) (B:=w.heap.size) (c:=0) hb (fun _=>Nat.le_refl _) (fun E' hE h' β' hle hβ hl=>⟨_,_,us,hl,heap_alloc_new w _,hF.mono fun v u h=>h.keep (fun b hb' _=>hb.block b hb') hb.size hE (fun _ _ _ h=>h) hle hβ,h1⟩)
  exact ⟨h2,h3,hb⟩
theorem T8 (S:Ab C st a w β) {t:TypeId} {τ:Ty} {xs:List (El τ)} {us:List Value} {n:Nat} (hn:xs.length=n) (hF:F2 (Ri w (Ka st.h β) C.X) (Mb τ xs) us) (h1:∀u∈us,u.oneCell'=true) (hm:n≤maxLen) :
    Ab C ⟨st.t,st.h++[.row t τ xs]⟩ a (w.alloc (.cells us.toArray t)) (β++[(w.heap.size,n)])∧Zb w st.h β (w.alloc (.cells us.toArray t)) (st.h++[.row t τ xs]) (β++[(w.heap.size,n)])∧Below w.heap.size w (w.alloc (.cells us.toArray t)):=by
  have hb:Below w.heap.size w (w.alloc (.cells us.toArray t)):=(Below.refl _ _).alloc (Nat.le_refl _) _
  obtain ⟨h2,h3⟩:=S.new (o:=.row t τ xs) (B:=w.heap.size) (c:=n) hb (fun _=>Nat.le_refl _) (fun E' hE h' β' hle hβ hl=>⟨_,_,hl,fun h0=>List.length_eq_zero_iff.1 (hn.trans h0),hm,fun _=>⟨us,[],by rw [List.append_nil];exact heap_alloc_new w _,hF.mono fun v u h=>h.keep (fun b hb' _=>hb.block b hb') hb.size hE (fun _ _ _ h=>h),h1,by rw [List.append_nil,hF.1,Pd,hn]⟩⟩)
  exact ⟨h2,h3,hb⟩
theorem nG {t:TypeId} {x:Operand} {v:PV} (ho:o.op=.box t x) (hx:Eb st.t x=some v) (hv:(Rb v).all Ue=true):Fk P true o st (St.put ⟨st.t,st.h++[.box t (Rb v)]⟩ o.dst (.ptr st.h.length 0)):=fun C a w β S hd K Q' hK=>by
  obtain ⟨us,h1,h2,h3⟩:=BC (S.op hx) hv
  obtain ⟨S1,hs,hb⟩:=S8 S (t:=t) h2 h3
  have hr:(execOp a.eval o).run P w=.ok (.value (.pointer (some ⟨w.heap.size,0,none⟩))) (w.alloc (.cells us.toArray t)):=by simp [execOp,ho,Instr.box,newVar,newRow,h1]
  unfold Oper.wp
  rw [hr]
  exact hK _ _ _ (S1.putL hd (v:=.ptr st.h.length 0) ⟨_,_,Vx S.heap _,rfl⟩) (by rw [Kf];exact hs) fun _=>hb
theorem nH (H:Wb P tab) {t:TypeId} {i:TI} {zs:List Value} (ho:o.op=.alloc t) (hi:tab t=some i) (hz:i.zero=some zs):Fk P true o st (St.put ⟨st.t,st.h++[.box t (zs.map Pm)]⟩ o.dst (.ptr st.h.length 0)):=fun C a w β S hd K Q' hK=>by
  obtain ⟨z,hz1,hzs,h1⟩:=(H t i hi).zero zs hz
  obtain ⟨S1,hs,hb⟩:=S8 S (t:=t) (cs:=zs.map Pm) (us:=zs) G8 h1
  have hr:(execOp a.eval o).run P w=.ok (.value (.pointer (some ⟨w.heap.size,0,none⟩))) (w.alloc (.cells zs.toArray t)):=by
    have e:z.cells=zs.toArray:=by rw [←hzs]
    simp [execOp,ho,Instr.alloc,newVar,newRow,hz1,e]
  unfold Oper.wp
  rw [hr]
  exact hK _ _ _ (S1.putL hd (v:=.ptr st.h.length 0) ⟨_,_,Vx S.heap _,rfl⟩) (by rw [Kf];exact hs) fun _=>hb
theorem U8 (H:Wb P tab) {t t':TypeId} {i:TI} {k p:Nat} {x y:Operand} {v:PV} {cs:List PV} (ho:o.op=.store t x y) (hi:tab t=some i) (hx:Eb st.t x=some (.ptr k p)) (hy:Eb st.t y=some v) (hv:(Rb v).all Ue=true) (hl:(Rb v).length=i.size)
    (hk:st.h[k]? =some (.box t' cs)) (hin:p+i.size≤cs.length) (hdst:o.dst=none):∀C a w β,Ab C st a w β→∀(K:Act→World→Prop) (Q':Exit→Act→World→Prop),(∀u w' β',Ab C ⟨st.t,st.h.set k (.box t' (wr cs p (Rb v)))⟩ (a.put o.dst u) w' β'→Zb w st.h β w' (st.h.set k (.box t' (wr cs p (Rb v)))) β'→(∀b,b<w.heap.size→(∀c,β[k]?≠some (b,c))→w'.heap[b]? =w.heap[b]?)→K (a.put o.dst u) w')→o.wp P a w K Q':=fun C a w β S K Q' hK=>by
  have T:=H t i hi
  obtain ⟨vs,h1,h2,h3⟩:=BC (S.op hy) hv
  obtain ⟨b,c,hb,ex⟩:=S.op hx
  obtain ⟨b',c',us,hb',hh,hr,h4⟩:=S.heap.ok k _ hk
  rw [hb] at hb'
  injection hb' with e
  injection e with e1 e2
  subst e1 e2
  have hvl:vs.length=i.size:=by rw [h2.1,hl]
  have hul:=hr.1
  have hst:=run_storeCells_at (P:=P) b p t' vs 0 us.toArray w hh (by simp;omega) h3
  simp only [Nat.add_zero] at hst
  have hrun:(execOp a.eval o).run P w=.ok .skip (w.setRow b (us.take p++vs++us.drop (p+vs.length)).toArray):=by
    simp [execOp,ho,ex,Instr.storeAt,Instr.sureAddr,storeVar,h1,T.sz,hvl,hst]
  have hbl:b<w.heap.size:=(Array.getElem?_eq_some_iff.1 hh).1
  obtain ⟨S1,hs⟩:=S.turn (w':=w.setRow b (us.take p++vs++us.drop (p+vs.length)).toArray) (o':=.box t' (wr cs p (Rb v))) hk hb trivial (fun _ _=>trivial) (fun _ _ _ e=>by cases e) (fun _ _ e=>by cases e) rfl rfl rfl (by simp [World.setRow]) (fun i _ hne=>setRow_other w b i _ hne)
    (fun E' hE h' hle=>⟨b,c,_,hb,setRow_heap w b _ _ _ _ hh,(hr.wr h2 p).mono fun v u h=>h.keep (fun i hi hn=>setRow_other w b i _ (by rintro rfl;exact hn ⟨k,_,c,hk,trivial,hb⟩)) (by simp [World.setRow]) hE (fun _ _ _ h=>h) hle (fun _ _ h=>h),fun u hu=>by
      simp only [List.mem_append] at hu
      rcases hu with (hu|hu)|hu
      ·exact h4 u (List.mem_of_mem_take hu)
      ·exact h3 u hu
      ·exact h4 u (List.mem_of_mem_drop hu)⟩)
  unfold Oper.wp
  rw [hrun]
  have hput:∀u,a.put o.dst u=a:=fun u=>by rw [hdst];rfl
  have:=hK undef _ _ (by rw [hput];exact S1) hs (fun i hi hne=>setRow_other w b i _ (by rintro rfl;exact hne c hb))
  exact this
theorem nJ (H:Wb P tab) {t t':TypeId} {i:TI} {k p:Nat} {x y:Operand} {v:PV} {cs:List PV} (ho:o.op=.store t x y) (hi:tab t=some i) (hx:Eb st.t x=some (.ptr k p)) (hy:Eb st.t y=some v) (hv:(Rb v).all Ue=true) (hl:(Rb v).length=i.size)
    (hk:st.h[k]? =some (.box t' cs)) (hin:p+i.size≤cs.length) (hdst:o.dst=none):Fk P false o st ⟨st.t,st.h.set k (.box t' (wr cs p (Rb v)))⟩:=fun C a w β S hd K Q' hK =>
  U8 H ho hi hx hy hv hl hk hin hdst C a w β S K Q' fun u w' β' h1 h2 _=>hK u w' β' h1 h2 fun h=>by cases h
theorem nK {α:Type} (us vs:List α) (q s p:Nat) (hp:p+vs.length≤s):us.take q++(((us.drop q).take s).take p++vs++((us.drop q).take s).drop (p+vs.length))++us.drop (q+s)=us.take (q+p)++vs++us.drop (q+p+vs.length):=by
  have h1:((us.drop q).take s).take p=(us.drop q).take p:=by rw [List.take_take,Nat.min_eq_left (by omega)]
  have h2:us.take (q+p)=us.take q++(us.drop q).take p:=List.take_add ..
  have h3:((us.drop q).take s).drop (p+vs.length)++us.drop (q+s)=us.drop (q+p+vs.length):=by
    rw [List.drop_take,List.drop_drop,←Nat.add_assoc]
    have:us.drop (q+s)=(us.drop (q+p+vs.length)).drop (s-(p+vs.length)):=by rw [List.drop_drop];congr 1;omega
    rw [this,List.take_append_drop]
  rw [h1,h2,←h3]
  simp only [List.append_assoc]
theorem nL (τ:Ty) (xs:List (El τ)) (i:Nat) (y:El τ) (hi:i<xs.length):Mb τ (xs.set i y)=wr (Mb τ xs) (i*sz τ) (cells τ y):=by
  have hz:=Ij τ
  refine List.ext_getElem? fun j=>?_
  have key:∀(zs:List (El τ)) (q r:Nat),r<sz τ→(Mb τ zs)[q*sz τ+r]? =(zs[q]?).bind fun z=>(cells τ z)[r]? :=fun zs q r hr=>by
    cases hq:zs[q]? with
    |none =>
     have:zs.length≤q:=List.getElem?_eq_none_iff.1 hq
     rw [List.getElem?_eq_none]
     ·rfl
     ·rw [Pd]
      have:=Nat.mul_le_mul_right (sz τ) this
      omega
    |some z =>
     have h1:=WB τ zs q z hq
     have h2:(((Mb τ zs).drop (q*sz τ)).take (sz τ))[r]? =(cells τ z)[r]? :=by rw [h1]
     rw [List.getElem?_take,if_pos hr,List.getElem?_drop] at h2
     exact h2
  have hj:j=j / sz τ*sz τ+j % sz τ:=by rw [Nat.mul_comm];exact (Nat.div_add_mod j (sz τ)).symm
  have hm:=Nat.mod_lt j hz
  have hlen:(Mb τ xs).length=xs.length*sz τ:=Pd τ xs
  have hile:i*sz τ+sz τ≤xs.length*sz τ:=by rw [←Nat.succ_mul];exact Nat.mul_le_mul_right _ hi
  rw [hj,key _ _ _ hm,List.getElem?_set]
  generalize j / sz τ=q at *
  generalize j % sz τ=r at *
  unfold wr
  rw [Oo]
  have ht:((Mb τ xs).take (i*sz τ)).length=i*sz τ:=by rw [List.length_take];omega
  by_cases e:i=q
  ·subst e
   rw [if_pos rfl,if_pos hi,Option.bind_some]
   rw [List.getElem?_append_left (by rw [List.length_append,ht,Oo];omega),List.getElem?_append_right (by rw [ht];omega),ht]
   congr 1;omega
  ·rw [if_neg e]
   rw [←key xs q r hm]
   rcases Nat.lt_or_ge q i with hlt|hge
   ·have:q*sz τ+sz τ≤i*sz τ:=by rw [←Nat.succ_mul];exact Nat.mul_le_mul_right _ hlt
    rw [List.getElem?_append_left (by rw [List.length_append,ht];omega),List.getElem?_append_left (by rw [ht];omega),List.getElem?_take,if_pos (by omega)]
   ·have:i*sz τ+sz τ≤q*sz τ:=by rw [←Nat.succ_mul];exact Nat.mul_le_mul_right _ (by omega)
    rw [List.getElem?_append_right (by rw [List.length_append,ht,Oo];omega),List.length_append,ht,Oo,List.getElem?_drop]
    congr 1;omega
theorem nM (H:Wb P tab) {t t':TypeId} {i:TI} {k j z p:Nat} {x y:Operand} {v:PV} {τ:Ty} {xs:List (El τ)} {e:El τ} (ho:o.op=.store t x y) (hi:tab t=some i) (hx:Eb st.t x=some (.ept k j z p)) (hy:Eb st.t y=some v) (hv:(Rb v).all Ue=true) (hl:(Rb v).length=i.size)
    (hin:p+i.size≤sz τ) (hdst:o.dst=none)
    (hk1:(De (Rb v) st (Rb v)).1.h[k]? =some (.row t' τ xs)) (hdec:FC τ (wr (Bq (cells τ (Aa τ xs j))) p (De (Rb v) st (Rb v)).2)=some e):Fk P false o st ⟨(De (Rb v) st (Rb v)).1.t,(De (Rb v) st (Rb v)).1.h.set k (.row t' τ (xs.set j e))⟩:=fun C a w β S0 hd K Q' hK=>by
  have T:=H t i hi
  obtain ⟨vs,h1,h2,h3⟩:=BC (S0.op hy) hv
  obtain ⟨hk0,hkv,b,c,hb,ex,hrow⟩:=S0.op hx
  have hvl:vs.length=i.size:=by rw [h2.1,hl]
  obtain ⟨S,h2,hs0⟩:=Ek (Rb v) S0 (Rb v) h2
  generalize De (Rb v) st (Rb v)=fz at *
  obtain ⟨st1,cs1⟩:=fz
  simp only at *
  obtain ⟨xs0,hk,hlen0⟩:=(hs0.hle.2.1 k t' τ xs hk0 hk1).resolve_right (by rw [hkv];simp)
  obtain ⟨rfl,hj⟩:=hrow t' τ xs0 hk
  rw [hlen0] at hj
  obtain ⟨b',c',hb',hc0,hcm,hh⟩:=S.heap.ok k _ hk1
  rw [hb] at hb'
  injection hb' with e1
  injection e1 with e1 e2
  subst e1 e2
  have hc:0<c:=by
    rcases Nat.eq_zero_or_pos c with e|e
    ·rw [hc0 e] at hj;simp at hj
    ·exact e
  obtain ⟨us,junk,hh,hr,h4,h5⟩:=hh hc
  have hul:=hr.1
  rw [Pd] at hul
  have hjz:j*sz τ+sz τ≤xs.length*sz τ:=by rw [←Nat.succ_mul];exact Nat.mul_le_mul_right _ hj
  have hF1:=hr.part (j*sz τ) (sz τ)
  rw [WB τ xs j _ (Qx τ xs j hj)] at hF1
  have hF2:=P8 hdec ((FT hF1).wr h2 p)
  have hF3:=hr.wr hF2 (j*sz τ)
  rw [←nL τ xs j e hj] at hF3
  have hl2:(((us.drop (j*sz τ)).take (sz τ)).take p++vs++((us.drop (j*sz τ)).take (sz τ)).drop (p+vs.length)).length=sz τ:=by rw [hF2.1,Oo]
  rw [hl2,nK us vs (j*sz τ) (sz τ) p (by omega)] at hF3
  have hst:=run_storeCells_at (P:=P) b (j*sz τ+p) t' vs 0 (us++junk).toArray w hh (by simp;omega) h3
  have htk:((us++junk).take (j*sz τ+p)++vs++(us++junk).drop (j*sz τ+p+vs.length))=(us.take (j*sz τ+p)++vs++us.drop (j*sz τ+p+vs.length))++junk:=by
    rw [List.take_append_of_le_length (by omega),List.drop_append_of_le_length (by omega)]
    simp
  simp only [Nat.add_zero] at hst
  rw [htk] at hst
  generalize hN:us.take (j*sz τ+p)++vs++us.drop (j*sz τ+p+vs.length)=nu at *
  have hrun:(execOp a.eval o).run P w=.ok .skip (w.setRow b (nu++junk).toArray):=by
    simp [execOp,ho,ex,Instr.storeAt,Instr.sureAddr,storeVar,h1,T.sz,hvl,hst]
  obtain ⟨S1,hs⟩:=S.turn (w':=w.setRow b (nu++junk).toArray) (o':=.row t' τ (xs.set j e)) hk1 hb hc (fun _ h=>h) (fun _ _ _ e=>by cases e;exact ⟨_,rfl,by simp⟩) (fun _ _ e=>by cases e) rfl rfl rfl (by simp [World.setRow]) (fun i _ hne=>setRow_other w b i _ hne)
    (fun E' hE h' hle=>⟨b,c,hb,fun h0=>by omega,hcm,fun _=>⟨nu,junk,setRow_heap w b _ _ _ _ hh,hF3.mono fun v u h=>h.keep (fun i hi hn=>setRow_other w b i _ (by rintro rfl;exact hn ⟨k,_,c,hk1,hc,hb⟩)) (by simp [World.setRow]) hE (fun _ _ _ h=>h),fun u hu=>by
      rw [←hN] at hu
      simp only [List.mem_append] at hu
      rcases hu with (hu|hu)|hu
      ·exact h4 u (List.mem_of_mem_take hu)
      ·exact h3 u hu
      ·exact h4 u (List.mem_of_mem_drop hu),by rw [List.length_append,←h5,List.length_append,hF3.1,Pd,List.length_set,hul]⟩⟩)
  unfold Oper.wp
  rw [hrun]
  have hput:∀u,a.put o.dst u=a:=fun u=>by rw [hdst];rfl
  have:=hK undef _ _ (by rw [hput];exact S1) (hs0.trans hs) (fun h=>by cases h)
  exact this
end
end Go.Proofs.YtjffopopheiinaaGreatDoor
namespace Go.Proofs.YtjffopopheiinaaGreatDoor
open Go.RowKit
section
variable {P:Program} {st:St} {o:Oper} {tab:TypeId→Option TI} {C:Nc} {a:Act} {w w':World} {β β':List (Nat×Nat)}
theorem V8 {t ty e:TypeId} {size:Nat} (hu:∀w:World,(underlying t).run P w=.ok (.slice e) w) (hs:∀w:World,(sizeOf e).run P w=.ok size w) (B A:Option Addr) (n c c':Nat) (hn:n≤c) (w:World) :
    (Builtin.append_ #[t,t] ty #[.slice B n c,.slice A 0 c']).run P w=.ok (.slice B n c) w:=by
  cases A<;>cases B<;>simp [Builtin.append_,hu,hs,Builtin.lenOf,Builtin.firstCells,hn,loadCells,storeCells,go_sem]
theorem nN {t ty e:TypeId} {inf:TypeInfo} {size:Nat} (hu:∀w:World,(underlying t).run P w=.ok (.slice e) w) (hs:∀w:World,(sizeOf e).run P w=.ok size w) (hi:P.info? e=some inf) (b:Addr) (A:Option Addr) (m c':Nat) (h0:0<m) (hb:m*inf.bytes≤2 ^ 48) (w:World) :
    (Builtin.append_ #[t,t] ty #[.slice (some b) 0 0,.slice A m c']).run P w=(Builtin.append_ #[t,t] ty #[.slice none 0 0,.slice A m c']).run P w:=by
  have h1:¬m=0:=by omega
  have h4:Builtin.nextslicecap m 0=m:=by simp [Builtin.nextslicecap,h0]
  have h3:¬(281474976710656<m*inf.bytes):=by omega
  simp [Builtin.append_,hu,hs,Builtin.lenOf,Builtin.firstCells,h1,h3,h4,loadCells,typeInfo,hi,go_sem]
theorem nO (τ:Ty) (x:El τ):(Bq (cells τ x)).all Ue=true:=by cases τ<;>rfl
theorem Kl {E X:Nat→Prop} {τ:Ty} {xs:List (El τ)} {us:List Value} (hF:F2 (Ri w E X) (Mb τ xs) us):∀u∈us,u.oneCell'=true:=fun u hu=>by
  obtain ⟨i,hi⟩:=List.getElem?_of_mem hu
  have hl:i<(Mb τ xs).length:=by rw [←hF.1];exact (List.getElem?_eq_some_iff.1 hi).1
  have hx:=List.getElem?_eq_getElem hl
  have hR:=hF.2 i _ u hx hi
  have hm:=List.mem_of_getElem? hx
  generalize (Mb τ xs)[i]=x at *
  unfold Mb at hm
  obtain ⟨y,_,hy⟩:=List.mem_flatMap.1 hm
  have:=List.all_eq_true.1 (nO τ y) (.im x) (List.mem_map.2 ⟨x,hy,rfl⟩)
  exact C1.one (h:=[]) (β:=[]) (v:=.im x) hR this
def Iq (τ:Ty) (h:List Fa):PV→Option (List (El τ))
  | .own j=>match h[j]? with
    |some (.row _ σ ys)=>Ci σ τ ys
    |_=>none
  | .im (.sl _ σ ys)=>Ci σ τ ys
  | .im .nil=>some []
  |_=>none
def ML (w:World) (E X:Nat→Prop) (τ:Ty) (ys:List (El τ)) (u:Value):Prop:=∃A c,u=.slice A ys.length c∧(0<ys.length→∃b p news,A=some ⟨b,p,none⟩∧(∀(j:Nat) v,news[j]? =some v→w.cell? ⟨b,p+j,none⟩=some v)∧F2 (Ri w E X) (Mb τ ys) news)
theorem W8 {E X:Nat→Prop} {h:List Fa} (hh:Xd w E X h β) {τ:Ty} {v:PV} {ys:List (El τ)} {u:Value} (hs:Iq τ h v=some ys) (hc:Cv w E X h β v u):ML w E X τ ys u:=by
  unfold Iq at hs
  split at hs
  ·rename_i j
   split at hs
   ·rename_i t σ zs hj
    obtain ⟨e,he⟩:=Gq hs
    subst e
    subst he
    obtain ⟨_,_,_,h2⟩:=hc
    obtain ⟨b,c,A,h3,rfl,h5,h6⟩:=h2 _ _ _ hj
    refine ⟨A,c,rfl,fun hp=>?_⟩
    obtain ⟨b',c',h7,h8,h9,h10⟩:=hh.ok j _ hj
    rw [h3] at h7
    injection h7 with h7;injection h7 with e1 e2
    subst e1 e2
    have hc:0<c:=by
      rcases Nat.eq_zero_or_pos c with e|e
      ·have:=h8 e
       rw [this] at hp;simp at hp
      ·exact e
    obtain ⟨us,junk,q1,q2,q3,q4⟩:=h10 hc
    exact ⟨b,0,us,h5 hc,fun j v hv=>by rw [Nat.zero_add];exact Fq q1 hv,q2⟩
   ·cases hs
  ·obtain ⟨e,he⟩:=Gq hs
   subst e
   subst he
   cases hc with
   |sl _ _ _ A cap b p us hA hcap hl hcc hr=>exact ⟨A,cap,rfl,fun hp=>⟨b,p,us,(hA hp).1,hcc,hl,hr⟩⟩
  ·injection hs with hs
   subst hs
   cases hc with
   |nil A=>exact ⟨A,0,rfl,fun hp=>by simp at hp⟩
  ·cases hs
theorem NL {w:World} {base e size n:Nat} {v:Value} {us:List Value} (h:w.ownsRow base e size v n us) (hv:v≠.slice none 0 0):∃g c junk,v=.slice (some ⟨g,0,none⟩) n c∧w.heap[g]? =some (.cells (us++junk).toArray e (0,0))∧(us++junk).length=c*size∧c≤maxLen∧n≤c:=by
  rcases h.2 with ⟨h1,_⟩|⟨g,c,cur,h1,h2,h3,h4,h5,h6,h7⟩
  ·exact absurd h1 hv
  ·have e:us++cur.toList.drop (n*size)=cur.toList:=by rw [←h7,List.take_append_drop]
   exact ⟨g,c,cur.toList.drop (n*size),h1,by rw [e];simpa using h3,by rw [e];simpa using h6,h5,h4⟩
theorem WT {t e ty:TypeId} {i:TI} (T:Qb P t i) {τ σ:Ty} {bytes:Nat} (he:i.elem=some (e,σ,bytes)) (hsz:sz τ=sz σ) {A0:Option Addr} {ys:List (El τ)} {u:Value} (hx:ML w (Ka st.h β) C.X τ ys u) (hp:0<ys.length) (hb:ys.length≤33554432):∃g c2 junk news w',(Builtin.append_ #[t,t] ty #[.slice A0 0 0,u]).run P w=.ok (.slice (some ⟨g,0,none⟩) ys.length c2) w'∧w.heap.size≤g∧0<c2∧c2≤maxLen∧w'.heap[g]? =some (.cells (news++junk).toArray e (0,0))∧F2 (Ri w (Ka st.h β) C.X) (Mb τ ys) news∧(news++junk).length=c2*sz τ∧Below w.heap.size w w':=by
  obtain ⟨hund,⟨inf,z,g2,g3,g4,g5,g6⟩,hsm⟩:=T.el e σ bytes he
  obtain ⟨Ax,cx,rfl,hx⟩:=hx
  obtain ⟨bx,px,news,rfl,hcx,hrx⟩:=hx hp
  have h1x:=Kl hrx
  have hbytes:(0+ys.length)*bytes≤140737488355328:=by
    have:=Nat.mul_le_mul hb hsm
    rw [Nat.zero_add]
    omega
  have hnl:news.length=ys.length*sz σ:=by rw [hrx.1,Pd,hsz]
  obtain ⟨v',w',hrun,hown',hgr,hnil,hor⟩:=run_append_own_at (P:=P) (w:=w) 0 t ty e inf z (sz σ) bytes hund g2 g3 g4 g5 g6 (Ij σ) _ 0 [] (World.ownsRow_nil w 0 e (sz σ)) ⟨bx,px,none⟩ ys.length cx news hnl (fun j u hu=>by rw [Hl];exact hcx j u hu) h1x (by unfold maxLen;omega) hbytes (Nat.zero_le _)
  obtain ⟨g,c2,junk,rfl,hh,hl,hmx,hle⟩:=NL hown' (fun e=>by have:=(hnil.1 e).2;omega)
  rw [List.nil_append] at hh hl
  simp only [Nat.zero_add] at *
  have hg:w.heap.size≤g:=by
    rcases hor with e|e
    ·simp [Value.ownBlock] at e
    ·simp [Value.ownBlock] at e;omega
  refine ⟨g,c2,junk,news,w',?_,hg,by omega,hmx,hh,hrx,by rw [hl,hsz],lV hgr⟩
  cases A0 with
  |none=>exact hrun
  |some b0 =>
   rw [nN (size:=sz σ) (fun w=>Jj T he w) (fun w=>Bk T he w) g2 b0 _ _ _ hp (by rw [g5];have:=Nat.mul_le_mul hb hsm;omega)]
   exact hrun
theorem X8 (H:Wb P tab) {t e:TypeId} {i:TI} {k:Nat} {s x:Operand} {τ σ:Ty} {bytes:Nat} {v:PV} {xs ys:List (El τ)} (ho:o.op=.call { callee:=.builtin .append,args:= #[s,x],argTypes:= #[t,t] }) (hi:tab t=some i) (he:i.elem=some (e,σ,bytes)) (hsz:sz τ=sz σ)
    (hs:Eb st.t s=some (.own k)) (hk:st.h[k]? =some (.row e τ xs)) (hx:Eb st.t x=some v) (hv:Iq τ st.h v=some ys) (hb:xs.length+ys.length≤33554432):∀C a w β,Ab C st a w β→(∀i,o.dst=some i→i<C.N)→∀(K:Act→World→Prop) (Q:Exit→Act→World→Prop),(∀u w' β',Ab C (St.put ⟨st.t,st.h.set k .dead++[.row e τ (xs++ys)]⟩ o.dst (.own st.h.length)) (a.put o.dst u) w' β'→Zb w st.h β w' (St.put ⟨st.t,st.h.set k .dead++[.row e τ (xs++ys)]⟩ o.dst (.own st.h.length)).h β'→(∀b,b<w.heap.size→(∀c,0<c→β[k]?≠some (b,c))→w'.heap[b]? =w.heap[b]?)→K (a.put o.dst u) w')→o.wp P a w K Q:=fun C a w β S hd KK Q' hKK=>by
  have T:=H t i hi
  obtain ⟨hund,⟨inf,z,g2,g3,g4,g5,g6⟩,hsm⟩:=T.el e σ bytes he
  obtain ⟨_,_,_,hop⟩:=S.op hs
  obtain ⟨b,c,A,hb1,es,hA,hA0⟩:=hop _ _ _ hk
  obtain ⟨b',c',hb1',hc0,hcm,hrow⟩:=S.heap.ok k _ hk
  rw [hb1] at hb1'
  injection hb1' with q
  injection q with e1 e2
  subst e1 e2
  have hsrc:=W8 S.heap hv (S.op hx)
  have hlen:xs.length≤c:=by
    rcases Nat.eq_zero_or_pos c with e|e
    ·rw [hc0 e];exact Nat.zero_le _
    ·obtain ⟨us,junk,h1,h2,h3,h4⟩:=hrow e
     have:xs.length*sz τ≤c*sz τ:=by rw [←h4,←Pd,←h2.1];simp
     exact Nat.le_of_mul_le_mul_right this (Ij τ)
  have Hd:∀(g c2:Nat) (A':Option Addr) (w':World),(Builtin.append_ #[t,t] o.type #[a.eval s,a.eval x]).run P w=.ok (.slice A' (xs++ys).length c2) w'→(0<c2→A'=some ⟨g,0,none⟩)→(c2=0→ZK w' (Ka (st.h.set k .dead++[.row e τ (xs++ys)]) (β++[(g,c2)])) C.X e A')→(∀b,b<w.heap.size→(∀c,0<c→β[k]?≠some (b,c))→w'.heap[b]? =w.heap[b]?) →
      (Ab C ⟨st.t,st.h.set k .dead++[.row e τ (xs++ys)]⟩ a w' (β++[(g,c2)])∧Zb w st.h β w' (st.h.set k .dead++[.row e τ (xs++ys)]) (β++[(g,c2)]))→o.wp P a w KK Q':=fun g c2 A' w' hrun h1 h2 hot ⟨S1,hst⟩=>by
    have hrun2:(execOp a.eval o).run P w=.ok (.value (.slice A' (xs++ys).length c2)) w':=by
      simp only [execOp,ho,resolve,invoke,builtin,Sem.run_bind,Sem.run_pure,Result.andThen_ok,List.map_toArray,List.map_cons,List.map_nil,hrun]
    have hlast:(st.h.set k .dead++[Fa.row e τ (xs++ys)])[st.h.length]? =some (.row e τ (xs++ys)):=by
      rw [List.getElem?_append_right (by simp),List.length_set,Nat.sub_self];rfl
    unfold Oper.wp
    rw [hrun2]
    refine hKK _ _ _ (S1.putL hd (v:=.own st.h.length) ⟨by simp,by simp [Cc],⟨_,_,_,rfl⟩,fun t' τ' zs hz=>?_⟩) (by rw [Kf];exact hst) hot
    have hz:(st.h.set k .dead++[Fa.row e τ (xs++ys)])[st.h.length]? =some (.row t' τ' zs):=hz
    rw [hlast] at hz
    injection hz with hz
    cases hz
    exact ⟨g,c2,A',Vx S.heap _,rfl,h1,h2⟩
  rcases Nat.eq_zero_or_pos ys.length with h0|hp
  · -- nothing comes
   have hy:ys=[]:=List.length_eq_zero_iff.1 h0
   subst hy
   obtain ⟨Ax,cx,ex,_⟩:=hsrc
   have hnn:xs++[]=xs:=List.append_nil xs
   have hr:=V8 (P:=P) (ty:=o.type) (fun w=>Jj T he w) (fun w=>Bk T he w) A Ax _ _ cx hlen w
   rcases Nat.eq_zero_or_pos c with hc|hc
   ·subst hc
    refine Hd w.heap.size 0 A w (by rw [es,ex,hnn];exact hr) (fun h=>by omega) (fun _=>trivial) (fun _ _ _=>rfl) (S.app (w':=w) (o':=.row e τ (xs++[])) hk hb1 rfl rfl rfl (Nat.le_refl _) (fun _ _=>.inr rfl) (.inr (Nat.le_refl _)) (fun E' hE h' β' hle hβ hl=>⟨_,0,hl,fun _=>by rw [hc0 rfl];rfl,hcm,fun h=>by omega⟩))
   ·refine Hd b c A w (by rw [es,ex,hnn];exact hr) hA (fun h=>by omega) (fun _ _ _=>rfl) (S.app (w':=w) (o':=.row e τ (xs++[])) hk hb1 rfl rfl rfl (Nat.le_refl _) (fun _ _=>.inr rfl) (.inl ⟨hc,rfl⟩) (fun E' hE h' β' hle hβ hl=>⟨b,c,hl,fun h=>by omega,hcm,fun _=>?_⟩))
    obtain ⟨us,junk,h1,h2,h3,h4⟩:=hrow hc
    exact ⟨us,junk,h1,by rw [hnn];exact h2.mono fun v u h=>h.keep (fun _ _ _=>rfl) (Nat.le_refl _) hE (fun _ _ _ h=>h),h3,h4⟩
  ·rcases Nat.eq_zero_or_pos c with hc|hc
   · -- there was no room
    subst hc
    have hx0:=hc0 rfl
    subst hx0
    obtain ⟨g,c2,junk,news,w',hrun,hg,hcp,hcm2,hh,hF,hl,hbw⟩:=WT T he hsz (A0:=A) (ty:=o.type) hsrc hp (by simpa using hb)
    refine Hd g c2 _ w' (by rw [es];exact hrun) (fun _=>rfl) (fun h=>by omega) (fun i hi _=>hbw.block i hi) (S.app (w':=w') (o':=.row e τ ([]++ys)) hk hb1 hbw.os hbw.tape hbw.output hbw.size (fun i hi=>.inr (hbw.block i hi)) (.inr hg) (fun E' hE h' β' hle hβ hl'=>⟨g,c2,hl',fun h=>by omega,hcm2,fun _=>⟨news,junk,hh,hF.mono fun v u h=>h.keep (fun i hi _=>hbw.block i hi) hbw.size hE (fun _ _ _ h=>h),Kl hF,hl⟩⟩))
   ·obtain ⟨us,junk,q1,q2,q3,q4⟩:=hrow hc
    obtain ⟨Ax,cx,ex,hx⟩:=hsrc
    obtain ⟨bx,px,news,rfl,hcx,hrx⟩:=hx hp
    have h1x:=Kl hrx
    have hbytes:(xs.length+ys.length)*bytes≤140737488355328:=by
      have:=Nat.mul_le_mul hb hsm
      omega
    have hAA:=hA hc
    subst hAA
    have hown:w.ownsRow 0 e (sz σ) (.slice (some ⟨b,0,none⟩) xs.length c) xs.length us:=⟨by rw [q2.1,Pd,hsz],.inr ⟨b,c,(us++junk).toArray,rfl,Nat.zero_le _,q1,hlen,hcm,by rw [←hsz];simpa using q4,by rw [←hsz,←Pd,←q2.1];simp⟩⟩
    obtain ⟨v',w',hrun,hown',hgr,hnil,hor⟩:=run_append_own_at (P:=P) (w:=w) 0 t o.type e inf z (sz σ) bytes hund g2 g3 g4 g5 g6 (Ij σ) _ xs.length us hown ⟨bx,px,none⟩ ys.length cx news (by rw [hrx.1,Pd,hsz]) (fun j u hu=>by rw [Hl];exact hcx j u hu) h1x (by unfold maxLen;omega) hbytes (Nat.zero_le _)
    obtain ⟨g,c2,junk2,rfl,hh,hl,hmx,hle2⟩:=NL hown' (fun e=>by have:=(hnil.1 e).1;cases this)
    have hg:g=b∨w.heap.size≤g:=by
      rcases hor with e|e
      ·simp [Value.ownBlock] at e;exact .inl e
      ·simp [Value.ownBlock] at e;exact .inr (by omega)
    have hoth:∀i,i<w.heap.size→i≠b→w'.heap[i]? =w.heap[i]? :=fun i hi hne=>hgr.block i hi (by simpa [Value.ownBlock] using hne)
    have hF:F2 (Ri w (Ka st.h β) C.X) (Mb τ (xs++ys)) (us++news):=by rw [Aq];exact q2.app hrx
    have hlb:Ka st.h β b:=⟨k,_,c,hk,hc,hb1⟩
    have hlen2:(xs++ys).length=xs.length+ys.length:=List.length_append
    refine Hd g c2 _ w' (by rw [es,ex,hlen2];exact hrun) (fun _=>rfl) (fun h=>by omega) (fun i hi hn=>hoth i hi (by rintro rfl;exact hn c hc hb1)) (S.app (w':=w') (o':=.row e τ (xs++ys)) hk hb1 hgr.os hgr.tape hgr.output hgr.size (fun i hi=>by
      by_cases hib:i=b
      ·exact .inl ⟨hib,hc⟩
      ·exact .inr (hoth i hi hib)) (hg.imp (fun h=>⟨hc,h⟩) id) (fun E' hE h' β' hle hβ hl'=>⟨g,c2,hl',fun h=>by omega,hmx,fun _=>⟨us++news,junk2,hh,hF.mono fun v u h=>h.keep (fun i hi hn=>hoth i hi (by rintro rfl;exact hn hlb)) hgr.size hE (fun _ _ _ h=>h),Kl hF,by rw [hl,hsz]⟩⟩))
theorem nP (H:Wb P tab) {t e:TypeId} {i:TI} {k:Nat} {s x:Operand} {τ σ:Ty} {bytes:Nat} {v:PV} {xs ys:List (El τ)} (ho:o.op=.call { callee:=.builtin .append,args:= #[s,x],argTypes:= #[t,t] }) (hi:tab t=some i) (he:i.elem=some (e,σ,bytes)) (hsz:sz τ=sz σ)
    (hs:Eb st.t s=some (.own k)) (hk:st.h[k]? =some (.row e τ xs)) (hx:Eb st.t x=some v) (hv:Iq τ st.h v=some ys) (hb:xs.length+ys.length≤33554432):Fk P false o st (St.put ⟨st.t,st.h.set k .dead++[.row e τ (xs++ys)]⟩ o.dst (.own st.h.length)):=fun C a w β S hd K Q' hK =>
  X8 H ho hi he hsz hs hk hx hv hb C a w β S hd K Q' fun u w' β' h1 h2 _=>hK u w' β' h1 h2 fun h=>by cases h
theorem nQ (H:Wb P tab) {t e:TypeId} {i:TI} {s x:Operand} {τ:Ty} {bytes:Nat} {v:PV} {ys:List (El τ)} (ho:o.op=.call { callee:=.builtin .append,args:= #[s,x],argTypes:= #[t,t] }) (hi:tab t=some i) (he:i.elem=some (e,τ,bytes))
    (hs:Eb st.t s=some (.im .nil)) (hx:Eb st.t x=some v) (hv:Iq τ st.h v=some ys) (hb:ys.length≤33554432):Fk P true o st (St.put ⟨st.t,st.h++[.row e τ ys]⟩ o.dst (.own st.h.length)):=fun C a w β S hd KK Q' hKK=>by
  have T:=H t i hi
  have hsrc:=W8 S.heap hv (S.op hx)
  obtain ⟨A0,es⟩:∃A0,a.eval s=.slice A0 0 0:=by
    have:=S.op hs
    generalize a.eval s=us at *
    cases this;exact ⟨_,rfl⟩
  have hlast:(st.h++[Fa.row e τ ys])[st.h.length]? =some (.row e τ ys):=by
    rw [List.getElem?_append_right (Nat.le_refl _),Nat.sub_self];rfl
  have Hd:∀(g c2:Nat) (A':Option Addr) (w':World),(Builtin.append_ #[t,t] o.type #[a.eval s,a.eval x]).run P w=.ok (.slice A' ys.length c2) w'→(0<c2→A'=some ⟨g,0,none⟩)→Below w.heap.size w w' →
      (Ab C ⟨st.t,st.h++[.row e τ ys]⟩ a w' (β++[(g,c2)])∧Zb w st.h β w' (st.h++[.row e τ ys]) (β++[(g,c2)]))→o.wp P a w KK Q':=fun g c2 A' w' hrun h1 hbw ⟨S1,hst⟩=>by
    have hrun2:(execOp a.eval o).run P w=.ok (.value (.slice A' ys.length c2)) w':=by
      simp only [execOp,ho,resolve,invoke,builtin,Sem.run_bind,Sem.run_pure,Result.andThen_ok,List.map_toArray,List.map_cons,List.map_nil,hrun]
    unfold Oper.wp
    rw [hrun2]
    refine hKK _ _ _ (S1.putL hd (v:=.own st.h.length) ⟨by simp,by simp [Cc],⟨_,_,_,rfl⟩,fun t' τ' zs hz=>?_⟩) (by rw [Kf];exact hst) (fun _=>hbw)
    have hz:(st.h++[Fa.row e τ ys])[st.h.length]? =some (.row t' τ' zs):=hz
    rw [hlast] at hz
    injection hz with hz
    cases hz
    exact ⟨g,c2,A',Vx S.heap _,rfl,h1,fun _=>trivial⟩
  rcases Nat.eq_zero_or_pos ys.length with h0|hp
  ·have hy:ys=[]:=List.length_eq_zero_iff.1 h0
   subst hy
   obtain ⟨Ax,cx,ex,_⟩:=hsrc
   refine Hd w.heap.size 0 A0 w (by rw [es,ex];exact V8 (fun w=>Jj T he w) (fun w=>Bk T he w) A0 Ax _ _ _ (Nat.le_refl _) w) (fun h=>by omega) (Below.refl _ _) (S.new (o:=.row e τ []) (Below.refl _ _) (fun h=>absurd h (Nat.lt_irrefl 0)) (fun E' hE h' β' hle hβ hl=>⟨_,0,hl,fun _=>rfl,Nat.zero_le _,fun h=>by omega⟩))
  ·obtain ⟨g,c2,junk,news,w',hrun,hg,hcp,hcm2,hh,hF,hl,hbw⟩:=WT T he rfl (A0:=A0) (ty:=o.type) hsrc hp hb
   exact Hd g c2 _ w' (by rw [es];exact hrun) (fun _=>rfl) hbw (S.new (o:=.row e τ ys) hbw (fun _=>hg) (fun E' hE h' β' hle hβ hl'=>⟨g,c2,hl',fun h=>by omega,hcm2,fun _=>⟨news,junk,hh,hF.mono fun v u h=>h.keep (fun i hi _=>hbw.block i hi) hbw.size hE (fun _ _ _ h=>h),Kl hF,hl⟩⟩))
def XT:PV→Bool
  | .im (.sl _ _ _)| .im .nil| .own _=>true
  |_=>false
theorem nR (H:Wb P tab) {t e:TypeId} {i:TI} {x y:Operand} {l m:Option Operand} {τ:Ty} {bytes:Nat} {v:PV} (ho:o.op=.slice t x l m (some y)) (hi:tab t=some i) (he:i.elem=some (e,τ,bytes)) (hx:Eb st.t x=some v) (hv:XT v=true) (hl:Ck st.t l 0=some 0) (hm:Ck st.t m 1=some 0) (hy:Eb st.t y=some (.im (.s (.int .i64 0)))):Fk P true o st (St.put ⟨st.t,st.h++[.row e τ []]⟩ o.dst (.own st.h.length)):=fun C a w β S hd KK Q' hKK=>by
  have T:=H t i hi
  have ey:a.eval y=.int .i64 0:=S.ev hy
  obtain ⟨A,n,cap,eu⟩:∃A n cap,a.eval x=.slice A n cap:=by
    have:=S.op hx
    generalize a.eval x=us at *
    cases v with
    |im z =>
     cases z with
     |s z=>cases hv
     |nil=>cases this;exact ⟨_,_,_,rfl⟩
     |sl g τ xs=>cases this;exact ⟨_,_,_,rfl⟩
    |own k=>obtain ⟨_,_,h,_⟩:=this;exact h
    |_=>cases hv
  obtain ⟨A',hrun⟩:∃A',(execOp a.eval o).run P w=.ok (.value (.slice A' 0 0)) w:=by
    rcases CL S hl with ⟨rfl,_⟩|⟨y1,rfl,e1⟩<;>rcases CL S hm with ⟨_,h⟩|⟨y2,rfl,e2⟩<;>first
      |(cases h;done)
      |(refine ⟨A,?_⟩;simp [execOp,ho,Instr.sliceAt,Instr.slice,Jj T he,Instr.sliceBounds,Instr.sliceBound,asIntOf,Bk T he, *];done)
      |(refine ⟨A.map (·.add 0),?_⟩;simp [execOp,ho,Instr.sliceAt,Instr.slice,Jj T he,Instr.sliceBounds,Instr.sliceBound,asIntOf,Bk T he, *];done)
      |(refine ⟨if cap=0 then A else A.map (·.add 0),?_⟩;simp [execOp,ho,Instr.sliceAt,Instr.slice,Jj T he,Instr.sliceBounds,Instr.sliceBound,asIntOf,Bk T he, *])
  have hlast:(st.h++[Fa.row e τ []])[st.h.length]? =some (.row e τ []):=by
    rw [List.getElem?_append_right (Nat.le_refl _),Nat.sub_self];rfl
  obtain ⟨S1,hst⟩:=S.new (w':=w) (B:=w.heap.size) (c:=0) (o:=.row e τ []) (Below.refl w.heap.size w) (fun h=>absurd h (Nat.lt_irrefl 0)) (fun E' hE h' β' hle hβ hl=>⟨_,0,hl,fun _=>rfl,Nat.zero_le _,fun h=>by omega⟩)
  unfold Oper.wp
  rw [hrun]
  refine hKK _ _ _ (S1.putL hd (v:=.own st.h.length) ⟨by simp,by simp [Cc],⟨_,_,_,rfl⟩,fun t' τ' zs hz=>?_⟩) (by rw [Kf];exact hst) (fun _=>Below.refl _ _)
  have hz:(st.h++[Fa.row e τ []])[st.h.length]? =some (.row t' τ' zs):=hz
  rw [hlast] at hz
  injection hz with hz
  cases hz
  exact ⟨w.heap.size,0,A',Vx S.heap _,rfl,fun h=>absurd h (Nat.lt_irrefl 0),fun _=>trivial⟩
end
end Go.Proofs.YtjffopopheiinaaGreatDoor
namespace Go.Proofs.YtjffopopheiinaaGreatDoor
open Go.RowKit
theorem nS {α:Type} (enc:α→List Value) (z:α) (zc:Array Value) (hz:zc.toList=enc z) (h0:0<zc.size) (n:Nat):(madeCells zc (n*zc.size)).toList=(List.replicate n z).flatMap enc:=by
  have hl:∀x:α,x=z→(enc x).length=zc.size:=by rintro x rfl;rw [←hz];simp
  have hlen:((List.replicate n z).flatMap enc).length=n*zc.size:=by
    induction n with
    |zero=>simp
    |succ n ih=>rw [List.replicate_succ,List.flatMap_cons,List.length_append,ih,hl z rfl,Nat.succ_mul];omega
  refine List.ext_getElem? fun j=>?_
  rcases Nat.lt_or_ge j (n*zc.size) with hj|hj
  ·have e1:(madeCells zc (n*zc.size)).toList[j]? =some zc[j % zc.size]! :=by
     simp [madeCells,hj]
   have hm:=Nat.mod_lt j h0
   have e2:((List.replicate n z).flatMap enc)[j]? =(enc z)[j % zc.size]? :=by
     clear e1 hlen hl
     induction n generalizing j with
     |zero=>omega
     |succ n ih =>
      rw [List.replicate_succ,List.flatMap_cons]
      have hez:(enc z).length=zc.size:=by rw [←hz];simp
      rcases Nat.lt_or_ge j zc.size with h|h
      ·rw [List.getElem?_append_left (by omega),Nat.mod_eq_of_lt h]
      ·rw [List.getElem?_append_right (by omega),hez,ih (j-zc.size) (by rw [Nat.succ_mul] at hj;omega) (Nat.mod_lt _ h0),Nat.mod_eq_sub_mod h]
   rw [e1,e2,←hz]
   simp [hm]
  ·rw [List.getElem?_eq_none (by simp [madeCells];omega),List.getElem?_eq_none (by omega)]
section
variable {P:Program} {st:St} {o:Oper} {tab:TypeId→Option TI} {C:Nc} {a:Act} {w w':World} {β β':List (Nat×Nat)}
theorem nT {w:World} {E X:Nat→Prop} (τ:Ty):F2 (Ri w E X) (cells τ (YB τ)) (Cq τ):=by
  cases τ<;>(first
    |exact F2.cons (Ri.s _) F2.nil
    |exact F2.cons (Tx _) F2.nil
    |exact F2.cons (Ri.s _) (F2.cons (Ri.s _) F2.nil)
    |exact F2.cons (Ri.s _) (F2.cons (Tx _) F2.nil)
    |exact F2.cons (Ri.s _) (F2.cons (Ri.s _) (F2.cons (Ri.s _) F2.nil))
    |exact F2.cons (Ri.s _) (F2.cons (Ri.s _) (F2.cons (Tx _) F2.nil))
    |exact F2.cons (Ri.s _) (F2.cons (Ri.s _) (F2.cons (Ri.s _) (F2.cons (Tx _) F2.nil))))
theorem YT {w:World} {E X:Nat→Prop} (τ:Ty):∀n:Nat,F2 (Ri w E X) (Mb τ (List.replicate n (YB τ))) ((List.replicate n (Cq τ)).flatten)
  |0=>F2.nil
  |n+1=>by
   rw [List.replicate_succ,Po,List.replicate_succ,List.flatten_cons]
   exact (nT τ).app (YT τ n)
theorem Z8 {w0:World} {E0 E X:Nat→Prop} {h:List Fa} (hh:Xd w0 E0 X h β) {t:TypeId} {τ:Ty} {xs:List (El τ)} {B c n:Nat} {A:Option Addr} (hn:xs.length=n) (hA:0<c→A=some ⟨B,0,none⟩) (h0:c=0→ZK w' E X t A):C1 w' E X (h++[.row t τ xs]) (β++[(B,c)]) (.own h.length) (.slice A n c):=by
  refine ⟨by simp,by simp [Cc],⟨_,_,_,rfl⟩,fun t' τ' zs hz=>?_⟩
  rw [List.getElem?_append_right (Nat.le_refl _),Nat.sub_self] at hz
  injection hz with hz
  cases hz
  exact ⟨B,c,A,Vx hh _,by rw [hn],hA,h0⟩
theorem A9 {X:Nat→Prop} {h:List Fa} (hh:Xd w (Ka h β) X h β) (hX:∀b,X b→b<w.heap.size) {t:TypeId} {τ:Ty} {xs:List (El τ)} {us:List Value} {c:Nat} (hc:c=0) (hu:us=[])   : ZK (w.alloc (.cells us.toArray t)) (Ka (h++[.row t τ xs]) (β++[(w.heap.size,c)])) X t (some ⟨w.heap.size,0,none⟩):=trivial
theorem nU (H:Wb P tab) {t e:TypeId} {i:TI} {kl kc:IntKind} {x y:Operand} {τ:Ty} {bytes n:Nat} (ho:o.op=.makeSlice t x y) (hi:tab t=some i) (he:i.elem=some (e,τ,bytes)) (hx:Eb st.t x=some (.im (.s (.int kl (n:Int))))) (hy:Eb st.t y=some (.im (.s (.int kc (n:Int)))))
    (hn:n≤16777216):Fk P true o st (St.put ⟨st.t,st.h++[.row e τ (List.replicate n (YB τ))]⟩ o.dst (.own st.h.length)):=fun C a w β S hd K Q' hK=>by
  have T:=H t i hi
  obtain ⟨hund,⟨inf,z,h1,h2,h3,h4,h5⟩,hsm⟩:=T.el e τ bytes he
  have hz:=T.elz e τ bytes inf z he h1 h2
  have hb:inf.bytes*n≤281474976710656:=by
    have:=Nat.mul_le_mul hsm hn
    rw [h4];omega
  have hb2:(inf.bytes:Int)*(n:Int)≤281474976710656:=by
    have:((inf.bytes*n:Nat):Int)≤281474976710656:=by omega
    simpa using this
  have hrun:=run_make (P:=P) (w:=w) t e inf z hund h1 h2 kl kc n n (by omega) (Int.le_refl _) hb2 (by omega)
  simp only [Int.toNat_natCast,h3] at hrun
  have hcs:(madeCells z.cells (n*sz τ)).toList=(List.replicate n (Cq τ)).flatten:=by
    have:=nS (fun _:Unit=>Cq τ) () z.cells hz (by rw [h5];exact Ij τ) n
    rw [h5] at this
    rw [this,List.flatMap_def]
    simp
  obtain ⟨S1,hs,hb⟩:=T8 S (t:=e) (τ:=τ) (n:=n) (by simp) (YT τ n) (Kl (YT (w:=w) (E:=fun _=>False) (X:=fun _=>False) τ n)) (by unfold maxLen;omega)
  have hr:(execOp a.eval o).run P w=.ok (.value (.slice (some ⟨w.heap.size,0,none⟩) n n)) (w.alloc (.cells ((List.replicate n (Cq τ)).flatten).toArray e)):=by
    have e1:madeCells z.cells (n*sz τ)=((List.replicate n (Cq τ)).flatten).toArray:=by rw [←hcs]
    simp only [execOp,ho,S.ev hx,S.ev hy,Sem.run_bind,hrun,e1,Result.andThen_ok]
    simp
  unfold Oper.wp
  rw [hr]
  exact hK _ _ _ (S1.putL hd (v:=.own st.h.length) (Z8 S.heap (by simp) (fun _=>rfl) (fun h=>A9 S.heap S.xlt h (by subst h;rfl)))) (by rw [Kf];exact hs) fun _=>hb
def Wx:Nat→List (Nat×Operand)→Option (List Operand)
  |_,[]=>some []
  |k,(i,x)::r=>bif Nat.beq i k then (match Wx (k+1) r with|some l=>some (x::l)|none=>none) else none
def Xx (t:List (Nat×PV)) (s:Nat):List Operand→Option (List PV)
  |[]=>some []
  |x::r=>match Eb t x,Xx t s r with
   |some v,some l=>bif Nat.beq (Rb v).length s&&(Rb v).all Ue then some (Rb v++l) else none
   |_,_=>none
def Yx (τ:Ty):Nat→List PV→Option (List (El τ))
  |0,[]=>some []
  |0,_::_=>none
  |n+1,cs=>match FC τ (cs.take (sz τ)),Yx τ n (cs.drop (sz τ)) with|some x,some l=>some (x::l)|_,_=>none
theorem B9 {E X:Nat→Prop} {h:List Fa} {τ:Ty}:∀{n:Nat} {cs:List PV} {xs:List (El τ)} {us:List Value},Yx τ n cs=some xs→F2 (C1 w E X h β) cs us→xs.length=n∧F2 (Ri w E X) (Mb τ xs) us
  |0,[],xs,us,hd,hF=>by
   simp only [Yx,Option.some.injEq] at hd
   subst hd
   rw [hF.nil_inv]
   exact ⟨rfl,F2.nil⟩
  |n+1,cs,xs,us,hd,hF=>by
   unfold Yx at hd
   split at hd
   ·rename_i x l h1 h2
    injection hd with hd
    subst hd
    have q1:=P8 h1 (hF.part 0 (sz τ))
    have e:(cs.drop (sz τ)).length=us.length-sz τ:=by rw [List.length_drop,hF.1]
    have q2:=hF.part (sz τ) (us.length-sz τ)
    rw [List.take_of_length_le (by rw [e];exact Nat.le_refl _),List.take_of_length_le (by simp)] at q2
    obtain ⟨q3,q4⟩:=B9 h2 q2
    refine ⟨by simp [q3],?_⟩
    rw [Po,←List.take_append_drop (sz τ) us]
    simp only [List.drop_zero] at q1
    exact q1.app q4
   ·cases hd
def Jq (a:Act):Nat→List Operand→List (Nat×Value)
  |_,[]=>[]
  |k,x::r=>(k,a.eval x)::Jq a (k+1) r
theorem ZT {a:Act}:∀{k:Nat} {l:List (Nat×Operand)} {xs:List Operand},Wx k l=some xs→l.map (fun q=>(q.1,a.eval q.2))=Jq a k xs∧xs.length=l.length
  |k,[],xs,h=>by
   simp only [Wx,Option.some.injEq] at h
   subst h
   exact ⟨rfl,rfl⟩
  |k,(i,x)::r,xs,h=>by
   unfold Wx at h
   cases hb:Nat.beq i k with
   |false=>rw [hb] at h;cases h
   |true =>
    rw [hb] at h
    have:=Nat.eq_of_beq_eq_true hb
    subst this
    simp only [cond_true] at h
    split at h
    ·rename_i l hl
     injection h with h
     subst h
     obtain ⟨h1,h2⟩:=ZT (a:=a) hl
     exact ⟨by simp only [List.map_cons,Jq,h1],by simp [h2]⟩
    ·cases h
theorem C9 (S:Ab C st a w β) {s:Nat} (h0:0<s):∀{xs:List Operand} {cs:List PV},Xx st.t s xs=some cs→∃us,F2 (C1 w (Ka st.h β) C.X st.h β) cs us∧us.length=xs.length*s∧∀k (pre rest:List Value),pre.length=k*s→rest.length=xs.length*s→Instr.fill (fun i=>some (i*s,s)) (pre++rest).toArray (Jq a k xs)=some (pre++us).toArray
  |[],cs,h=>by
   simp only [Xx,Option.some.injEq] at h
   subst h
   exact ⟨[],F2.nil,by simp,fun k pre rest _ hr=>by
     have:rest=[]:=List.length_eq_zero_iff.1 (by simpa using hr)
     subst this
     rfl⟩
  |x::r,cs,h=>by
   unfold Xx at h
   split at h
   ·rename_i v l hv hl
    cases hq:(Nat.beq (Rb v).length s&&(Rb v).all Ue) with
    |false=>rw [hq] at h;cases h
    |true =>
     rw [hq] at h
     injection h with h
     subst h
     simp only [Bool.and_eq_true] at hq
     obtain ⟨q1,q2⟩:=hq
     have q1:=Nat.eq_of_beq_eq_true q1
     obtain ⟨us,h1,h2,h3⟩:=BC (S.op hv) q2
     obtain ⟨us',h4,h5,h6⟩:=C9 S h0 hl
     have hul:us.length=s:=by rw [h2.1,q1]
     refine ⟨us++us',h2.app h4,by rw [List.length_append,hul,h5,List.length_cons,Nat.succ_mul];omega,fun k pre rest hp hr=>?_⟩
     rw [List.length_cons,Nat.succ_mul] at hr
     have:=D8 (place:=fun i=>some (i*s,s)) (cells:=(pre++rest).toArray) (i:=k) (off:=k*s) (size:=s) (v:=a.eval x) (us:=us) (rest:=Jq a (k+1) r) rfl h1 hul (by simp;omega)
     rw [Jq,this]
     have e:(pre++rest).toArray.toList.take (k*s)++us++(pre++rest).toArray.toList.drop (k*s+s)=(pre++us)++rest.drop s:=by
       rw [←hp,List.take_left,List.drop_append,List.drop_of_length_le (by omega),List.nil_append,Nat.add_sub_cancel_left]
     rw [e,h6 (k+1) (pre++us) (rest.drop s) (by rw [List.length_append,hp,hul,Nat.succ_mul]) (by rw [List.length_drop];omega)]
     rw [List.append_assoc]
   ·cases h
theorem nV (H:Wb P tab) {t e:TypeId} {i:TI} {n:Nat} {parts:Array (Nat×Operand)} {xs:List Operand} {cs:List PV} {τ:Ty} {bytes:Nat} {ys:List (El τ)} (ho:o.op=.buildSlice t n parts) (hi:tab t=some i) (he:i.elem=some (e,τ,bytes)) (hc:Wx 0 parts.toList=some xs) (hn:xs.length=n) (hs:n*sz τ≤16777216)
    (hcs:Xx st.t (sz τ) xs=some cs) (hd:Yx τ n (De cs st cs).2=some ys):Fk P true o st (St.put ⟨(De cs st cs).1.t,(De cs st cs).1.h++[.row e τ ys]⟩ o.dst (.own (De cs st cs).1.h.length)):=fun C a w β S0 hdst K Q' hK=>by
  have T:=H t i hi
  obtain ⟨hund,⟨inf,z,h1,h2,h3,h4,h5⟩,hsm⟩:=T.el e τ bytes he
  obtain ⟨us,hF,hul,hfill⟩:=C9 S0 (Ij τ) hcs
  obtain ⟨S,hF,hst0⟩:=Ek cs S0 cs hF
  generalize De cs st cs=fz at *
  obtain ⟨st1,cs1⟩:=fz
  simp only at *
  obtain ⟨hyl,hF⟩:=B9 hd hF
  have hsz:=Ij τ
  obtain ⟨S1,hst,hb⟩:=T8 S (t:=e) (τ:=τ) (n:=n) hyl hF (Kl hF) (by unfold maxLen;have:n*1≤n*sz τ:=Nat.mul_le_mul_left _ hsz;omega)
  have hm:(parts.map fun (i,x)=>(i,a.eval x)).toList=Jq a 0 xs:=by
    rw [←(ZT (a:=a) hc).1];simp
  have hr:(execOp a.eval o).run P w=.ok (.value (.slice (some ⟨w.heap.size,0,none⟩) n n)) (w.alloc (.cells us.toArray e)):=by
    rcases Nat.eq_zero_or_pos n with h0|hpos
    ·subst h0
     have hus:us=[]:=List.length_eq_zero_iff.1 (by rw [hul,hn,Nat.zero_mul])
     have hxs:xs=[]:=List.length_eq_zero_iff.1 hn
     have hparts:parts= #[]:=by
       have:=(ZT (a:=a) hc).2
       rw [hxs] at this
       have h0:parts.toList=[]:=List.length_eq_zero_iff.1 this.symm
       exact Jl h0
     subst hus hparts
     simp [execOp,ho,Instr.buildSlice,Jj T he,Bk T he,Instr.fill,newRow,Array.range_zero']
    ·have hnp:0<n*sz τ:=Nat.mul_pos hpos hsz
     have hf:=hfill 0 [] ((Array.range (n*inf.size)).map (z.cells[· % z.cells.size]!)).toList (by simp) (by simp [h3,hn])
     simp only [List.nil_append,Array.toArray_toList] at hf
     have:=run_buildSlice (P:=P) w t e n (parts.map fun (i,x)=>(i,a.eval x)) us.toArray inf z hund h1 h2 (by rw [h3];omega) (by rw [h3];omega) (by rw [hm,h3];rw [h3] at hf;exact hf)
     simp [execOp,ho,this]
  unfold Oper.wp
  rw [hr]
  refine hK _ _ _ (S1.putL hdst (v:=.own st1.h.length) (Z8 S.heap hyl (fun _=>rfl) (fun h=>A9 S.heap S.xlt h ?_))) (by rw [Kf];exact hst0.trans hst) fun _=>hb
  exact List.length_eq_zero_iff.1 (by rw [hul,hn,h,Nat.zero_mul])
def OL (st:St) (i:TI) (v:PV):PV→Option St
  | .ptr k p=>match st.h[k]? with
    |some (.box t' cs)=>bif (Rb v).all Ue&&(Nat.beq (Rb v).length i.size&&Nat.ble (p+i.size) cs.length) then some ⟨st.t,st.h.set k (.box t' (wr cs p (Rb v)))⟩ else none
    |_=>none
  | .ept k j _ p=>match (De (Rb v) st (Rb v)).1.h[k]? with
    |some (.row t' τ xs)=>(match FC τ (wr (Bq (cells τ (Aa τ xs j))) p (De (Rb v) st (Rb v)).2) with
     |some e=>bif (Rb v).all Ue&&(Nat.beq (Rb v).length i.size&&Nat.ble (p+i.size) (sz τ)) then some ⟨(De (Rb v) st (Rb v)).1.t,(De (Rb v) st (Rb v)).1.h.set k (.row t' τ (xs.set j e))⟩ else none
     |none=>none)
    |_=>none
  |_=>none
def D9 (st:St) (e:TypeId) (τ:Ty) (n:Nat) (parts:List (Nat×Operand)):Option (St×PV):=match Wx 0 parts with
  |some xs=>(match Xx st.t (sz τ) xs with
   |some cs=>(match Yx τ n (De cs st cs).2 with
    |some ys=>bif Nat.beq xs.length n&&Nat.ble (n*sz τ) 16777216 then some (⟨(De cs st cs).1.t,(De cs st cs).1.h++[.row e τ ys]⟩,.own (De cs st cs).1.h.length) else none
    |none=>none)
   |none=>none)
  |none=>none
def AU (st:St) (e:TypeId) (σ:Ty) (v:PV):PV→Option (Bool×Bool×St×Option PV)
  | .own k=>match st.h[k]? with
    |some (.row t' τ xs)=>(match Iq τ st.h v with
     |some ys=>bif Nat.beq t' e&&Nat.beq (sz τ) (sz σ) then some (decide (xs.length+ys.length≤33554432),false,⟨st.t,st.h.set k .dead++[.row t' τ (xs++ys)]⟩,some (.own st.h.length)) else none
     |none=>none)
    |_=>none
  | .im .nil=>match Iq σ st.h v with
    |some ys=>some (decide (ys.length≤33554432),true,⟨st.t,st.h++[.row e σ ys]⟩,some (.own st.h.length))
    |none=>none
  |_=>none
def Ll (tab:TypeId→Option TI) (st:St) (op:Op) (d:Option Nat):Option (Bool×Bool×St×Option PV):=match op with
  | .box t x=>match Eb st.t x with|some v=>(bif (Rb v).all Ue then some (true,true,⟨st.t,st.h++[.box t (Rb v)]⟩,some (.ptr st.h.length 0)) else none)|none=>none
  | .alloc t=>match tab t with|some i=>(match i.zero with|some zs=>some (true,true,⟨st.t,st.h++[.box t (zs.map Pm)]⟩,some (.ptr st.h.length 0))|none=>none)|none=>none
  | .store t x y=>match d,Eb st.t x,Eb st.t y,tab t with
    |none,some q,some v,some i=>(match OL st i v q with|some st'=>some (true,false,st',none)|none=>none)
    |_,_,_,_=>none
  | .makeSlice t x y=>match Eb st.t x,Eb st.t y,tab t with
    |some (.im (.s (.int _ a))),some (.im (.s (.int _ b))),some i=>(match i.elem with
     |some (e,τ,_)=>some (decide (a=b)&&(decide (0≤a)&&decide (a≤16777216)),true,⟨st.t,st.h++[.row e τ (List.replicate a.toNat (YB τ))]⟩,some (.own st.h.length))
     |none=>none)
    |_,_,_=>none
  | .buildSlice t n parts=>match tab t with
    |some i=>(match i.elem with
     |some (e,τ,_)=>(match D9 st e τ n parts.toList with|some (st',v)=>some (true,true,st',some v)|none=>none)
     |none=>none)
    |none=>none
  | .call c=>match c.callee with
    | .builtin .append=>match c.args.toList,c.argTypes.toList with
      |[s,x],[t,t']=>(match Eb st.t s,Eb st.t x,tab t with
       |some u,some v,some i=>(match i.elem with
        |some (e,σ,_)=>bif Nat.beq t t' then AU st e σ v u else none
        |none=>none)
       |_,_,_=>none)
      |_,_=>none
    |_=>none
  | .slice t x l m (some y)=>match Eb st.t x,tab t,Ck st.t l 0,Ck st.t m 1,Eb st.t y with
    |some v,some i,some lo,some mo,some (.im (.s (.int .i64 z)))=>(match i.elem with
     |some (e,τ,_)=>bif XT v&&(decide (lo=0)&&(decide (mo=0)&&decide (z=0))) then some (true,true,⟨st.t,st.h++[.row e τ []]⟩,some (.own st.h.length)) else none
     |none=>none)
    |_,_,_,_,_=>none
  |_=>none
def Hd (st':St) (d:Option Nat):Option PV→St
  |some v=>st'.put d v
  |none=>st'
theorem E9 (H:Wb P tab) {c bl:Bool} {st':St} {v:Option PV} (h:Ll tab st o.op o.dst=some (c,bl,st',v)) (hc:c=true):Fk P bl o st (Hd st' o.dst v):=by
  unfold Ll at h
  split at h
  ·rename_i t x ho
   split at h
   ·rename_i v' hv
    cases hq:(Rb v').all Ue with
    |false=>rw [hq] at h;cases h
    |true =>
     rw [hq] at h
     simp only [cond_true,Option.some.injEq,Prod.mk.injEq] at h
     obtain ⟨_,rfl,rfl,rfl⟩:=h
     exact nG ho hv hq
   ·cases h
  ·rename_i t ho
   split at h
   ·rename_i i hi
    split at h
    ·rename_i zs hz
     simp only [Option.some.injEq,Prod.mk.injEq] at h
     obtain ⟨_,rfl,rfl,rfl⟩:=h
     exact nH H ho hi hz
    ·cases h
   ·cases h
  ·rename_i t x y ho
   split at h
   ·rename_i q v' i hd hx hy hi
    split at h
    ·rename_i st1 hs
     simp only [Option.some.injEq,Prod.mk.injEq] at h
     obtain ⟨_,rfl,rfl,rfl⟩:=h
     unfold OL at hs
     split at hs
     ·rename_i k p
      split at hs
      ·rename_i t' cs hk
       cases hq:((Rb v').all Ue&&(Nat.beq (Rb v').length i.size&&Nat.ble (p+i.size) cs.length)) with
       |false=>rw [hq] at hs;cases hs
       |true =>
        rw [hq] at hs
        injection hs with hs
        subst hs
        simp only [Bool.and_eq_true] at hq
        exact nJ H ho hi hx hy hq.1 (Nat.eq_of_beq_eq_true hq.2.1) hk (Nat.le_of_ble_eq_true hq.2.2) hd
      ·cases hs
     ·rename_i k j z p
      split at hs
      ·rename_i t' τ xs hk
       split at hs
       ·rename_i e hdec
        cases hq:((Rb v').all Ue&&(Nat.beq (Rb v').length i.size&&Nat.ble (p+i.size) (sz τ))) with
        |false=>rw [hq] at hs;cases hs
        |true =>
         rw [hq] at hs
         injection hs with hs
         subst hs
         simp only [Bool.and_eq_true] at hq
         exact nM H ho hi hx hy hq.1 (Nat.eq_of_beq_eq_true hq.2.1) (Nat.le_of_ble_eq_true hq.2.2) hd hk hdec
       ·cases hs
      ·cases hs
     ·cases hs
    ·cases h
   ·cases h
  ·rename_i t x y ho
   split at h
   ·rename_i kl p kc q i hx hy hi
    split at h
    ·rename_i e τ bytes he
     simp only [Option.some.injEq,Prod.mk.injEq] at h
     obtain ⟨h1,rfl,rfl,rfl⟩:=h
     subst h1
     simp only [Bool.and_eq_true,decide_eq_true_eq] at hc
     obtain ⟨rfl,h0,h1⟩:=hc
     have hp:((p.toNat:Nat):Int)=p:=Int.toNat_of_nonneg h0
     exact nU H ho hi he (by rw [hp];exact hx) (by rw [hp];exact hy) (by omega)
    ·cases h
   ·cases h
  ·rename_i t n parts ho
   split at h
   ·rename_i i hi
    split at h
    ·rename_i e τ bytes he
     split at h
     ·rename_i st1 v1 hb
      simp only [Option.some.injEq,Prod.mk.injEq] at h
      obtain ⟨h1,rfl,rfl,rfl⟩:=h
      unfold D9 at hb
      split at hb
      ·rename_i xs hxs
       split at hb
       ·rename_i cs hcs
        split at hb
        ·rename_i ys Xg
         cases hq:(Nat.beq xs.length n&&Nat.ble (n*sz τ) 16777216) with
         |false=>rw [hq] at hb;cases hb
         |true =>
          rw [hq] at hb
          simp only [cond_true,Option.some.injEq,Prod.mk.injEq] at hb
          obtain ⟨rfl,rfl⟩:=hb
          simp only [Bool.and_eq_true] at hq
          exact nV H ho hi he hxs (Nat.eq_of_beq_eq_true hq.1) (Nat.le_of_ble_eq_true hq.2) hcs Xg
        ·cases hb
       ·cases hb
      ·cases hb
     ·cases h
    ·cases h
   ·cases h
  ·rename_i cl ho
   split at h
   ·rename_i hcal
    obtain ⟨callee,args,argTypes⟩:=cl
    simp only at hcal h
    subst hcal
    split at h
    ·rename_i s x t t' h1 h2
     have h1:=Jl h1
     have h2:=Jl h2
     subst h1 h2
     split at h
     ·rename_i u v' i h3 h4 hi
      split at h
      ·rename_i e σ bytes he
       cases hq:Nat.beq t t' with
       |false=>rw [hq] at h;cases h
       |true =>
        rw [hq] at h
        have:=Nat.eq_of_beq_eq_true hq
        subst this
        simp only [cond_true] at h
        unfold AU at h
        split at h
        ·rename_i k
         split at h
         ·rename_i t2 τ xs hk
          split at h
          ·rename_i ys Xg
           cases hq2:(Nat.beq t2 e&&Nat.beq (sz τ) (sz σ)) with
           |false=>rw [hq2] at h;cases h
           |true =>
            rw [hq2] at h
            simp only [cond_true,Option.some.injEq,Prod.mk.injEq] at h
            obtain ⟨h5,rfl,rfl,rfl⟩:=h
            subst h5
            simp only [Bool.and_eq_true] at hq2
            have:=Nat.eq_of_beq_eq_true hq2.1
            subst this
            exact nP H ho hi he (Nat.eq_of_beq_eq_true hq2.2) h3 hk h4 Xg (oT hc)
          ·cases h
         ·cases h
        ·split at h
         ·rename_i ys Xg
          simp only [Option.some.injEq,Prod.mk.injEq] at h
          obtain ⟨h5,rfl,rfl,rfl⟩:=h
          subst h5
          exact nQ H ho hi he h3 h4 Xg (oT hc)
         ·cases h
        ·cases h
      ·cases h
     ·cases h
    ·cases h
   ·cases h
  ·rename_i t x l m y ho
   split at h
   ·rename_i v' i lo mo z hx hi hl hm hy
    split at h
    ·rename_i e τ bytes he
     cases hq:(XT v'&&(decide (lo=0)&&(decide (mo=0)&&decide (z=0)))) with
     |false=>rw [hq] at h;cases h
     |true =>
      rw [hq] at h
      simp only [cond_true,Option.some.injEq,Prod.mk.injEq] at h
      obtain ⟨_,rfl,rfl,rfl⟩:=h
      simp only [Bool.and_eq_true,decide_eq_true_eq] at hq
      obtain ⟨q1,rfl,rfl,rfl⟩:=hq
      exact nR H ho hi he hx q1 hl hm hy
    ·cases h
   ·cases h
  ·cases h
end
end Go.Proofs.YtjffopopheiinaaGreatDoor
namespace Go.Proofs.YtjffopopheiinaaGreatDoor
open Go.RowKit
inductive Ho where
  |int|bool|str
  |ls (τ:Ty)
abbrev nW:Ho→Type
  | .int=>Int
  | .bool=>Bool
  | .str=>ByteArray
  | .ls τ=>List (El τ)
abbrev HL:List Ho→Type
  |[]=>Unit
  |h::r=>nW h×HL r
inductive Hv where
  |int (x:Int)
  |bool (b:Bool)
  |str (s:ByteArray)
  |ls (τ:Ty) (xs:List (El τ))
def up:(hs:List Ho)→HL hs→List Hv
  |[],_=>[]
  | .int::r,s=>.int s.1::up r s.2
  | .bool::r,s=>.bool s.1::up r s.2
  | .str::r,s=>.str s.1::up r s.2
  | .ls τ::r,s=>.ls τ s.1::up r s.2
def Lf:(hs:List Ho)→List Hv→Option (HL hs)
  |[],[]=>some ()
  | .int::r,.int x::l=>match Lf r l with|some s=>some (x,s)|none=>none
  | .bool::r,.bool x::l=>match Lf r l with|some s=>some (x,s)|none=>none
  | .str::r,.str x::l=>match Lf r l with|some s=>some (x,s)|none=>none
  | .ls τ::r,.ls σ x::l=>match Ci σ τ x,Lf r l with|some x,some s=>some (x,s)|_,_=>none
  |_,_=>none
theorem Uo:∀{hs:List Ho} {l:List Hv} {s:HL hs},Lf hs l=some s→up hs s=l
  |[],[],s,h=>rfl
  | .int::r,.int x::l,s,h=>by
    simp only [Lf] at h
    split at h
    ·rename_i s' hs;injection h with h;subst h;simp only [up,Uo hs]
    ·cases h
  | .bool::r,.bool x::l,s,h=>by
    simp only [Lf] at h
    split at h
    ·rename_i s' hs;injection h with h;subst h;simp only [up,Uo hs]
    ·cases h
  | .str::r,.str x::l,s,h=>by
    simp only [Lf] at h
    split at h
    ·rename_i s' hs;injection h with h;subst h;simp only [up,Uo hs]
    ·cases h
  | .ls τ::r,.ls σ x::l,s,h=>by
    simp only [Lf] at h
    split at h
    ·rename_i x' s' hx hs
     injection h with h;subst h
     obtain ⟨e,he⟩:=Gq hx
     subst e
     subst he
     simp only [up,Uo hs]
    ·cases h
inductive T0 where
  |int (k:IntKind)
  |bool|str
  |sl (g:Bool) (τ:Ty)
inductive T1 where
  |b (t:T0)
  |own (k:Nat)
  |ptr (k o:Nat)
  |at_ (ts:List T0) (o:Nat)
inductive T2 where
  |one (t:T1)
  |agg (ts:List T1)
  |fn (f:FuncId) (ts:List T1)
inductive Tm where
  |c (t:T2)
  |tup (ts:List T2)
inductive OT where
  |dead
  |row (t:TypeId) (τ:Ty)
  |box (t:TypeId) (ts:List T1)
def Ah:T0→List Hv→Option (IV×List Hv)
  | .int k,.int x::r=>some (.s (.int k x),r)
  | .bool,.bool x::r=>some (.s (.bool x),r)
  | .str,.str x::r=>some (.s (.string x),r)
  | .sl g τ,.ls σ xs::r=>match Ci σ τ xs with|some ys=>some (.sl g τ ys,r)|none=>none
  |_,_=>none
def Ig {α β:Type} (f:α→List Hv→Option (β×List Hv)):List α→List Hv→Option (List β×List Hv)
  |[],r=>some ([],r)
  |t::ts,r=>match f t r with
   |some (x,r1)=>(match Ig f ts r1 with|some (xs,r2)=>some (x::xs,r2)|none=>none)
   |none=>none
def Sf:T1→List Hv→Option (PV×List Hv)
  | .b t,r=>match Ah t r with|some (x,r)=>some (.im x,r)|none=>none
  | .own k,r=>some (.own k,r)
  | .ptr k o,r=>some (.ptr k o,r)
  | .at_ ts o,r=>match Ig Ah ts r with|some (xs,r)=>some (.at_ xs o,r)|none=>none
def Jh:T2→List Hv→Option (PV×List Hv)
  | .one t,r=>Sf t r
  | .agg ts,r=>match Ig Sf ts r with|some (xs,r)=>some (.agg xs,r)|none=>none
  | .fn f ts,r=>match Ig Sf ts r with|some (xs,r)=>some (.fn f xs,r)|none=>none
def Kj:Tm→List Hv→Option (PV×List Hv)
  | .c t,r=>Jh t r
  | .tup ts,r=>match Ig Jh ts r with|some (xs,r)=>some (.tup xs,r)|none=>none
def Um:OT→List Hv→Option (Fa×List Hv)
  | .dead,r=>some (.dead,r)
  | .row t τ,.ls σ xs::r=>match Ci σ τ xs with|some ys=>some (.row t τ ys,r)|none=>none
  | .row _ _,_=>none
  | .box t ts,r=>match Ig Sf ts r with|some (xs,r)=>some (.box t xs,r)|none=>none
def Zx:T0→IV→Option (List Hv)
  | .int k,.s (.int k' x)=>bif Qo k' k then some [.int x] else none
  | .bool,.s (.bool x)=>some [.bool x]
  | .str,.s (.string x)=>some [.str x]
  | .sl g τ,.sl g' σ xs=>bif !g||g' then (match Ci σ τ xs with|some ys=>some [.ls τ ys]|none=>none) else none
  | .sl _ τ,.nil=>some [.ls τ []]
  |_,_=>none
def Og {α β:Type} (f:α→β→Option (List Hv)):List α→List β→Option (List Hv)
  |[],[]=>some []
  |t::ts,x::xs=>match f t x,Og f ts xs with|some l,some r=>some (l++r)|_,_=>none
  |_,_=>none
def Pg:List Nat→Nat→Bool
  |[],_=>true
  |k::r,j=>bif Nat.beq k j then false else Pg r j
def Vm (gv:Bool) (ρ:List Nat) (h:List Fa):T0→PV→Option (List Hv)
  |t,.im x=>Zx t x
  | .sl g τ,.own j=>match h[j]? with
    |some (.row _ σ xs)=>bif (!g||gv)&&Pg ρ j then (match Ci σ τ xs with|some ys=>some [.ls τ ys]|none=>none) else none
    |_=>none
  |_,_=>none
def Ay:List Fa→Nat→Bool
  |h,j=>match h[j]? with|some (.row _ _ _)=>true|_=>false
def Lj (gv:Bool) (ρ:List Nat) (h:List Fa):T1→PV→Option (List Hv)
  | .b t,v=>Vm gv ρ h t v
  | .own k,.own j=>match ρ[k]? with|some i=>bif Nat.beq i j&&Ay h j then some [] else none|none=>none
  | .own k,.im .nil=>match ρ[k]? with|some i=>bif Cc h i then some [] else none|none=>none
  | .ptr k o,.ptr j p=>match ρ[k]? with|some i=>bif Nat.beq i j&&Nat.beq o p then some [] else none|none=>none
  | .at_ ts o,.at_ cs p=>bif Nat.beq o p then Og Zx ts cs else none
  | .at_ ts o,.ptr j p=>match h[j]? with
    |some (.box _ cs)=>bif Nat.beq o p&&Pg ρ j then Og (Vm gv ρ h) ts cs else none
    |_=>none
  |_,_=>none
def Vo (gv:Bool) (ρ:List Nat) (h:List Fa):T2→PV→Option (List Hv)
  | .agg ts,.agg cs=>Og (Lj gv ρ h) ts cs
  | .fn f ts,.fn f' cs=>bif Nat.beq f f' then Og (Lj gv ρ h) ts cs else none
  | .one t,v=>Lj gv ρ h t v
  |_,_=>none
def HC (gv:Bool) (ρ:List Nat) (h:List Fa):Tm→PV→Option (List Hv)
  | .tup ts,.tup cs=>Og (Vo gv ρ h) ts cs
  | .c t,v=>Vo gv ρ h t v
  |_,_=>none
def IC (gv:Bool) (ρ:List Nat) (h:List Fa):OT→Nat→Option (List Hv)
  | .dead,_=>some []
  | .row t τ,j=>match h[j]? with
    |some (.row t' σ xs)=>bif Nat.beq t t' then (match Ci σ τ xs with|some ys=>some [.ls τ ys]|none=>none) else none
    |some (.vrow t' _)=>bif Nat.beq t t' then some [.ls τ []] else none
    |_=>none
  | .box t ts,j=>match h[j]? with
    |some (.box t' cs)=>bif Nat.beq t t' then Og (Lj gv ρ h) ts cs else none
    |_=>none
structure Rc where
  vs:List Tm
  os:List OT
def Rc.find (S:Rc) (gv:Bool) (ρ:List Nat) (h:List Fa) (vs:List PV):Option (List Hv):=match Og (HC gv ρ h) S.vs vs,Og (IC gv ρ h) S.os ρ with|some l,some r=>some (l++r)|_,_=>none
def Rc.fill (S:Rc) (l:List Hv):Option (List PV×List Fa):=match Ig Kj S.vs l with
  |some (vs,r)=>(match Ig Um S.os r with|some (os,[])=>some (vs,os)|_=>none)
  |none=>none
end Go.Proofs.YtjffopopheiinaaGreatDoor
namespace Go.Proofs.YtjffopopheiinaaGreatDoor
open Go.RowKit
theorem Wo {α β γ:Type} {f:α→β→Option (List Hv)} {g:α→List Hv→Option (γ×List Hv)} {R:β→Value→Prop} {R':γ→Value→Prop} (H:∀t x l u,f t x=some l→R x u→∃y,(∀r,g t (l++r)=some (y,r))∧R' y u):∀{ts:List α} {xs:List β} {l:List Hv} {us:List Value},Og f ts xs=some l→F2 R xs us→∃ys,(∀r,Ig g ts (l++r)=some (ys,r))∧F2 R' ys us
  |[],[],l,us,h,hF=>by
   simp only [Og,Option.some.injEq] at h
   subst h
   rw [hF.nil_inv]
   exact ⟨[],fun r=>rfl,F2.nil⟩
  |[],_::_,l,us,h,hF=>by cases h
  |_::_,[],l,us,h,hF=>by cases h
  |t::ts,x::xs,l,us,h,hF=>by
   simp only [Og] at h
   split at h
   ·rename_i l1 l2 h1 h2
    injection h with h
    subst h
    obtain ⟨u,us',rfl,hR,hF⟩:=hF.cons_inv
    obtain ⟨y,h3,h4⟩:=H t x l1 u h1 hR
    obtain ⟨ys,h5,h6⟩:=Wo H h2 hF
    exact ⟨y::ys,fun r=>by rw [List.append_assoc,Ig,h3];simp only [h5],F2.cons h4 h6⟩
   ·cases h
theorem Gk {α β γ:Type} {f:α→β→Option (List Hv)} {g:α→List Hv→Option (γ×List Hv)} (H:∀t x l,f t x=some l→∃y,∀r,g t (l++r)=some (y,r)):∀{ts:List α} {xs:List β} {l:List Hv},Og f ts xs=some l→xs.length=ts.length∧∃ys,(∀r,Ig g ts (l++r)=some (ys,r))∧ys.length=ts.length∧∀(k:Nat) y,ys[k]? =some y→∃t x lk,ts[k]? =some t∧xs[k]? =some x∧f t x=some lk∧∀r,g t (lk++r)=some (y,r)
  |[],[],l,h=>by
   simp only [Og,Option.some.injEq] at h
   subst h
   exact ⟨rfl,[],fun r=>rfl,rfl,fun k y h=>by simp at h⟩
  |[],_::_,l,h=>by cases h
  |_::_,[],l,h=>by cases h
  |t::ts,x::xs,l,h=>by
   simp only [Og] at h
   split at h
   ·rename_i l1 l2 h1 h2
    injection h with h
    subst h
    obtain ⟨y,h3⟩:=H t x l1 h1
    obtain ⟨h0,ys,h5,h6,h7⟩:=Gk H h2
    refine ⟨by simp [h0],y::ys,fun r=>by rw [List.append_assoc,Ig,h3];simp only [h5],by simp [h6],fun k z hk=>?_⟩
    cases k with
    |zero=>simp at hk;subst hk;exact ⟨t,x,l1,rfl,rfl,h1,h3⟩
    |succ k=>simpa using h7 k z (by simpa using hk)
   ·cases h
theorem PL:∀{ρ:List Nat} {j:Nat},Pg ρ j=true→∀k:Nat,ρ[k]?≠some j
  |[],j,_,k=>by simp
  |i::r,j,h,k=>by
   simp only [Pg] at h
   cases hb:Nat.beq i j with
   |true=>rw [hb] at h;cases h
   |false =>
    rw [hb] at h
    cases k with
    |zero =>
     intro e
     simp at e
     subst e
     rw [Nat.beq_refl] at hb
     cases hb
    |succ k=>simpa using PL h k
structure Si (gv:Bool) (ρ:List Nat) (w:World) (E X:Nat→Prop) (h:List Fa) (β:List (Nat×Nat)) (E' X':Nat→Prop) (h':List Fa) (β':List (Nat×Nat)):Prop where
  ok:Xd w E X h β
  hE:∀b,¬E b→¬E' b
  hX:∀b,¬E b→¬X b→¬X' b
  hβ:∀(k j:Nat) p,ρ[k]? =some j→β[j]? =some p→β'[k]? =some p
  hrow:∀(k j:Nat) (t:TypeId) (τ:Ty) (xs':List (El τ)),ρ[k]? =some j→h'[k]? =some (.row t τ xs')→(∃xs:List (El τ),h[j]? =some (.row t τ xs)∧xs.length=xs'.length)∨(Cc h j=true∧xs'=[])
  hlen:∀(k j:Nat),ρ[k]? =some j→k<h'.length∧Cc h' k=false
  hview:∀(j:Nat) (o:Fa) (b c:Nat),h[j]? =some o→Qc o c→β[j]? =some (b,c)→(∀k:Nat,ρ[k]?≠some j)→¬E' b∧(gv=true→¬X' b)
section
variable {gv:Bool} {ρ:List Nat} {w:World} {E X E' X':Nat→Prop} {h h':List Fa} {β β':List (Nat×Nat)}
theorem Si.ri (M:Si gv ρ w E X h β E' X' h' β') {x:IV} {u:Value} (hc:Ri w E X x u):Ri w E' X' x u:=hc.keep (fun _ _ _=>rfl) (Nat.le_refl _) (fun b _=>M.hE b) (fun b _=>M.hX b)
theorem F9 (H:∀x u,Ri w E X x u→Ri w E' X' x u) {t:T0} {x:IV} {l:List Hv} {u:Value} (hf:Zx t x=some l) (hc:Ri w E X x u):∃y,(∀r,Ah t (l++r)=some (y,r))∧Ri w E' X' y u:=by
  replace hc:=H _ _ hc
  unfold Zx at hf
  split at hf
  ·rename_i k k' x
   cases hb:Qo k' k with
   |false=>rw [hb] at hf;cases hf
   |true =>
    rw [hb] at hf
    injection hf with hf;subst hf
    have:=QS hb
    subst this
    exact ⟨_,fun r=>rfl,hc⟩
  ·injection hf with hf;subst hf;exact ⟨_,fun r=>rfl,hc⟩
  ·injection hf with hf;subst hf;exact ⟨_,fun r=>rfl,hc⟩
  ·rename_i g τ g' σ xs
   cases hb:(!g||g') with
   |false=>rw [hb] at hf;cases hf
   |true =>
    rw [hb] at hf
    simp only [cond_true] at hf
    split at hf
    ·rename_i ys hy
     obtain ⟨e,he⟩:=Gq hy
     subst e
     subst he
     injection hf with hf;subst hf
     have hcc:Ci σ σ xs=some xs:=by cases σ<;>rfl
     refine ⟨.sl g σ xs,fun r=>by simp only [List.cons_append,List.nil_append,Ah,hcc],?_⟩
     cases hc with
     |sl _ _ _ A cap b o us hA hcap hl hcc hr=>exact .sl g σ xs A cap b o us (fun h=>⟨(hA h).1,(hA h).2.1,(hA h).2.2.1,fun hg=>(hA h).2.2.2 (by subst hg;simpa using hb)⟩) hcap hl hcc hr
    ·cases hf
  ·rename_i g τ
   injection hf with hf;subst hf
   have hcc:Ci τ τ []=some []:=by cases τ<;>rfl
   refine ⟨.sl g τ [],fun r=>by simp only [List.cons_append,List.nil_append,Ah,hcc],?_⟩
   cases hc
   exact Tx τ
  ·cases hf
theorem Si.view (M:Si gv ρ w E X h β E' X' h' β') {j:Nat} {t:TypeId} {σ:Ty} {xs:List (El σ)} {g:Bool} {u:Value} (hj:h[j]? =some (.row t σ xs)) (hn:∀k:Nat,ρ[k]?≠some j) (hg:(!g||gv)=true) (hc:C1 w E X h β (.own j) u):Ri w E' X' (.sl g σ xs) u:=by
  obtain ⟨_,_,_,h2⟩:=hc
  obtain ⟨b,c,A,h3,rfl,h4,h5⟩:=h2 t σ xs hj
  obtain ⟨b',c',h6,h7,h8,h9⟩:=M.ok.ok j _ hj
  rw [h3] at h6
  injection h6 with h6;injection h6 with e1 e2
  subst e1 e2
  rcases Nat.eq_zero_or_pos c with hc|hc
  ·have hx:=h7 hc
   subst hx hc
   exact .sl g σ [] A 0 0 0 [] (fun h=>by simp at h) ⟨Nat.le_refl _,Nat.zero_le _⟩ rfl (fun j u hu=>by simp at hu) (fun j x u hx=>by simp [Mb] at hx)
  ·obtain ⟨us,junk,q1,q2,q3,q4⟩:=h9 hc
   have hlen:xs.length≤c:=by
     have:xs.length*sz σ≤c*sz σ:=by rw [←q4,←Pd,←q2.1];simp
     exact Nat.le_of_mul_le_mul_right this (Ij σ)
   obtain ⟨v1,v2⟩:=M.hview j _ b c hj hc h3 hn
   exact .sl g σ xs A c b 0 us (fun _=>⟨h4 hc,(Array.getElem?_eq_some_iff.1 q1).1,v1,fun hg'=>v2 (by subst hg';simpa using hg)⟩) ⟨hlen,h8⟩ q2.1 (fun j u hu=>by rw [Nat.zero_add];exact Fq q1 hu) (fun j x u hx hu=>M.ri (q2.2 j x u hx hu))
theorem G9 (M:Si gv ρ w E X h β E' X' h' β') {t:T0} {v:PV} {l:List Hv} {u:Value} (hf:Vm gv ρ h t v=some l) (hc:C1 w E X h β v u):∃y,(∀r,Ah t (l++r)=some (y,r))∧Ri w E' X' y u:=by
  unfold Vm at hf
  split at hf
  ·exact F9 (fun _ _=>M.ri) hf hc
  ·rename_i g τ j
   split at hf
   ·rename_i t' σ xs hj
    cases hb:((!g||gv)&&Pg ρ j) with
    |false=>rw [hb] at hf;cases hf
    |true =>
     rw [hb] at hf
     simp only [cond_true] at hf
     simp only [Bool.and_eq_true] at hb
     split at hf
     ·rename_i ys hy
      obtain ⟨e,he⟩:=Gq hy
      subst e
      subst he
      injection hf with hf;subst hf
      have hcc:Ci σ σ xs=some xs:=by cases σ<;>rfl
      exact ⟨.sl g σ xs,fun r=>by simp only [List.cons_append,List.nil_append,Ah,hcc],M.view hj (PL hb.2) hb.1 hc⟩
     ·cases hf
   ·cases hf
  ·cases hf
theorem nX {j:Nat} (hj:Ay h j=true):∃t τ,∃xs:List (El τ),h[j]? =some (.row t τ xs):=by
  cases e:h[j]? with
  |none=>simp [Ay,e] at hj
  |some o=>cases o<;>first|exact ⟨_,_,_,rfl⟩|simp [Ay,e] at hj
theorem QL {j:Nat} (hj:Cc h j=true):∃t τ,h[j]? =some (.vrow t τ):=by
  cases e:h[j]? with
  |none=>simp [Cc,e] at hj
  |some o=>cases o<;>first|exact ⟨_,_,rfl⟩|simp [Cc,e] at hj
theorem RL (M:Si gv ρ w E X h β E' X' h' β') {t:T1} {v:PV} {l:List Hv} {u:Value} (hf:Lj gv ρ h t v=some l) (hc:C1 w E X h β v u):∃y,(∀r,Sf t (l++r)=some (y,r))∧C1 w E' X' h' β' y u:=by
  unfold Lj at hf
  split at hf
  ·obtain ⟨y,h1,h2⟩:=G9 M hf hc
   exact ⟨.im y,fun r=>by simp only [Sf,h1],h2⟩
  ·rename_i k j
   split at hf
   ·rename_i i hi
    cases hb:(Nat.beq i j&&Ay h j) with
    |false=>rw [hb] at hf;cases hf
    |true =>
     rw [hb] at hf
     injection hf with hf;subst hf
     simp only [Bool.and_eq_true] at hb
     have e:=Nat.eq_of_beq_eq_true hb.1
     subst e
     obtain ⟨t0,τ0,xs0,hr⟩:=nX hb.2
     refine ⟨.own k,fun r=>rfl,(M.hlen k i hi).1,(M.hlen k i hi).2,hc.2.2.1,fun t τ xs' hk=>?_⟩
     rcases M.hrow k i t τ xs' hi hk with ⟨xs,h1,h2⟩|⟨h1,_⟩
     ·obtain ⟨b,c,A,h3,h4,h5,h6⟩:=hc.2.2.2 t τ xs h1
      exact ⟨b,c,A,M.hβ k i _ hi h3,by rw [←h2];exact h4,h5,fun _=>trivial⟩
     ·obtain ⟨_,_,h2⟩:=QL h1
      rw [hr] at h2;cases h2
   ·cases hf
  ·rename_i k
   split at hf
   ·rename_i i hi
    cases hb:Cc h i with
    |false=>rw [hb] at hf;cases hf
    |true =>
     rw [hb] at hf
     injection hf with hf;subst hf
     have hc:Ri w E X .nil u:=hc
     obtain ⟨A0,rfl⟩:∃A0,u=.slice A0 0 0:=by cases hc with|nil A0=>exact ⟨A0,rfl⟩
     obtain ⟨t0,τ0,hv⟩:=QL hb
     obtain ⟨B,hB⟩:=M.ok.ok i _ hv
     refine ⟨.own k,fun r=>rfl,(M.hlen k i hi).1,(M.hlen k i hi).2,⟨_,_,_,rfl⟩,fun t τ xs' hk=>?_⟩
     rcases M.hrow k i t τ xs' hi hk with ⟨xs,h1,h2⟩|⟨_,h2⟩
     ·rw [hv] at h1;cases h1
     ·subst h2
      exact ⟨B,0,A0,M.hβ k i _ hi hB,rfl,fun h=>by omega,fun _=>trivial⟩
   ·cases hf
  ·rename_i k o j p
   split at hf
   ·rename_i i hi
    cases hb:(Nat.beq i j&&Nat.beq o p) with
    |false=>rw [hb] at hf;cases hf
    |true =>
     rw [hb] at hf
     injection hf with hf;subst hf
     simp only [Bool.and_eq_true] at hb
     have e:=Nat.eq_of_beq_eq_true hb.1
     have e2:=Nat.eq_of_beq_eq_true hb.2
     subst e e2
     obtain ⟨b,c,h1,h2⟩:=hc
     exact ⟨.ptr k o,fun r=>rfl,b,c,M.hβ k i _ hi h1,h2⟩
   ·cases hf
  ·rename_i ts o cs p
   cases hb:Nat.beq o p with
   |false=>rw [hb] at hf;cases hf
   |true =>
    rw [hb] at hf
    simp only [cond_true] at hf
    have e:=Nat.eq_of_beq_eq_true hb
    subst e
    obtain ⟨b,p,us,h1,h2,h3,h4,h5⟩:=hc
    obtain ⟨ys,h6,h7⟩:=Wo (R:=Ri w E X) (R':=Ri w E' X') (fun t x l u h hc=>F9 (fun _ _=>M.ri) h hc) hf h5
    exact ⟨.at_ ys o,fun r=>by simp only [Sf,h6],b,p,us,h1,M.hE b h2,h3,h4,h7⟩
  ·rename_i ts o j p
   split at hf
   ·rename_i t' cs hj
    cases hb:(Nat.beq o p&&Pg ρ j) with
    |false=>rw [hb] at hf;cases hf
    |true =>
     rw [hb] at hf
     simp only [cond_true] at hf
     simp only [Bool.and_eq_true] at hb
     have e:=Nat.eq_of_beq_eq_true hb.1
     subst e
     obtain ⟨b,c,h1,rfl⟩:=hc
     obtain ⟨b',c',us,h2,h3,h4,h5⟩:=M.ok.ok j _ hj
     rw [h1] at h2
     injection h2 with h2;injection h2 with e1 e2
     subst e1 e2
     obtain ⟨ys,h6,h7⟩:=Wo (R:=C1 w E X h β) (R':=Ri w E' X') (fun t x l u h hc=>G9 M h hc) hf h4
     refine ⟨.at_ ys o,fun r=>by simp only [Sf,h6],b,0,us,by rw [Nat.zero_add],(M.hview j _ b c hj trivial h1 (PL hb.2)).1,(Array.getElem?_eq_some_iff.1 h3).1,fun i v hv=>by rw [Nat.zero_add];exact Fq (junk:=[]) (by simpa using h3) hv,h7⟩
   ·cases hf
  ·cases hf
theorem H9 (M:Si gv ρ w E X h β E' X' h' β') {t:T2} {v:PV} {l:List Hv} {u:Value} (hf:Vo gv ρ h t v=some l) (hc:C2 w E X h β v u):∃y,(∀r,Jh t (l++r)=some (y,r))∧C2 w E' X' h' β' y u:=by
  unfold Vo at hf
  split at hf
  ·obtain ⟨us,rfl,h1⟩:=hc
   obtain ⟨ys,h2,h3⟩:=Wo (R:=C1 w E X h β) (R':=C1 w E' X' h' β') (fun t x l u h hc=>RL M h hc) hf h1
   exact ⟨.agg ys,fun r=>by simp only [Jh,h2],us,rfl,h3⟩
  ·rename_i f ts f' cs
   cases hb:Nat.beq f f' with
   |false=>rw [hb] at hf;cases hf
   |true =>
    rw [hb] at hf
    simp only [cond_true] at hf
    have e:=Nat.eq_of_beq_eq_true hb
    subst e
    obtain ⟨us,rfl,h1⟩:=hc
    obtain ⟨ys,h2,h3⟩:=Wo (R:=C1 w E X h β) (R':=C1 w E' X' h' β') (fun t x l u h hc=>RL M h hc) hf h1
    exact ⟨.fn f ys,fun r=>by simp only [Jh,h2],us,rfl,h3⟩
  ·rename_i t
   have hc1:C1 w E X h β v u:=by
     cases v<;>first|exact hc|(simp [Lj,Vm] at hf;done)|(cases t<;>simp [Lj,Vm] at hf)
   obtain ⟨y,h1,h2⟩:=RL M hf hc1
   exact ⟨y,fun r=>by simp only [Jh,h1],h2.c2⟩
  ·cases hf
theorem C2.cv {v:PV} {u:Value} (hc:C2 w E X h β v u):Cv w E X h β v u:=by cases v<;>first|exact hc|exact hc.elim
theorem nY (M:Si gv ρ w E X h β E' X' h' β') {t:Tm} {v:PV} {l:List Hv} {u:Value} (hf:HC gv ρ h t v=some l) (hc:Cv w E X h β v u):∃y,(∀r,Kj t (l++r)=some (y,r))∧Cv w E' X' h' β' y u:=by
  unfold HC at hf
  split at hf
  ·obtain ⟨us,rfl,h1⟩:=hc
   obtain ⟨ys,h2,h3⟩:=Wo (R:=C2 w E X h β) (R':=C2 w E' X' h' β') (fun t x l u h hc=>H9 M h hc) hf h1
   exact ⟨.tup ys,fun r=>by simp only [Kj,h2],us,rfl,h3⟩
  ·rename_i t
   have hc1:C2 w E X h β v u:=by
     cases v<;>first|exact hc|(cases t<;>(simp [Vo] at hf;try (rename_i t1;cases t1<;>simp [Lj,Vm] at hf)))
   obtain ⟨y,h1,h2⟩:=H9 M hf hc1
   exact ⟨y,fun r=>by simp only [Kj,h1],h2.cv⟩
  ·cases hf
end
end Go.Proofs.YtjffopopheiinaaGreatDoor
namespace Go.Proofs.YtjffopopheiinaaGreatDoor
open Go.RowKit
section
variable {gv:Bool} {ρ:List Nat} {h:List Fa}
theorem JC (σ:Ty) (xs:List (El σ)):Ci σ σ xs=some xs:=by cases σ<;>rfl
theorem I9 {t:T0} {x:IV} {l:List Hv} (hf:Zx t x=some l):∃y,∀r,Ah t (l++r)=some (y,r):=by
  unfold Zx at hf
  split at hf
  ·rename_i k k' x
   cases hb:Qo k' k with
   |false=>rw [hb] at hf;cases hf
   |true=>rw [hb] at hf;injection hf with hf;subst hf;exact ⟨_,fun r=>rfl⟩
  ·injection hf with hf;subst hf;exact ⟨_,fun r=>rfl⟩
  ·injection hf with hf;subst hf;exact ⟨_,fun r=>rfl⟩
  ·rename_i g τ g' σ xs
   cases hb:(!g||g') with
   |false=>rw [hb] at hf;cases hf
   |true =>
    rw [hb] at hf
    simp only [cond_true] at hf
    split at hf
    ·rename_i ys hy
     injection hf with hf;subst hf
     exact ⟨.sl g τ ys,fun r=>by simp only [List.cons_append,List.nil_append,Ah,JC]⟩
    ·cases hf
  ·rename_i g τ
   injection hf with hf;subst hf;exact ⟨.sl g τ [],fun r=>by simp only [List.cons_append,List.nil_append,Ah,JC]⟩
  ·cases hf
theorem J9 {t:T0} {v:PV} {l:List Hv} (hf:Vm gv ρ h t v=some l):∃y,∀r,Ah t (l++r)=some (y,r):=by
  unfold Vm at hf
  split at hf
  ·exact I9 hf
  ·rename_i g τ j
   split at hf
   ·rename_i t' σ xs hj
    cases hb:((!g||gv)&&Pg ρ j) with
    |false=>rw [hb] at hf;cases hf
    |true =>
     rw [hb] at hf
     simp only [cond_true] at hf
     split at hf
     ·rename_i ys hy
      injection hf with hf;subst hf
      exact ⟨.sl g τ ys,fun r=>by simp only [List.cons_append,List.nil_append,Ah,JC]⟩
     ·cases hf
   ·cases hf
  ·cases hf
theorem Kq {t:T1} {v:PV} {l:List Hv} (hf:Lj gv ρ h t v=some l):∃y,∀r,Sf t (l++r)=some (y,r):=by
  unfold Lj at hf
  split at hf
  ·obtain ⟨y,h1⟩:=J9 hf
   exact ⟨.im y,fun r=>by simp only [Sf,h1]⟩
  ·rename_i k j
   split at hf
   ·rename_i i hi
    cases hb:(Nat.beq i j&&Ay h j) with
    |false=>rw [hb] at hf;cases hf
    |true=>rw [hb] at hf;injection hf with hf;subst hf;exact ⟨.own k,fun r=>rfl⟩
   ·cases hf
  ·rename_i k
   split at hf
   ·rename_i i hi
    cases hb:Cc h i with
    |false=>rw [hb] at hf;cases hf
    |true=>rw [hb] at hf;injection hf with hf;subst hf;exact ⟨.own k,fun r=>rfl⟩
   ·cases hf
  ·rename_i k o j p
   split at hf
   ·rename_i i hi
    cases hb:(Nat.beq i j&&Nat.beq o p) with
    |false=>rw [hb] at hf;cases hf
    |true=>rw [hb] at hf;injection hf with hf;subst hf;exact ⟨.ptr k o,fun r=>rfl⟩
   ·cases hf
  ·rename_i ts o cs p
   cases hb:Nat.beq o p with
   |false=>rw [hb] at hf;cases hf
   |true =>
    rw [hb] at hf
    obtain ⟨_,ys,h6,_⟩:=Gk (g:=Ah) (fun t x l h=>I9 h) hf
    exact ⟨.at_ ys o,fun r=>by simp only [Sf,h6]⟩
  ·rename_i ts o j p
   split at hf
   ·cases hb:(Nat.beq o p&&Pg ρ j) with
    |false=>rw [hb] at hf;cases hf
    |true =>
     rw [hb] at hf
     obtain ⟨_,ys,h6,_⟩:=Gk (g:=Ah) (fun t x l h=>J9 h) hf
     exact ⟨.at_ ys o,fun r=>by simp only [Sf,h6]⟩
   ·cases hf
  ·cases hf
inductive Di (gv:Bool) (ρ:List Nat) (h:List Fa) (j:Nat):Fa→Prop
  |dead:Di gv ρ h j .dead
  |row (t:TypeId) (τ:Ty) (xs:List (El τ)) (hj:h[j]? =some (.row t τ xs)):Di gv ρ h j (.row t τ xs)
  |nil (t:TypeId) (τ:Ty) (hj:Cc h j=true):Di gv ρ h j (.row t τ [])
  |box (t:TypeId) (cs cs':List PV) (ts:List T1) (lk:List Hv) (hj:h[j]? =some (.box t cs)) (hf:Og (Lj gv ρ h) ts cs=some lk) (hg:∀r,Ig Sf ts (lk++r)=some (cs',r)):Di gv ρ h j (.box t cs')
theorem K9 {T:OT} {j:Nat} {l:List Hv} (hf:IC gv ρ h T j=some l):∃y,(∀r,Um T (l++r)=some (y,r))∧Di gv ρ h j y:=by
  unfold IC at hf
  split at hf
  ·injection hf with hf;subst hf;exact ⟨.dead,fun r=>rfl,.dead⟩
  ·rename_i t τ
   split at hf
   ·rename_i t' σ xs hj
    cases hb:Nat.beq t t' with
    |false=>rw [hb] at hf;cases hf
    |true =>
     rw [hb] at hf
     have e:=Nat.eq_of_beq_eq_true hb
     subst e
     simp only [cond_true] at hf
     split at hf
     ·rename_i ys hy
      obtain ⟨e,he⟩:=Gq hy
      subst e
      subst he
      injection hf with hf;subst hf
      exact ⟨_,fun r=>by simp only [List.cons_append,List.nil_append,Um,JC],.row t σ xs hj⟩
     ·cases hf
   ·rename_i t' σ hj
    cases hb:Nat.beq t t' with
    |false=>rw [hb] at hf;cases hf
    |true =>
     rw [hb] at hf
     injection hf with hf;subst hf
     exact ⟨_,fun r=>by simp only [List.cons_append,List.nil_append,Um,JC],.nil t τ (by simp [Cc,hj])⟩
   ·cases hf
  ·rename_i t ts
   split at hf
   ·rename_i t' cs hj
    cases hb:Nat.beq t t' with
    |false=>rw [hb] at hf;cases hf
    |true =>
     rw [hb] at hf
     have e:=Nat.eq_of_beq_eq_true hb
     subst e
     simp only [cond_true] at hf
     obtain ⟨_,ys,h6,_⟩:=Gk (g:=Sf) (fun t x l h=>Kq h) hf
     exact ⟨.box t ys,fun r=>by simp only [Um,h6],.box t cs ys ts l hj hf h6⟩
   ·cases hf
theorem nZ {os:List OT} {l:List Hv} (hf:Og (IC gv ρ h) os ρ=some l):∃os',(∀r,Ig Um os (l++r)=some (os',r))∧os'.length=ρ.length∧∀(k:Nat) o',os'[k]? =some o'→∃j,ρ[k]? =some j∧Di gv ρ h j o':=by
  obtain ⟨h0,os',h1,h2,h3⟩:=Gk (f:=IC gv ρ h) (g:=Um) (fun T j l h=>by obtain ⟨y,h1,_⟩:=K9 h;exact ⟨y,h1⟩) hf
  refine ⟨os',h1,by rw [h2,h0],fun k o' hk=>?_⟩
  obtain ⟨T,j,lk,q1,q2,q3,q4⟩:=h3 k o' hk
  obtain ⟨y,q5,q6⟩:=K9 q3
  have:=(q4 []).symm.trans (q5 [])
  injection this with this
  injection this with this
  subst this
  exact ⟨j,q2,q6⟩
end
def Sc (ρ:List Nat) (β:List (Nat×Nat)):List (Nat×Nat):=ρ.map fun j=>β.getD j (0,0)
section
variable {gv:Bool} {ρ:List Nat} {w:World} {E X E' X':Nat→Prop} {h os:List Fa} {β:List (Nat×Nat)}
theorem BU {k j:Nat} {p:Nat×Nat} (h1:ρ[k]? =some j) (h2:β[j]? =some p):(Sc ρ β)[k]? =some p:=by
  unfold Sc
  rw [List.getElem?_map,h1];simp [List.getD,h2]
theorem oA {k j:Nat} {p:Nat×Nat} (hj:j<β.length) (h1:ρ[k]? =some j) (h2:(Sc ρ β)[k]? =some p):β[j]? =some p:=by
  unfold Sc at h2
  rw [List.getElem?_map,h1] at h2
  simpa [List.getD,List.getElem?_eq_getElem hj] using h2
theorem oB {j c:Nat} {o':Fa} (hw:Di gv ρ h j o') (hl:Qc o' c) (hc:∀b,Cc h j=true→β[j]? =some (b,c)→c=0) {b:Nat} (hβ:β[j]? =some (b,c)):∃o,h[j]? =some o∧Qc o c:=by
  cases hw with
  |dead=>exact hl.elim
  |row t τ xs hj=>exact ⟨_,hj,hl⟩
  |nil t τ hj=>have:=hc b hj hβ;subst this;exact absurd hl (Nat.lt_irrefl 0)
  |box t cs cs' ts lk hj hf hg=>exact ⟨_,hj,trivial⟩
theorem oC (hh:Xd w E X h β) {j b c:Nat} (hv:Cc h j=true) (hβ:β[j]? =some (b,c)):c=0:=by
  obtain ⟨t,τ,e⟩:=QL hv
  obtain ⟨B,hB⟩:=hh.ok j _ e
  rw [hβ] at hB
  injection hB with hB;injection hB
theorem By (hh:Xd w E X h β) (hlt:∀j∈ρ,j<h.length) (hos:∀(k:Nat) o',os[k]? =some o'→∃j,ρ[k]? =some j∧Di gv ρ h j o') {k b c:Nat} {o':Fa} (h1:os[k]? =some o') (h2:Qc o' c) (h3:(Sc ρ β)[k]? =some (b,c)):∃j o,ρ[k]? =some j∧h[j]? =some o∧Qc o c∧β[j]? =some (b,c):=by
  obtain ⟨j,hj,hw⟩:=hos k o' h1
  have hβ:=oA (by rw [hh.len];exact hlt j (List.mem_of_getElem? hj)) hj h3
  obtain ⟨o,h4,h5⟩:=oB hw h2 (fun b hv hb=>oC hh hv hb) hβ
  exact ⟨j,o,hj,h4,h5,hβ⟩
theorem CU (hh:Xd w E X h β) (hlt:∀j∈ρ,j<h.length) (hos:∀(k:Nat) o',os[k]? =some o'→∃j,ρ[k]? =some j∧Di gv ρ h j o') {b:Nat} (hl:Ka os (Sc ρ β) b):Ka h β b:=by
  obtain ⟨k,o',c,h1,h2,h3⟩:=hl
  obtain ⟨j,o,_,h4,h5,h6⟩:=By hh hlt hos h1 h2 h3
  exact ⟨j,o,c,h4,h5,h6⟩
theorem DU (hos:∀(k:Nat) o',os[k]? =some o'→∃j,ρ[k]? =some j∧Di gv ρ h j o') (k:Nat):Cc os k=false:=by
  cases e:os[k]? with
  |none=>simp [Cc,e]
  |some o =>
   obtain ⟨j,_,hw⟩:=hos k o e
   cases hw<;>simp [Cc,e]
theorem L9 (hh:Xd w (Ka h β) X h β) (hlt:∀j∈ρ,j<h.length) (hlen:os.length=ρ.length) (hos:∀(k:Nat) o',os[k]? =some o'→∃j,ρ[k]? =some j∧Di gv ρ h j o')
    (hX:∀b,¬Ka h β b→¬X b→¬X' b) (hg:∀b,gv=true→Ka h β b→¬Ka os (Sc ρ β) b→¬X' b):Si gv ρ w (Ka h β) X h β (Ka os (Sc ρ β)) X' os (Sc ρ β):=by
  refine ⟨hh,fun b hn hl=>hn (CU hh hlt hos hl),hX,fun k j p h1 h2=>BU h1 h2,fun k j t τ xs' h1 h2=>?_,fun k j h1=>⟨by rw [hlen];exact (List.getElem?_eq_some_iff.1 h1).1,DU hos k⟩,fun j o b c h1 h2 h3 h4=>?_⟩
  ·obtain ⟨j',h3,hw⟩:=hos k _ h2
   rw [h1] at h3
   injection h3 with h3
   subst h3
   cases hw with
   |row _ _ _ hj=>exact .inl ⟨xs',hj,rfl⟩
   |nil _ _ hj=>exact .inr ⟨hj,rfl⟩
  ·have hno:¬Ka os (Sc ρ β) b:=fun ⟨k,o',c',q1,q2,q3⟩=>by
     obtain ⟨j',o2,q4,q5,q6,q7⟩:=By hh hlt hos q1 q2 q3
     have:=hh.inj j j' o o2 b c c' h1 q5 h2 q6 h3 q7
     subst this
     exact h4 k q4
   exact ⟨hno,fun hgv=>hg b hgv ⟨j,o,c,h1,h2,h3⟩ hno⟩
theorem Si.obj (M:Si gv ρ w E X h β E' X' os (Sc ρ β)) {k j:Nat} {o':Fa} (hk:ρ[k]? =some j) (hw:Di gv ρ h j o'):Om w E' X' os (Sc ρ β) k o':=by
  cases hw with
  |dead=>trivial
  |row t τ xs hj =>
   obtain ⟨b,c,h1,h2,h3,h4⟩:=M.ok.ok j _ hj
   refine ⟨b,c,M.hβ k j _ hk h1,h2,h3,fun hc=>?_⟩
   obtain ⟨us,junk,h5,h6,h7⟩:=h4 hc
   exact ⟨us,junk,h5,h6.mono fun x u h=>M.ri h,h7⟩
  |nil t τ hj =>
   obtain ⟨t',τ',e⟩:=QL hj
   obtain ⟨B,hB⟩:=M.ok.ok j _ e
   exact ⟨B,0,M.hβ k j _ hk hB,fun _=>rfl,Nat.zero_le _,fun h=>by omega⟩
  |box t cs cs' ts lk hj hf hg =>
   obtain ⟨b,c,us,h1,h2,h3,h4⟩:=M.ok.ok j _ hj
   obtain ⟨ys,h5,h6⟩:=Wo (R:=C1 w E X h β) (R':=C1 w E' X' os (Sc ρ β)) (fun t x l u h hc=>RL M h hc) hf h3
   have:=(hg []).symm.trans (h5 [])
   injection this with this
   injection this with this
   subst this
   exact ⟨b,c,us,M.hβ k j _ hk h1,h2,h6,h4⟩
theorem M9 (hh:Xd w (Ka h β) X h β) (M:Si gv ρ w (Ka h β) X h β (Ka os (Sc ρ β)) X' os (Sc ρ β)) (hlt:∀j∈ρ,j<h.length) (hnd:ρ.Nodup) (hlen:os.length=ρ.length) (hos:∀(k:Nat) o',os[k]? =some o'→∃j,ρ[k]? =some j∧Di gv ρ h j o')
    (hnx:∀b,Ka os (Sc ρ β) b→¬X' b):Xd w (Ka os (Sc ρ β)) X' os (Sc ρ β):=by
  refine ⟨by unfold Sc;rw [List.length_map,hlen],fun _ h=>h,hnx,fun k o' hk=>?_,fun i j o o' b c c' hi hj li lj bi bj=>?_⟩
  ·obtain ⟨j,h1,h2⟩:=hos k o' hk
   exact M.obj h1 h2
  ·obtain ⟨i',oi,h1,h2,h3,h4⟩:=By hh hlt hos hi li bi
   obtain ⟨j',oj,h5,h6,h7,h8⟩:=By hh hlt hos hj lj bj
   have:=hh.inj i' j' oi oj b c c' h2 h6 h3 h7 h4 h8
   subst this
   exact (List.getElem?_inj (List.getElem?_eq_some_iff.1 h1).1 hnd).1 (h1.trans h5.symm)
end
def Xo:List Fa→Bool
  |[]=>true
  | .vrow _ _::r=>Xo r
  |_::_=>false
theorem Sb.virt {C:Nc} {a:Act} {w:World}:∀(vs:List Fa) {st:St} {β:List (Nat×Nat)},Xo vs=true→Ab C st a w β→∃β',Ab C ⟨st.t,st.h++vs⟩ a w β'∧Zb w st.h β w (st.h++vs) β'
  |[],st,β,_,S=>⟨β,by rw [List.append_nil];exact S,by rw [List.append_nil];exact Zb.refl _ _ _⟩
  | .vrow t τ::r,st,β,hv,S=>by
    obtain ⟨S1,hs⟩:=S.new (w':=w) (o:=.vrow t τ) (B:=w.heap.size) (c:=0) (Below.refl _ _) (fun h=>h.elim) (fun E' hE h' β' hle hβ hl=>⟨_,hl⟩)
    obtain ⟨β',S2,hs2⟩:=Sb.virt r hv S1
    rw [List.append_assoc] at S2 hs2
    exact ⟨β',S2,hs.trans hs2⟩
  | .dead::r,st,β,hv,S=>by cases hv
  | .row _ _ _::r,st,β,hv,S=>by cases hv
  | .box _ _::r,st,β,hv,S=>by cases hv
end Go.Proofs.YtjffopopheiinaaGreatDoor
namespace Go.Proofs.YtjffopopheiinaaGreatDoor
open Go.RowKit
def SL:List Nat→Bool
  |[]=>true
  |j::r=>Pg r j&&SL r
theorem EU:∀{ρ:List Nat},SL ρ=true→ρ.Nodup
  |[],_=>List.nodup_nil
  |j::r,h=>by
   simp only [SL,Bool.and_eq_true] at h
   refine List.nodup_cons.2 ⟨fun hm=>?_,EU h.2⟩
   obtain ⟨k,hk⟩:=List.getElem?_of_mem hm
   exact PL h.1 k hk
def TL (n:Nat):List Nat→Bool
  |[]=>true
  |j::r=>Nat.blt j n&&TL n r
theorem FU {n:Nat}:∀{ρ:List Nat},TL n ρ=true→∀j∈ρ,j<n
  |[],_,j,h=>by simp at h
  |i::r,h,j,hj=>by
   simp only [TL,Bool.and_eq_true] at h
   rcases List.mem_cons.1 hj with rfl|hj
   ·exact Nat.blt_eq.mp h.1
   ·exact FU h.2 j hj
def UL:Nat→Nat→List Nat→List Fa→Bool
  |0,_,_,_=>true
  |m+1,k,j::r,h=>Nat.beq j k&&!Cc h k&&UL m (k+1) r h
  |_+1,_,[],_=>false
theorem N9:∀{m k:Nat} {ρ:List Nat} {h:List Fa},UL m k ρ h=true→m≤ρ.length∧∀i,i<m→ρ[i]? =some (k+i)∧Cc h (k+i)=false
  |0,k,ρ,h,_=>⟨Nat.zero_le _,fun i hi=>by omega⟩
  |m+1,k,[],h,hp=>by cases hp
  |m+1,k,j::r,h,hp=>by
   simp only [UL,Bool.and_eq_true] at hp
   obtain ⟨⟨h1,h2⟩,h3⟩:=hp
   have e:=Nat.eq_of_beq_eq_true h1
   subst e
   obtain ⟨h4,h5⟩:=N9 h3
   refine ⟨by simp;omega,fun i hi=>?_⟩
   cases i with
   |zero=>exact ⟨rfl,by simpa using h2⟩
   |succ i =>
    have:=h5 i (by omega)
    rw [show j+(i+1)=j+1+i by omega]
    exact ⟨by simpa using this.1,this.2⟩
def Wm (M:Nat) (ρ:List Nat) (h:List Fa):Bool:=UL M 0 ρ h&&SL ρ&&TL h.length ρ
section
variable {C:Nc} {st:St} {a:Act} {w:World} {β:List (Nat×Nat)} {M:Nat} {ρ:List Nat}
theorem O9 {S:Rc} {gv:Bool} {h:List Fa} {vs:List PV} {l:List Hv} (hf:S.find gv ρ h vs=some l):∃ds os,S.fill l=some (ds,os)∧os.length=ρ.length∧(∀(k:Nat) o',os[k]? =some o'→∃j,ρ[k]? =some j∧Di gv ρ h j o')∧∀w E X β E' X' β',Si gv ρ w E X h β E' X' os β'→∀us,F2 (Cv w E X h β) vs us→F2 (Cv w E' X' os β') ds us:=by
  unfold Rc.find at hf
  split at hf
  ·rename_i l1 l2 h1 h2
   injection hf with hf
   subst hf
   obtain ⟨os,h3,h4,h5⟩:=nZ h2
   have hM:∃ds,(∀r,Ig Kj S.vs (l1++r)=some (ds,r)):=by
     obtain ⟨_,ds,h6,_⟩:=Gk (f:=HC gv ρ h) (g:=Kj) (fun t x l hx=>by
       unfold HC at hx
       split at hx
       ·obtain ⟨_,ys,q,_⟩:=Gk (f:=Vo gv ρ h) (g:=Jh) (fun t x l hx=>by
          unfold Vo at hx
          split at hx
          ·obtain ⟨_,ys,q,_⟩:=Gk (g:=Sf) (fun t x l h=>Kq h) hx
           exact ⟨.agg ys,fun r=>by simp only [Jh,q]⟩
          ·rename_i f ts f' cs
           cases hb:Nat.beq f f' with
           |false=>rw [hb] at hx;cases hx
           |true =>
            rw [hb] at hx
            obtain ⟨_,ys,q,_⟩:=Gk (g:=Sf) (fun t x l h=>Kq h) hx
            exact ⟨.fn f ys,fun r=>by simp only [Jh,q]⟩
          ·obtain ⟨y,q⟩:=Kq hx
           exact ⟨y,fun r=>by simp only [Jh,q]⟩
          ·cases hx) hx
        exact ⟨.tup ys,fun r=>by simp only [Kj,q]⟩
       ·unfold Vo at hx
        split at hx
        ·obtain ⟨_,ys,q,_⟩:=Gk (g:=Sf) (fun t x l h=>Kq h) hx
         exact ⟨.agg ys,fun r=>by simp only [Kj,Jh,q]⟩
        ·rename_i f ts f' cs
         cases hb:Nat.beq f f' with
         |false=>rw [hb] at hx;cases hx
         |true =>
          rw [hb] at hx
          obtain ⟨_,ys,q,_⟩:=Gk (g:=Sf) (fun t x l h=>Kq h) hx
          exact ⟨.fn f ys,fun r=>by simp only [Kj,Jh,q]⟩
        ·obtain ⟨y,q⟩:=Kq hx
         exact ⟨y,fun r=>by simp only [Kj,Jh,q]⟩
        ·cases hx
       ·cases hx) h1
     exact ⟨ds,h6⟩
   obtain ⟨ds,h6⟩:=hM
   have h3':=h3 []
   rw [List.append_nil] at h3'
   refine ⟨ds,os,by unfold Rc.fill;rw [h6];simp only [h3'],h4,h5,fun w E X β E' X' β' Mv us hF=>?_⟩
   obtain ⟨ds',h7,h8⟩:=Wo (R:=Cv w E X h β) (R':=Cv w E' X' os β') (fun t x l u hx hc=>nY Mv hx hc) h1 hF
   have:=(h6 []).symm.trans (h7 [])
   injection this with this
   injection this with this
   subst this
   exact h8
  ·cases hf
theorem GU {S:Rc} {vs:List PV} {l:List Hv} (H:Ab C st a w β) (hM:C.h.length=M) (hc:Wm M ρ st.h=true) (hf:S.find true ρ st.h vs=some l):∃ds os,S.fill l=some (ds,os)∧(∀us,F2 (Cv w (Ka st.h β) C.X st.h β) vs us→F2 (Cv w (Ka os (Sc ρ β)) C.X os (Sc ρ β)) ds us)∧Xd w (Ka os (Sc ρ β)) C.X os (Sc ρ β)∧Zb C.w C.h C.β w os (Sc ρ β):=by
  simp only [Wm,Bool.and_eq_true] at hc
  obtain ⟨⟨hp,hnd⟩,hlt⟩:=hc
  have hlt:=FU hlt
  obtain ⟨ds,os,h1,h2,h3,h4⟩:=O9 hf
  have hl:∀b,Ka os (Sc ρ β) b→Ka st.h β b:=fun b=>CU H.heap hlt h3
  have Mv:=L9 (gv:=true) (X:=C.X) (X':=C.X) H.heap hlt h2 h3 (fun _ _ h=>h) (fun b _ hb _=>H.heap.nx b hb)
  obtain ⟨p1,p2⟩:=N9 hp
  refine ⟨ds,os,h1,h4 _ _ _ _ _ _ _ Mv,M9 H.heap Mv hlt (EU hnd) h2 h3 (fun b hb=>H.heap.nx b (hl b hb)),?_⟩
  have St:=H.step
  refine ⟨St.os,St.tape,St.output,St.size,St.block,fun b hb h=>St.new b hb (hl b h),fun k p hk=>?_,by rw [hM,h2];exact p1,fun k t τ xs' hk e=>?_,fun k hk e=>by rw [DU h3 k] at e;cases e⟩
  ·have hkM:k<M:=by rw [←hM,←H.cl.1];exact (List.getElem?_eq_some_iff.1 hk).1
   have:=(p2 k hkM).1
   rw [Nat.zero_add] at this
   exact BU this (St.beta k p hk)
  ·obtain ⟨j,hj,hw⟩:=h3 k _ e
   have hkM:k<M:=by rw [←hM];exact hk
   obtain ⟨q1,q2⟩:=p2 k hkM
   rw [Nat.zero_add] at q1 q2
   rw [q1] at hj
   injection hj with hj
   subst hj
   cases hw with
   |row _ _ _ hj=>exact St.hle.2.1 k t τ xs' hk hj
   |nil _ _ hj=>rw [q2] at hj;cases hj
end
def KC (t:List (Nat×PV)):List Nat→Option (List PV)
  |[]=>some []
  |i::r=>match Ed t i,KC t r with|some v,some l=>some (v::l)|_,_=>none
def VL:List Nat→List PV→List (Nat×PV)
  |i::r,v::l=>(i,v)::VL r l
  |_,_=>[]
theorem P9 {C:Nc} {E:Nat→Prop} {st:St} {a:Act} {w:World} {β:List (Nat×Nat)} (S:Sb C E st a w β):∀{ns:List Nat} {vs:List PV},KC st.t ns=some vs→∃us,F2 (Cv w E C.X st.h β) vs us∧us.length=ns.length∧∀(k i:Nat) u,ns[k]? =some i→us[k]? =some u→a.tmps[i]? =some u
  |[],vs,h=>by
   simp only [KC,Option.some.injEq] at h
   subst h
   exact ⟨[],F2.nil,rfl,fun k i u h=>by simp at h⟩
  |i::r,vs,h=>by
   simp only [KC] at h
   split at h
   ·rename_i v l hv hl
    injection h with h
    subst h
    obtain ⟨u,h1,h2⟩:=S.tm i v hv
    obtain ⟨us,h3,h4,h5⟩:=P9 S hl
    refine ⟨u::us,F2.cons h2 h3,by simp [h4],fun k j u' hk hu=>?_⟩
    cases k with
    |zero=>simp at hk hu;subst hk hu;exact h1
    |succ k=>exact h5 k j u' (by simpa using hk) (by simpa using hu)
   ·cases h
theorem Q9:∀{ns:List Nat} {ds:List PV} {i:Nat} {v:PV},Ed (VL ns ds) i=some v→∃k:Nat,ns[k]? =some i∧ds[k]? =some v
  |[],ds,i,v,h=>by cases ds<;>cases h
  |_::_,[],i,v,h=>by cases h
  |j::r,d::l,i,v,h=>by
   simp only [VL,Ed] at h
   cases hb:Nat.beq j i with
   |true =>
    rw [hb] at h
    injection h with h
    subst h
    have:=Nat.eq_of_beq_eq_true hb
    subst this
    exact ⟨0,rfl,rfl⟩
   |false =>
    rw [hb] at h
    obtain ⟨k,h1,h2⟩:=Q9 h
    exact ⟨k+1,by simpa using h1,by simpa using h2⟩
def WL:T1→PV→List (Nat×Option Nat)
  | .own k,.own j=>[(k,some j)]
  | .own k,.im .nil=>[(k,none)]
  | .ptr k _,.ptr j _=>[(k,some j)]
  |_,_=>[]
def Cy {α:Type} (f:α→PV→List (Nat×Option Nat)):List α→List PV→List (Nat×Option Nat)
  |t::ts,x::xs=>f t x++Cy f ts xs
  |_,_=>[]
def R9:T2→PV→List (Nat×Option Nat)
  | .agg ts,.agg cs=>Cy WL ts cs
  | .fn _ ts,.fn _ cs=>Cy WL ts cs
  | .one t,v=>WL t v
  |_,_=>[]
def oD:Tm→PV→List (Nat×Option Nat)
  | .tup ts,.tup cs=>Cy R9 ts cs
  | .c t,v=>R9 t v
  |_,_=>[]
def HU:Nat→List (Nat×Option Nat)→Option (Option Nat)
  |_,[]=>none
  |k,(j,v)::r=>bif Nat.beq j k then some v else HU k r
def LC (M:Nat) (h:List Fa):Nat→List OT→List (Nat×Option Nat)→List (Nat×Option Nat)
  |_,[],acc=>acc
  |k,.box _ ts::r,acc=>match (bif Nat.blt k M then some (some k) else HU k acc) with
   |some (some j)=>(match h[j]? with
    |some (.box _ cs)=>LC M h (k+1) r (acc++Cy WL ts cs)
    |_=>LC M h (k+1) r acc)
   |_=>LC M h (k+1) r acc
  |k,_::r,acc=>LC M h (k+1) r acc
def XL (M:Nat):Nat→Nat→List OT→List (Nat×Option Nat)→List Nat×List Fa
  |_,_,[],_=>([],[])
  |k,n,o::r,acc=>match (bif Nat.blt k M then some (some k) else HU k acc),o with
   |some (some j),_=>let x:=XL M (k+1) n r acc;(j::x.1,x.2)
   |some none,.row t τ=>let x:=XL M (k+1) (n+1) r acc;(n::x.1,.vrow t τ::x.2)
   |_,_=>let x:=XL M (k+1) n r acc;(1000000000::x.1,x.2)
def Rc.rho (S:Rc) (M:Nat) (h:List Fa) (vs:List PV):List Nat×List Fa:=XL M 0 h.length S.os (LC M h 0 S.os (Cy oD S.vs vs))
def Rc.get (S:Rc) (M:Nat) (h:List Fa) (vs:List PV):Option (List Hv) :=
  match S.rho M h vs with
  |(ρ,vr)=>bif Xo vr&&Wm M ρ (h++vr) then S.find true ρ (h++vr) vs else none
structure Yd where
  ns:List Nat
  S:Rc
  hs:List Ho
def Yd.st (F:Yd) (s:HL F.hs):St:=match F.S.fill (up F.hs s) with
  |some (ds,os)=>⟨VL F.ns ds,os⟩
  |none=>⟨[],[]⟩
def Yd.get (F:Yd) (M:Nat) (st:St):Option (HL F.hs):=match KC st.t F.ns with
  |some vs=>(match F.S.get M st.h vs with|some l=>Lf F.hs l|none=>none)
  |none=>none
def YL (M:Nat) (st1 st:St):Prop:=∀C a w β,C.h.length=M→Ab C st a w β→∃β1,Ab C st1 a w β1
theorem YL.refl (M:Nat) (st:St):YL M st st:=fun _ _ _ β _ S=>⟨β,S⟩
theorem Yd.imp {F:Yd} {M:Nat} {st:St} {s:HL F.hs} (h:F.get M st=some s):YL M (F.st s) st:=fun C a w β hM S=>by
  unfold Yd.get at h
  split at h
  case h_2=>cases h
  rename_i vs hvs
  split at h
  case h_2=>cases h
  rename_i l hl
  unfold Rc.get at hl
  split at hl
  rename_i ρ vr hρ
  cases hb:(Xo vr&&Wm M ρ (st.h++vr)) with
  |false=>rw [hb] at hl;cases hl
  |true =>
   rw [hb] at hl
   simp only [cond_true] at hl
   simp only [Bool.and_eq_true] at hb
   obtain ⟨β',S',hs⟩:=S.virt vr hb.1
   obtain ⟨us,h1,h2,h3⟩:=P9 S' hvs
   obtain ⟨ds,os,h4,h5,h6,h7⟩:=GU S' hM hb.2 hl
   refine ⟨Sc ρ β',?_⟩
   unfold Yd.st
   rw [Uo h,h4]
   refine ⟨S'.cl,S'.xw,h7,h6,S'.sz,S'.df,fun i v hi=>?_⟩
   obtain ⟨k,h8,h9⟩:=Q9 hi
   obtain ⟨u,h10,h11⟩:=(h5 us h1).get h9
   exact ⟨u,h3 k i u h8 h10,h11⟩
end Go.Proofs.YtjffopopheiinaaGreatDoor
namespace Go.Proofs.YtjffopopheiinaaGreatDoor
open Go.RowKit
def Ty.flat:Ty→Bool
  | .gr| .ls| .db| .pk=>false
  |_=>true
def T0.good (gv:Bool):T0→Bool
  | .sl g _=>g&&!gv
  |_=>true
def T1.good (gv:Bool):T1→Bool
  | .b t=>t.good gv
  | .at_ _ _=>false
  |_=>true
def T2.good (gv:Bool):T2→Bool
  | .one t=>t.good gv
  | .agg ts=>ts.all (T1.good gv)
  | .fn _ _=>false
def Tm.good (gv:Bool):Tm→Bool
  | .c t=>t.good gv
  | .tup ts=>ts.all (T2.good gv)
def OT.good (gv:Bool):OT→Bool
  | .box _ ts=>ts.all (T1.good gv)
  | .row _ τ=>!gv||τ.flat
  |_=>true
def Rc.good (gv:Bool) (S:Rc):Bool:=S.vs.all (Tm.good gv)&&S.os.all (OT.good gv)
inductive GI (gv:Bool):IV→Prop
  |s (v:Value):GI gv (.s v)
  |nil:GI gv .nil
  |sl (τ:Ty) (xs:List (El τ)) (h:gv=false):GI gv (.sl true τ xs)
inductive G1 (gv:Bool):PV→Prop
  |im (x:IV) (h:GI gv x):G1 gv (.im x)
  |own (k:Nat):G1 gv (.own k)
  |ptr (k o:Nat):G1 gv (.ptr k o)
inductive G2 (gv:Bool):PV→Prop
  |one (v:PV) (h:G1 gv v):G2 gv v
  |agg (cs:List PV) (h:∀v∈cs,G1 gv v):G2 gv (.agg cs)
inductive GM (gv:Bool):PV→Prop
  |c (v:PV) (h:G2 gv v):GM gv v
  |tup (cs:List PV) (h:∀v∈cs,G2 gv v):GM gv (.tup cs)
inductive GO (gv:Bool):Fa→Prop
  |dead:GO gv .dead
  |row (t:TypeId) (τ:Ty) (xs:List (El τ)) (h:gv=true→τ.flat=true):GO gv (.row t τ xs)
  |box (t:TypeId) (cs:List PV) (h:∀v∈cs,G1 gv v):GO gv (.box t cs)
theorem oE {gv:Bool} (τ:Ty) (x:El τ) (hf:gv=true→τ.flat=true):∀y∈cells τ x,GI gv y:=by
  have hs:τ.flat=false→gv=false:=fun h=>by
    cases gv with
    |false=>rfl
    |true=>rw [hf rfl] at h;cases h
  cases τ<;>intro y hy<;>simp [cells,iI] at hy<;>(first|(rcases hy with rfl|rfl|rfl|rfl)|(rcases hy with rfl|rfl|rfl)|(rcases hy with rfl|rfl)|subst hy)<;>first|exact .s _|exact .sl _ _ (hs rfl)
theorem S9 {gv:Bool} (τ:Ty) (xs:List (El τ)) (hf:gv=true→τ.flat=true):∀y∈Mb τ xs,GI gv y:=fun y hy=>by
  unfold Mb at hy
  obtain ⟨x,_,hx⟩:=List.mem_flatMap.1 hy
  exact oE τ x hf y hx
section
variable {gv:Bool}
theorem oG {t:T0} {l r:List Hv} {x:IV} (hg:t.good gv=true) (h:Ah t l=some (x,r)):GI gv x:=by
  unfold Ah at h
  split at h
  ·injection h with h;injection h with h;subst h;exact .s _
  ·injection h with h;injection h with h;subst h;exact .s _
  ·injection h with h;injection h with h;subst h;exact .s _
  ·split at h
   ·injection h with h;injection h with h;subst h
    simp only [T0.good,Bool.and_eq_true,Bool.not_eq_true'] at hg
    obtain ⟨rfl,hg⟩:=hg
    exact .sl _ _ hg
   ·cases h
  ·cases h
theorem Dy {α β:Type} {f:α→List Hv→Option (β×List Hv)} {g:α→Bool} {G:β→Prop} (H:∀t l r x,g t=true→f t l=some (x,r)→G x):∀{ts:List α} {l r:List Hv} {xs:List β},ts.all g=true→Ig f ts l=some (xs,r)→∀x∈xs,G x
  |[],l,r,xs,_,h=>by simp only [Ig,Option.some.injEq,Prod.mk.injEq] at h;obtain ⟨rfl,_⟩:=h;intro x hx;simp at hx
  |t::ts,l,r,xs,hg,h=>by
   simp only [Ig] at h
   simp only [List.all_cons,Bool.and_eq_true] at hg
   split at h
   ·rename_i h1
    split at h
    ·rename_i h2
     injection h with h;injection h with h3 h4
     subst h3
     intro x hx
     rcases List.mem_cons.1 hx with rfl|hx
     ·exact H _ _ _ _ hg.1 h1
     ·exact Dy H hg.2 h2 x hx
    ·cases h
   ·cases h
theorem IU {t:T1} {l r:List Hv} {x:PV} (hg:t.good gv=true) (h:Sf t l=some (x,r)):G1 gv x:=by
  unfold Sf at h
  split at h
  ·split at h
   ·rename_i h1;injection h with h;injection h with h;subst h;exact .im _ (oG hg h1)
   ·cases h
  ·injection h with h;injection h with h;subst h;exact .own _
  ·injection h with h;injection h with h;subst h;exact .ptr _ _
  ·cases hg
theorem T9 {t:T2} {l r:List Hv} {x:PV} (hg:t.good gv=true) (h:Jh t l=some (x,r)):G2 gv x:=by
  unfold Jh at h
  split at h
  ·exact .one _ (IU hg h)
  ·split at h
   ·rename_i h1;injection h with h;injection h with h;subst h;exact .agg _ (Dy (G:=G1 gv) (fun t l r x hg h=>IU hg h) hg h1)
   ·cases h
  ·cases hg
theorem oH {t:Tm} {l r:List Hv} {x:PV} (hg:t.good gv=true) (h:Kj t l=some (x,r)):GM gv x:=by
  unfold Kj at h
  split at h
  ·exact .c _ (T9 hg h)
  ·split at h
   ·rename_i h1;injection h with h;injection h with h;subst h;exact .tup _ (Dy (G:=G2 gv) (fun t l r x hg h=>T9 hg h) hg h1)
   ·cases h
theorem oI {t:OT} {l r:List Hv} {x:Fa} (hg:t.good gv=true) (h:Um t l=some (x,r)):GO gv x:=by
  unfold Um at h
  split at h
  ·injection h with h;injection h with h;subst h;exact .dead
  ·split at h
   ·injection h with h;injection h with h;subst h;exact .row _ _ _ fun e=>by simpa [OT.good,e] using hg
   ·cases h
  ·cases h
  ·split at h
   ·rename_i h1;injection h with h;injection h with h;subst h;exact .box _ _ (Dy (G:=G1 gv) (fun t l r x hg h=>IU hg h) hg h1)
   ·cases h
theorem Rc.fill_good {S:Rc} {l:List Hv} {ds:List PV} {os:List Fa} (hg:S.good gv=true) (h:S.fill l=some (ds,os)):(∀v∈ds,GM gv v)∧∀o∈os,GO gv o:=by
  simp only [Rc.good,Bool.and_eq_true] at hg
  unfold Rc.fill at h
  split at h
  ·rename_i h1
   split at h
   ·rename_i h2
    injection h with h;injection h with h3 h4
    subst h3 h4
    exact ⟨Dy (G:=GM gv) (fun t l r x hg h=>oH hg h) hg.1 h1,Dy (G:=GO gv) (fun t l r x hg h=>oI hg h) hg.2 h2⟩
   ·cases h
  ·cases h
end
structure Oa where
  AS:Rc
  ah:List Ho
  RS:Rc
  rh:List Ho
  sh:HL ah→Option (HL rh)
def GC (P:Program) (f:FuncId) (e:Oa):Prop:=∀s r,e.sh s=some r→∀ds os,e.AS.fill (up e.ah s)=some (ds,os)→∀d h',e.RS.fill (up e.rh r)=some ([d],h')→∀w X β args,(∀b,X b→b<w.heap.size)→Xd w (Ka os β) X os β→F2 (Cv w (Ka os β) X os β) ds args→Jf w os β→Calls P f args.toArray w fun ex w'=>∃u β',ex=.returned u∧Zb w os β w' h' β'∧Xd w' (Ka h' β') X h' β'∧Cv w' (Ka h' β') X h' β' d u
def sg (ρ:List Nat) (n:Nat) (k:Nat):Nat:=match ρ[k]? with|some j=>j|none=>n+(k-ρ.length)
def Ey (ρ:List Nat) (n:Nat):PV→PV
  | .own k=>.own (sg ρ n k)
  | .ptr k o=>.ptr (sg ρ n k) o
  |v=>v
def JU (ρ:List Nat) (n:Nat):PV→PV
  | .agg cs=>.agg (cs.map (Ey ρ n))
  |v=>Ey ρ n v
def KU (ρ:List Nat) (n:Nat):PV→PV
  | .tup cs=>.tup (cs.map (JU ρ n))
  |v=>JU ρ n v
def Xm (ρ:List Nat) (n:Nat):Fa→Fa
  | .box t cs=>.box t (cs.map (Ey ρ n))
  |o=>o
def Vc (ρ:List Nat) (n:Nat):List Nat→List Fa→List Fa→List Fa
  |j::r,o::os,h=>Vc ρ n r os (h.set j (Xm ρ n o))
  |_,os,h=>h++os.map (Xm ρ n)
theorem U9 (ρ:List Nat) (n:Nat):∀(l:List Nat) (os h:List Fa),l.length≤os.length→(Vc ρ n l os h).length=h.length+(os.length-l.length)
  |[],os,h,_=>by simp [Vc]
  |j::r,[],h,hl=>by simp at hl
  |j::r,o::os,h,hl=>by
   rw [Vc,U9 ρ n r os _ (by simpa using hl)]
   simp
theorem LU (ρ:List Nat) (n:Nat):∀(l:List Nat) (os h:List Fa),l.length≤os.length→∀i,i<h.length→i∉l→(Vc ρ n l os h)[i]? =h[i]?
  |[],os,h,_,i,hi,_=>by simp only [Vc];rw [List.getElem?_append_left hi]
  |j::r,[],h,hl,i,hi,_=>by simp at hl
  |j::r,o::os,h,hl,i,hi,hn=>by
   rw [Vc,LU ρ n r os _ (by simpa using hl) i (by simpa using hi) (fun h=>hn (List.mem_cons_of_mem _ h)),List.getElem?_set]
   rw [if_neg (fun e=>hn (by rw [e];exact List.mem_cons_self ..))]
theorem MU (ρ:List Nat) (n:Nat):∀(l:List Nat) (os h:List Fa),l.length≤os.length→l.Nodup→(∀j∈l,j<h.length)→∀(k j:Nat),l[k]? =some j→(Vc ρ n l os h)[j]? =os[k]?.map (Xm ρ n)
  |[],os,h,_,_,_,k,j,hk=>by simp at hk
  |i::r,[],h,hl,_,_,k,j,hk=>by simp at hl
  |i::r,o::os,h,hl,hnd,hlt,k,j,hk=>by
   have hnd:=List.nodup_cons.1 hnd
   cases k with
   |zero =>
    simp at hk
    subst hk
    rw [Vc,LU ρ n r os _ (by simpa using hl) i (by simpa using hlt i (List.mem_cons_self ..)) hnd.1,List.getElem?_set,if_pos rfl,if_pos (hlt i (List.mem_cons_self ..))]
    rfl
   |succ k =>
    rw [Vc,MU ρ n r os _ (by simpa using hl) hnd.2 (fun q hq=>by simpa using hlt q (List.mem_cons_of_mem _ hq)) k j (by simpa using hk)]
    simp
theorem NU (ρ:List Nat) (n:Nat):∀(l:List Nat) (os h:List Fa),l.length≤os.length→∀i,(Vc ρ n l os h)[h.length+i]? =os[l.length+i]?.map (Xm ρ n)
  |[],os,h,_,i=>by simp only [Vc];rw [List.getElem?_append_right (by omega)];simp
  |j::r,[],h,hl,i=>by simp at hl
  |j::r,o::os,h,hl,i=>by
   have:=NU ρ n r os (h.set j (Xm ρ n o)) (by simpa using hl) i
   rw [List.length_set] at this
   rw [Vc,this,List.length_cons,show r.length+1+i=(r.length+i)+1 by omega,List.getElem?_cons_succ]
section
variable {gv:Bool} {w w':World} {E X E' X':Nat→Prop} {h h':List Fa} {β β':List (Nat×Nat)} {ρ:List Nat} {n:Nat}
theorem oJ (H:∀b,¬E b→¬X b→¬E' b∧¬X' b) {x:IV} {u:Value} (hg:GI false x) (hc:Ri w E X x u):Ri w E' X' x u:=by
  induction hc with
  |s v=>exact .s v
  |nil A=>exact .nil A
  |sl g τ xs A cap b o us hA hcap hl hcc hr ih =>
   cases hg
   exact .sl true τ xs A cap b o us (fun h=>⟨(hA h).1,(hA h).2.1,(H b (hA h).2.2.1 ((hA h).2.2.2 rfl)).1,fun _=>(H b (hA h).2.2.1 ((hA h).2.2.2 rfl)).2⟩) hcap hl hcc (fun j x u hx hu=>ih j x u hx hu (S9 τ xs (fun h=>by cases h) x (List.mem_of_getElem? hx)))
theorem oK (H:∀x u,GI gv x→Ri w E X x u→Ri w E' X' x u) (hβ:∀(k:Nat) p,β[k]? =some p→β'[sg ρ n k]? =some p) (hlen:∀k,k<h.length→sg ρ n k<h'.length∧Cc h' (sg ρ n k)=false) (hrow:∀k t τ (xs:List (El τ)),k<h.length→h'[sg ρ n k]? =some (.row t τ xs)→h[k]? =some (.row t τ xs)) {v:PV} {u:Value} (hg:G1 gv v) (hc:C1 w E X h β v u):C1 w E' X' h' β' (Ey ρ n v) u:=by
  cases hg with
  |im x hx=>exact H x u hx hc
  |own k =>
   obtain ⟨h1,h2,h3,h4⟩:=hc
   refine ⟨(hlen k h1).1,(hlen k h1).2,h3,fun t τ xs e=>?_⟩
   obtain ⟨b,c,A,q1,q2,q3,q4⟩:=h4 t τ xs (hrow k t τ xs h1 e)
   exact ⟨b,c,A,hβ _ _ q1,q2,q3,fun _=>trivial⟩
  |ptr k o=>obtain ⟨b,c,h1,h2⟩:=hc;exact ⟨b,c,hβ _ _ h1,h2⟩
theorem oL (H:∀v u,G1 gv v→C1 w E X h β v u→C1 w E' X' h' β' (Ey ρ n v) u) {v:PV} {u:Value} (hg:GM gv v) (hc:Cv w E X h β v u):Cv w E' X' h' β' (KU ρ n v) u:=by
  have h2:∀v u,G2 gv v→C2 w E X h β v u→C2 w E' X' h' β' (JU ρ n v) u:=fun v u hg hc=>by
    cases hg with
    |one v hv =>
     cases hv with
     |im x hx=>exact (H (.im x) u (.im x hx) hc).c2
     |own k=>exact (H (.own k) u (.own k) hc).c2
     |ptr k o=>exact (H (.ptr k o) u (.ptr k o) hc).c2
    |agg cs hcs=>obtain ⟨us,h1,h3⟩:=hc;exact ⟨us,h1,(h3.monoI fun x hx u hu=>H x u (hcs x hx) hu).mapl fun _ _ h=>h⟩
  cases hg with
  |c v hv =>
   cases hv with
   |one v hv =>
    cases hv with
    |im x hx=>exact (h2 (.im x) u (.one _ (.im x hx)) hc).cv
    |own k=>exact (h2 (.own k) u (.one _ (.own k)) hc).cv
    |ptr k o=>exact (h2 (.ptr k o) u (.one _ (.ptr k o)) hc).cv
   |agg cs hcs=>exact (h2 (.agg cs) u (.agg cs hcs) hc).cv
  |tup cs hcs=>obtain ⟨us,h1,h3⟩:=hc;exact ⟨us,h1,(h3.monoI fun x hx u hu=>h2 x u (hcs x hx) hu).mapl fun _ _ h=>h⟩
end
end Go.Proofs.YtjffopopheiinaaGreatDoor
namespace Go.Proofs.YtjffopopheiinaaGreatDoor
open Go.RowKit
section
variable {P:Program} {C:Nc} {a:Act} {w:World} {β1:List (Nat×Nat)} {t:List (Nat×PV)} {h1:List Fa} {ρ:List Nat}
theorem MC {ρ:List Nat} {n:Nat} {o:Fa} {c:Nat}:Qc (Xm ρ n o) c↔Qc o c:=by cases o<;>exact Iff.rfl
theorem oM {gv:Bool} {f:FuncId} {e:Oa} (S1:Ab C ⟨t,h1⟩ a w β1) (hg:GC P f e) (hgood:e.RS.good gv=true) (hnd:ρ.Nodup) (hlt:∀j∈ρ,j<h1.length) {vs:List PV} {s:HL e.ah} {r:HL e.rh} (hf:e.AS.find gv ρ h1 vs=some (up e.ah s)) (hs:e.sh s=some r)
    {us:List Value} (hus:F2 (Cv w (Ka h1 β1) C.X h1 β1) vs us) {d:PV} {h':List Fa} (g5:e.RS.fill (up e.rh r)=some ([d],h')):Calls P f us.toArray w fun ex w'=>∃u βc,ex=.returned u∧Ab C ⟨t,Vc ρ h1.length ρ h' h1⟩ a w' βc∧Zb w h1 β1 w' (Vc ρ h1.length ρ h' h1) βc∧Cv w' (Ka (Vc ρ h1.length ρ h' h1) βc) C.X (Vc ρ h1.length ρ h' h1) βc (KU ρ h1.length d) u∧∀b,b<w.heap.size→(∀k∈ρ,∀c,β1[k]?≠some (b,c))→w'.heap[b]? =w.heap[b]? :=by
  obtain ⟨ds,os,g1,g2,g3,g4⟩:=O9 hf
  have g6:=hg s r hs ds os g1 d h' g5
  have hliv:∀b,Ka os (Sc ρ β1) b→Ka h1 β1 b:=fun b=>CU S1.heap hlt g3
  have Mv:=L9 (gv:=gv) (X:=C.X) (X':=fun b=>C.X b∨(gv=false∧Ka h1 β1 b∧¬Ka os (Sc ρ β1) b)) S1.heap hlt g2 g3 (fun b hn hx h=>h.elim hx fun h=>hn h.2.1) (fun b hgv hl _ hx=>hx.elim (S1.heap.nx b hl) fun h=>by rw [hgv] at h;exact absurd h.1 (by decide))
  have hH:=M9 S1.heap Mv hlt hnd g2 g3 (fun b hb hx=>hx.elim (S1.heap.nx b (hliv b hb)) fun h=>h.2.2 hb)
  refine Calls.mono (g6 w _ _ us (fun b hb=>hb.elim (S1.xlt b) fun h=>Ka.lt S1.heap h.2.1) hH (g4 _ _ _ _ _ _ _ Mv us hus) ((S1.cl.2.step S1.step).sub hliv)) ?_
  rintro ex w' ⟨u,β',rfl,hst,hh',hu⟩
  obtain ⟨gd,go⟩:=Rc.fill_good hgood g5
  have hb1:β1.length=h1.length:=S1.heap.len
  have hb':β'.length=h'.length:=hh'.len
  have hol:ρ.length≤h'.length:=by rw [←g2];exact hst.hle.1
  generalize hn:h1.length=n at *
  have sgβ:∀(k:Nat) p,β'[k]? =some p→(β1++β'.drop ρ.length)[sg ρ n k]? =some p:=fun k p hk=>by
    unfold sg
    cases hr:ρ[k]? with
    |some j =>
     have hj:j<n:=hlt j (List.mem_of_getElem? hr)
     have hjb:β1[j]? =some β1[j]:=List.getElem?_eq_getElem (by omega)
     have:=hst.beta k _ (BU hr hjb)
     rw [hk] at this
     injection this with this
     subst this
     show (β1++β'.drop ρ.length)[j]? =some β1[j]
     rw [List.getElem?_append_left (by omega)]
     exact hjb
    |none =>
     have hkl:=List.getElem?_eq_none_iff.1 hr
     show (β1++β'.drop ρ.length)[n+(k-ρ.length)]? =some p
     rw [List.getElem?_append_right (by omega),hb1,Nat.add_sub_cancel_left,List.getElem?_drop,show ρ.length+(k-ρ.length)=k by omega]
     exact hk
  have sgO:∀(k:Nat) o,h'[k]? =some o→(Vc ρ n ρ h' h1)[sg ρ n k]? =some (Xm ρ n o):=fun k o hk=>by
    unfold sg
    cases hr:ρ[k]? with
    |some j=>simp only;rw [MU ρ n ρ h' h1 hol hnd (fun j hj=>by rw [hn];exact hlt j hj) k j hr,hk];rfl
    |none =>
     have hkl:=List.getElem?_eq_none_iff.1 hr
     have:=NU ρ n ρ h' h1 hol (k-ρ.length)
     rw [hn,show ρ.length+(k-ρ.length)=k by omega,hk] at this
     exact this
  have hcl:(Vc ρ n ρ h' h1).length=n+(h'.length-ρ.length):=by rw [U9 ρ n ρ h' h1 hol,hn]
  have inv:∀(i:Nat) o,(Vc ρ n ρ h' h1)[i]? =some o→(i<n∧i∉ρ∧h1[i]? =some o)∨∃k o',h'[k]? =some o'∧i=sg ρ n k∧o=Xm ρ n o':=fun i o hi=>by
    rcases Nat.lt_or_ge i n with hin|hin
    ·by_cases hm:i∈ρ
     ·obtain ⟨k,hk⟩:=List.getElem?_of_mem hm
      rw [MU ρ n ρ h' h1 hol hnd (fun j hj=>by rw [hn];exact hlt j hj) k i hk] at hi
      obtain ⟨o',h2,rfl⟩:=Option.map_eq_some_iff.1 hi
      exact .inr ⟨k,o',h2,by unfold sg;rw [hk],rfl⟩
     ·rw [LU ρ n ρ h' h1 hol i (by omega) hm] at hi
      exact .inl ⟨hin,hm,hi⟩
    ·have:=NU ρ n ρ h' h1 hol (i-n)
     rw [hn,show n+(i-n)=i by omega,hi] at this
     obtain ⟨o',h2,h3⟩:=Option.map_eq_some_iff.1 this.symm
     refine .inr ⟨ρ.length+(i-n),o',h2,?_,h3.symm⟩
     unfold sg
     rw [List.getElem?_eq_none (by omega)]
     simp only
     omega
  have hkey:∀(k:Nat) (o':Fa) (b c:Nat),h'[k]? =some o'→(β1++β'.drop ρ.length)[sg ρ n k]? =some (b,c)→β'[k]? =some (b,c):=fun k o' b c h2 h3=>by
    have hkl:k<β'.length:=by rw [hb'];exact (List.getElem?_eq_some_iff.1 h2).1
    have h4:=List.getElem?_eq_getElem hkl
    rw [sgβ k _ h4] at h3
    rw [h4,h3]
  have livc:∀b,Ka (Vc ρ n ρ h' h1) (β1++β'.drop ρ.length) b→(∃i o c,i∉ρ∧h1[i]? =some o∧Qc o c∧β1[i]? =some (b,c))∨Ka h' β' b:=fun b ⟨i,o,c,q1,q2,q3⟩=>by
    rcases inv i o q1 with ⟨q4,q5,q6⟩|⟨k,o',q4,rfl,rfl⟩
    ·rw [List.getElem?_append_left (by omega)] at q3
     exact .inl ⟨i,o,c,q5,q6,q2,q3⟩
    ·exact .inr ⟨k,o',c,q4,MC.1 q2,hkey k o' b c q4 q3⟩
  have oth:∀(i:Nat) (o:Fa) (b c:Nat),i∉ρ→h1[i]? =some o→Qc o c→β1[i]? =some (b,c)→¬Ka os (Sc ρ β1) b:=fun i o b c q1 q2 q3 q4 ⟨k,o',c',q5,q6,q7⟩=>by
    obtain ⟨j,o2,q8,q9,q10,q11⟩:=By S1.heap (fun j hj=>by rw [hn];exact hlt j hj) g3 q5 q6 q7
    have:=S1.heap.inj i j o o2 b c c' q2 q9 q3 q10 q4 q11
    subst this
    exact q1 (List.mem_of_getElem? q8)
  have Hg:∀x u,GI gv x→Ri w' (Ka h' β') (fun b=>C.X b∨(gv=false∧Ka h1 β1 b∧¬Ka os (Sc ρ β1) b)) x u→Ri w' (Ka (Vc ρ n ρ h' h1) (β1++β'.drop ρ.length)) C.X x u:=fun x u hgx hc=>by
    cases hgx with
    |s v=>cases hc;exact .s _
    |nil=>cases hc;exact .nil _
    |sl τ xs hgv =>
     refine oJ (fun b q1 q2=>⟨fun hl=>?_,fun hx=>q2 (.inl hx)⟩) (.sl τ xs rfl) hc
     rcases livc b hl with ⟨i,o,c,q3,q4,q5,q6⟩|q3
     ·exact q2 (.inr ⟨hgv,⟨i,o,c,q4,q5,q6⟩,oth i o b c q3 q4 q5 q6⟩)
     ·exact q1 q3
  have hlen:∀k,k<h'.length→sg ρ n k<(Vc ρ n ρ h' h1).length∧Cc (Vc ρ n ρ h' h1) (sg ρ n k)=false:=fun k hk=>by
    have q1:=sgO k _ (List.getElem?_eq_getElem hk)
    refine ⟨(List.getElem?_eq_some_iff.1 q1).1,?_⟩
    have q2:=go _ (List.getElem_mem hk)
    unfold Cc
    rw [q1]
    generalize h'[k]=o at *
    cases q2<;>rfl
  have hrow:∀k t τ (xs:List (El τ)),k<h'.length→(Vc ρ n ρ h' h1)[sg ρ n k]? =some (.row t τ xs)→h'[k]? =some (.row t τ xs):=fun k t τ xs hk q=>by
    have q1:=sgO k _ (List.getElem?_eq_getElem hk)
    rw [q1] at q
    rw [List.getElem?_eq_getElem hk]
    generalize h'[k]=o at *
    injection q with q
    cases o<;>first|(cases q;done)|(simp only [Xm] at q;rw [q])
  have hC1:∀v u,G1 gv v→C1 w' (Ka h' β') _ h' β' v u→C1 w' (Ka (Vc ρ n ρ h' h1) (β1++β'.drop ρ.length)) C.X (Vc ρ n ρ h' h1) (β1++β'.drop ρ.length) (Ey ρ n v) u:=fun v u hgv hc=>oK Hg sgβ hlen hrow hgv hc
  have hblk:∀b,b<w.heap.size→¬Ka h1 β1 b→w'.heap[b]? =w.heap[b]? :=fun b hb hn=>hst.block b hb fun h=>hn (hliv b h)
  have hnew:∀b,b<w.heap.size→Ka (Vc ρ n ρ h' h1) (β1++β'.drop ρ.length) b→Ka h1 β1 b:=fun b hb hl=>by
    rcases livc b hl with ⟨i,o,c,q3,q4,q5,q6⟩|q3
    ·exact ⟨i,o,c,q4,q5,q6⟩
    ·exact hliv b (hst.new b hb q3)
  have hle:Fd h1 (Vc ρ n ρ h' h1):=⟨by rw [hcl,hn];omega,fun i t τ xs' hi q=>by
    rcases inv i _ q with ⟨_,_,q1⟩|⟨k,o',q1,rfl,q2⟩
    ·exact .inl ⟨xs',q1,rfl⟩
    ·have q3:h'[k]? =some (.row t τ xs'):=hrow k t τ xs' (List.getElem?_eq_some_iff.1 q1).1 q
     rcases Nat.lt_or_ge k ρ.length with hk|hk
     ·have hr:=List.getElem?_eq_getElem hk
      have e:sg ρ n k=ρ[k]:=by unfold sg;rw [hr]
      rw [e]
      rcases hst.hle.2.1 k t τ xs' (by rw [g2];exact hk) q3 with ⟨xs,q4,q5⟩|q4
      ·obtain ⟨j,q6,q7⟩:=g3 k _ q4
       rw [hr] at q6
       injection q6 with q6
       subst q6
       cases q7 with
       |row _ _ _ hj=>exact .inl ⟨xs,hj,q5⟩
       |nil _ _ hj=>exact .inr hj
      ·rw [DU g3 k] at q4;cases q4
     ·exfalso
      unfold sg at hi
      rw [List.getElem?_eq_none hk] at hi
      simp only at hi
      omega,fun i hi q=>by
    cases hq:(Vc ρ n ρ h' h1)[i]? with
    |none=>simp [Cc,hq] at q
    |some o =>
     rcases inv i o hq with ⟨_,_,q1⟩|⟨k,o',q1,rfl,rfl⟩
     ·unfold Cc at q ⊢;rw [hq] at q;rw [q1];exact q
     ·rw [(hlen k (List.getElem?_eq_some_iff.1 q1).1).2] at q;cases q⟩
  have hstep:Zb w h1 β1 w' (Vc ρ n ρ h' h1) (β1++β'.drop ρ.length):=⟨hst.os,hst.tape,hst.output,hst.size,hblk,hnew,Rm _,hle⟩
  have hE:∀b,b<w.heap.size→¬Ka h1 β1 b→¬Ka (Vc ρ n ρ h' h1) (β1++β'.drop ρ.length) b:=fun b hb hn h=>hn (hnew b hb h)
  refine ⟨u,β1++β'.drop ρ.length,rfl,S1.world hstep ⟨by rw [List.length_append,List.length_drop,hcl];omega,fun _ h=>h,fun b hb=>?_,fun i o hi=>?_,fun i j o o' b c c' hi hj li lj bi bj=>?_⟩,hstep,oL hC1 (gd d (List.mem_singleton.2 rfl)) hu,fun b hb hk=>?_⟩
  ·rcases livc b hb with ⟨i,o,c,q3,q4,q5,q6⟩|q3
   ·exact S1.heap.nx b ⟨i,o,c,q4,q5,q6⟩
   ·exact fun hx=>hh'.nx b q3 (.inl hx)
  ·rcases inv i o hi with ⟨q1,q2,q3⟩|⟨k,o',q1,rfl,rfl⟩
   ·exact (S1.heap.ok i o q3).keep (fun b c q4 q5=>hst.block b (Ka.lt S1.heap ⟨i,o,c,q3,q5,q4⟩) (oth i o b c q2 q3 q5 q4)) hblk hst.size hE hle (Rm _)
   ·have q2:=hh'.ok k o' q1
    have q3:=go _ (List.mem_of_getElem? q1)
    cases q3 with
    |dead=>trivial
    |row t τ xs hfl =>
     obtain ⟨b,c,z1,z2,z3,z4⟩:=q2
     refine ⟨b,c,sgβ _ _ z1,z2,z3,fun hc=>?_⟩
     obtain ⟨us',junk,y1,y2,y3⟩:=z4 hc
     exact ⟨us',junk,y1,y2.monoI fun x hx u hu=>Hg x u (S9 τ xs hfl x hx) hu,y3⟩
    |box t cs hcs =>
     obtain ⟨b,c,us',z1,z2,z3,z4⟩:=q2
     exact ⟨b,c,us',sgβ _ _ z1,z2,(z3.monoI fun x hx u hu=>hC1 x u (hcs x hx) hu).mapl fun _ _ h=>h,z4⟩
  ·rcases inv i o hi with ⟨q1,q2,q3⟩|⟨k,o1,q1,rfl,rfl⟩
   ·rw [List.getElem?_append_left (by omega)] at bi
    rcases inv j o' hj with ⟨p1,p2,p3⟩|⟨l,o2,p1,rfl,rfl⟩
    ·rw [List.getElem?_append_left (by omega)] at bj
     exact S1.heap.inj i j o o' b c c' q3 p3 li lj bi bj
    ·exfalso
     have bj:=hkey l o2 b c' p1 bj
     have hl:Ka h' β' b:=⟨l,o2,c',p1,MC.1 lj,bj⟩
     have hbw:b<w.heap.size:=Ka.lt S1.heap ⟨i,o,c,q3,li,bi⟩
     exact oth i o b c q2 q3 li bi (hst.new b hbw hl)
   ·have bi:=hkey k o1 b c q1 bi
    rcases inv j o' hj with ⟨p1,p2,p3⟩|⟨l,o2,p1,rfl,rfl⟩
    ·exfalso
     rw [List.getElem?_append_left (by omega)] at bj
     have hl:Ka h' β' b:=⟨k,o1,c,q1,MC.1 li,bi⟩
     have hbw:b<w.heap.size:=Ka.lt S1.heap ⟨j,o',c',p3,lj,bj⟩
     exact oth j o' b c' p2 p3 lj bj (hst.new b hbw hl)
    ·have bj:=hkey l o2 b c' p1 bj
     rw [hh'.inj k l o1 o2 b c c' q1 p1 (MC.1 li) (MC.1 lj) bi bj]
  ·refine hst.block b hb fun ⟨k,o',c,q1,q2,q3⟩=>?_
   obtain ⟨j,o2,q8,q9,q10,q11⟩:=By S1.heap (fun j hj=>by rw [hn];exact hlt j hj) g3 q1 q2 q3
   exact hk j (List.mem_of_getElem? q8) c q11
end
end Go.Proofs.YtjffopopheiinaaGreatDoor
namespace Go.Proofs.YtjffopopheiinaaGreatDoor
open Go.RowKit
abbrev AQ:=Exit→St→Prop
def Mf (C:Nc) (Q:AQ):Exit→Act→World→Prop:=fun e a w=>∃st β,Q e st∧Ab C st a w β
def NC (P:Program) (M N:Nat) (c:Code) (Q:AQ) (st:St):Prop:=∀C a w β,C.N=N→C.h.length=M→Ab C st a w β→c.wp P (Mf C Q) a w
def OU (P:Program) (M N:Nat) (ops:Array Oper) (Q:AQ) (l:List Oper) (st:St):Prop:=∀C a w β,C.N=N→C.h.length=M→Ab C st a w β→wpList P ops (Mf C Q) l a w
structure Xa where
  F:Yd
  eid:Nat
  FX:Yd
  FR:Yd
  sh:HL F.hs→Option (HL FX.hs⊕HL FR.hs)
structure Ma where
  tab:TypeId→Option TI
  Γ:FuncId→List PV→Option Oa
  N:Nat
  M:Nat
  plan:Nat→Option (Nat×List (Nat×Bool)×List Nat)
  loop:Nat→Option Xa
  bad:(ρ:Type)→Nat→Option Oper→St→Option ρ
def Xc (G:Ma):Prop:=∀ρ n o st,G.bad ρ n o st=none
def OC (t:List (Nat×PV)):List Operand→Option (List PV)
  |[]=>some []
  |x::r=>match Eb t x,OC t r with|some v,some l=>some (v::l)|_,_=>none
def ZL (st:St) (f:Operand) (args:List Operand):Option (FuncId×List PV):=match Eb st.t f,OC st.t args with
  |some (.fn g caps),some vs=>some (g,vs++caps)
  |_,_=>none
def PU:T1→PV→List Nat
  | .b (.sl true _),.own j=>[j]
  |_,_=>[]
def Ml {α:Type} (f:α→PV→List Nat):List α→List PV→List Nat
  |t::ts,x::xs=>f t x++Ml f ts xs
  |_,_=>[]
def oN:T2→PV→List Nat
  | .agg ts,.agg cs=>Ml PU ts cs
  | .fn _ ts,.fn _ cs=>Ml PU ts cs
  | .one t,v=>PU t v
  |_,_=>[]
def Lq:Tm→PV→List Nat
  | .c t,v=>oN t v
  |_,_=>[]
def Ei:List Nat→St→St
  |[],st=>st
  |k::r,st=>Ei r (frz k st)
theorem V9 {C:Nc} {a:Act} {w:World} {β:List (Nat×Nat)}:∀(l:List Nat) {st:St},Ab C st a w β→Ab C (Ei l st) a w β∧Zb w st.h β w (Ei l st).h β
  |[],st,S=>⟨S,Zb.refl _ _ _⟩
  |k::r,st,S=>by
   obtain ⟨h1,h2⟩:=V9 r (S.frz k)
   refine ⟨h1,Zb.trans ?_ h2⟩
   unfold frz
   split
   ·exact ⟨rfl,rfl,rfl,Nat.le_refl _,fun _ _ _=>rfl,fun b _=>KL,fun _ _ h=>h,LL _⟩
   ·exact Zb.refl _ _ _
def Nl (_:Rc):Bool:=false
theorem oO {S:Rc} (h:S.good false=true):S.good (Nl S)=true:=by
  cases e:Nl S with
  |false=>exact h
  |true =>
   cases e
def QU {ρ:Type} (bad:Nat→Option ρ) (d:Option Nat) (e:Oa) (ks:List Nat) (vr:List Fa) (t:List (Nat×PV)) (h1:List Fa) (vs:List PV) (K:List Nat→St→Option ρ):Option ρ :=
  bif Xo vr&&Wm 0 ks h1&&e.RS.good false then (match e.AS.find (Nl e.RS) ks h1 vs with
    |some l=>(match Lf e.ah l with
     |some s=>(e.sh s).bind fun r=>(match e.RS.fill (up e.rh r) with
      |some ([v],h')=>K ks (St.put ⟨t,Vc ks h1.length ks h' h1⟩ d (KU ks h1.length v))
      |_=>bad 23)
     |none=>bad 22)
    |none=>bad 21) else bad 20
def Mq {ρ:Type} (G:Ma) (o:Oper) (c:Call) (st:St) (K:List Nat→St→Option ρ):Option ρ:=match c.callee with
  | .value f=>match ZL st f c.args.toList with
    |some (g,vs0)=>(match G.Γ g vs0 with
     |some e=>(match ZL (Ei (bif Nl e.RS then [] else Ml Lq e.AS.vs vs0) st) f c.args.toList with
      |some (g',vs)=>bif Nat.beq g' g then QU (fun n=>G.bad ρ n (some o) st) o.dst e (e.AS.rho 0 (Ei (bif Nl e.RS then [] else Ml Lq e.AS.vs vs0) st).h vs).1 (e.AS.rho 0 (Ei (bif Nl e.RS then [] else Ml Lq e.AS.vs vs0) st).h vs).2 (Ei (bif Nl e.RS then [] else Ml Lq e.AS.vs vs0) st).t ((Ei (bif Nl e.RS then [] else Ml Lq e.AS.vs vs0) st).h++(e.AS.rho 0 (Ei (bif Nl e.RS then [] else Ml Lq e.AS.vs vs0) st).h vs).2) vs K else G.bad ρ 13 (some o) st
      |none=>G.bad ρ 12 (some o) st)
     |none=>G.bad ρ 11 (some o) st)
    |none=>G.bad ρ 10 (some o) st
  |_=>G.bad ρ 14 (some o) st
def Pa (P:Program) (Γ:FuncId→List PV→Option Oa):Prop:=∀f vs e,Γ f vs=some e→GC P f e∧∀args w,(callFunc f args).run P w=.ok (.enter f args) w
def RU (P:Program) (ks:List Nat) (o:Oper) (st st':St):Prop:=∀C a w β,Ab C st a w β→(∀i,o.dst=some i→i<C.N)→∀K Q,(∀u w' β',Ab C st' (a.put o.dst u) w' β'→Zb w st.h β w' st'.h β'→((∀k∈ks,k<st.h.length)→∀b,b<w.heap.size→(∀k∈ks,∀c,β[k]?≠some (b,c))→w'.heap[b]? =w.heap[b]?)→K (a.put o.dst u) w')→o.wp P a w K Q
section
variable {P:Program} {st:St} {o:Oper} {G:Ma}
theorem W9 {C:Nc} {E:Nat→Prop} {a:Act} {w:World} {β:List (Nat×Nat)} (S:Sb C E st a w β):∀{xs:List Operand} {vs:List PV},OC st.t xs=some vs→F2 (Cv w E C.X st.h β) vs (xs.map a.eval)
  |[],vs,h=>by
   simp only [OC,Option.some.injEq] at h
   subst h
   exact F2.nil
  |x::r,vs,h=>by
   simp only [OC] at h
   split at h
   ·rename_i v l hv hl
    injection h with h
    subst h
    exact F2.cons (S.op hv) (W9 S hl)
   ·cases h
theorem X9 {C:Nc} {E:Nat→Prop} {a:Act} {w:World} {β:List (Nat×Nat)} (S:Sb C E st a w β) {f:Operand} {xs:List Operand} {g:FuncId} {vs:List PV} (h:ZL st f xs=some (g,vs)):∃cs:List Value,a.eval f=.func (.func g) #[] cs.toArray∧F2 (Cv w E C.X st.h β) vs (xs.map a.eval++cs):=by
  unfold ZL at h
  split at h
  ·rename_i g' caps vs' hf hx
   injection h with h
   injection h with h1 h2
   subst h1 h2
   obtain ⟨us,h3,h4⟩:=S.op hf
   exact ⟨us,h3,(W9 S hx).app (h4.mono fun x u h=>h.cv)⟩
  ·cases h
theorem Z9 {ρ:Type} (HB:Xc G) (H:Pa P G.Γ) {c:Call} (ho:o.op=.call c) {K:List Nat→St→Option ρ} {r:ρ} (h:Mq G o c st K=some r):∃ks st',RU P ks o st st'∧K ks st'=some r:=by
  unfold Mq at h
  split at h
  case h_2=>rw [HB] at h;cases h
  rename_i f hcal
  split at h
  case h_2=>rw [HB] at h;cases h
  rename_i g vs0 hv0
  split at h
  case h_2=>rw [HB] at h;cases h
  rename_i e he
  obtain ⟨hgc,hrun⟩:=H g vs0 e he
  generalize (bif Nl e.RS then [] else Ml Lq e.AS.vs vs0)=js at h
  split at h
  case h_2=>rw [HB] at h;cases h
  rename_i g' vs hvs
  cases hq:Nat.beq g' g with
  |false=>rw [hq] at h;simp only [cond_false] at h;rw [HB] at h;cases h
  |true =>
   rw [hq] at h
   have hgg:=Nat.eq_of_beq_eq_true hq
   subst hgg
   simp only [cond_true] at h
   generalize (e.AS.rho 0 (Ei js st).h vs).1=ks at h
   generalize (e.AS.rho 0 (Ei js st).h vs).2=vr at h
   unfold QU at h
   cases hb:(Xo vr&&Wm 0 ks ((Ei js st).h++vr)&&e.RS.good false) with
   |false=>rw [hb] at h;simp only [cond_false] at h;rw [HB] at h;cases h
   |true =>
    rw [hb] at h
    simp only [cond_true] at h
    simp only [Bool.and_eq_true] at hb
    obtain ⟨⟨hb1,hb2⟩,hb3⟩:=hb
    split at h
    case h_2=>rw [HB] at h;cases h
    rename_i l hl
    split at h
    case h_2=>rw [HB] at h;cases h
    rename_i s hs
    obtain ⟨r1,h1,h2⟩:=Option.bind_eq_some_iff.1 h
    split at h2
    case h_2=>rw [HB] at h2;cases h2
    rename_i d h' hd
    refine ⟨ks,_,?_,h2⟩
    intro C a w β S hdst KK Q hK
    obtain ⟨S0,hst0⟩:=V9 js S
    obtain ⟨cs,hf,_⟩:=X9 S0 hvs
    obtain ⟨β1,S1,hst1⟩:=S0.virt vr hb1
    obtain ⟨cs',hf',hus⟩:=X9 (st:=⟨(Ei js st).t,(Ei js st).h++vr⟩) S1 hvs
    rw [hf] at hf'
    have hcs:cs'=cs:=by
      injection hf' with _ _ hf'
      have:=congrArg Array.toList hf'
      simpa using this.symm
    subst hcs
    simp only [Wm,Bool.and_eq_true] at hb2
    obtain ⟨⟨_,hnd⟩,hlt⟩:=hb2
    rw [←Uo hs] at hl
    have hcall:=oM S1 hgc (oO hb3) (EU hnd) (FU hlt) hl h1 hus hd
    have hex:(execOp a.eval o).run P w=.ok (.enter g' (c.args.toList.map a.eval++cs').toArray) w:=by
      obtain ⟨callee,args,argTypes⟩:=c
      simp only at hcal
      subst hcal
      simp only [execOp,ho,resolve,hf,Deferred.ofValue,Sem.run_bind,Sem.run_pure,Result.andThen_ok,invoke]
      rw [show (#[]++Array.map a.eval args++cs'.toArray)=(args.toList.map a.eval++cs').toArray from by apply Array.ext';simp,hrun]
    unfold Oper.wp
    rw [hex]
    refine Calls.mono hcall fun ex w' hx=>?_
    obtain ⟨u,βc,rfl,S2,hs2,hu,ht⟩:=hx
    have hstep:=(hst0.trans hst1).trans hs2
    refine hK u w' βc (S2.putL hdst hu) (by rw [Kf];exact hstep) fun hks b hbw hbk=>ht b hbw fun k hk c hc=>?_
    have hkl:k<β.length:=by rw [S.heap.len];exact hks k hk
    have h3:=List.getElem?_eq_getElem hkl
    have h4:=(hst0.trans hst1).beta k _ h3
    rw [hc] at h4
    injection h4 with h4
    exact hbk k hk c (by rw [h3,←h4])
def Jd (N:Nat):Option Nat→Bool
  |none=>true
  |some d=>Nat.blt d N
theorem Hk {N:Nat} {d:Option Nat} (h:Jd N d=true):∀i,d=some i→i<N:=fun i hi=>by
  subst hi
  exact Nat.blt_eq.mp h
def oP (st:St):Op→Option Nat
  | .slice _ x _ _ none=>match Eb st.t x with|some (.own k)=>some k|_=>none
  |_=>none
def Ik {ρ:Type} (G:Ma) (o:Oper) (st:St) (K:St→Option ρ):Option ρ:=bif Jd G.N o.dst then
  (match Dk G.tab st o.op with
  |some (c,v)=>bif c then K (st.put o.dst v) else none
  |none=>match Ll G.tab st o.op o.dst with
   |some (c,_,st',v)=>bif c then K (Hd st' o.dst v) else none
   |none=>match o.op with
    | .call c=>Mq G o c st (fun _ st'=>K st')
    |_=>match oP st o.op with
     |some k=>(match Dk G.tab (frz k st) o.op with
      |some (c,v)=>bif c then K ((frz k st).put o.dst v) else none
      |none=>G.bad ρ 1 (some o) st)
     |none=>G.bad ρ 1 (some o) st) else G.bad ρ 0 (some o) st
theorem aA {ρ:Type} (HB:Xc G) (HT:Wb P G.tab) (H:Pa P G.Γ) {K:St→Option ρ} {r:ρ} (h:Ik G o st K=some r):Jd G.N o.dst=true∧∃st',K st'=some r∧∀C a w β,Ab C st a w β→C.N=G.N→∀KK Q,(∀u w' β',Ab C st' (a.put o.dst u) w' β'→KK (a.put o.dst u) w')→o.wp P a w KK Q:=by
  unfold Ik at h
  cases hd:Jd G.N o.dst with
  |false=>rw [hd] at h;simp only [cond_false] at h;rw [HB] at h;cases h
  |true =>
   rw [hd] at h
   simp only [cond_true] at h
   refine ⟨rfl,?_⟩
   split at h
   ·rename_i c v hv
    cases c with
    |false=>cases h
    |true=>exact ⟨_,h,fun C a w β S hN KK Q hK=>VT (EL HT hv rfl) C a w β S (by rw [hN];exact Hk hd) KK Q fun u w' β' S' _ _=>hK u w' β' S'⟩
   ·split at h
    ·rename_i c bl st' v hv
     cases c with
     |false=>cases h
     |true=>exact ⟨_,h,fun C a w β S hN KK Q hK=>E9 HT hv rfl C a w β S (by rw [hN];exact Hk hd) KK Q fun u w' β' S' _ _=>hK u w' β' S'⟩
    ·split at h
     ·rename_i c hc
      obtain ⟨ks,st',h1,h2⟩:=Z9 HB H hc h
      exact ⟨st',h2,fun C a w β S hN KK Q hK=>h1 C a w β S (by rw [hN];exact Hk hd) KK Q fun u w' β' S' _ _=>hK u w' β' S'⟩
     ·split at h
      ·rename_i k _
       split at h
       ·rename_i c v hv
        cases c with
        |false=>cases h
        |true=>exact ⟨_,h,fun C a w β S hN KK Q hK=>VT (EL HT hv rfl) C a w β (S.frz k) (by rw [hN];exact Hk hd) KK Q fun u w' β' S' _ _=>hK u w' β' S'⟩
       ·rw [HB] at h;cases h
      ·rw [HB] at h;cases h
def aB:List (Nat×Bool)→Nat→Option Bool
  |[],_=>none
  |(j,b)::r,i=>bif Nat.beq j i then some b else aB r i
def AM (ops:List Oper) (j:Nat):Option Nat:=match ops[j]? with|some o=>o.dst|none=>none
inductive Gd where
  |go|skip|bad
  |fork (d:Nat) (b:Bool)
def Yo (ops:List Oper) (kn:List (Nat×Bool)) (t:List (Nat×PV)) (j:Nat) (want:Bool):Gd:=match AM ops j with
  |some d=>match Ed t d with
   |some (.im (.s (.bool b)))=>(match aB kn j with
    |some b'=>bif b==b' then (bif b'==want then .go else .skip) else .bad
    |none=>.fork d b)
   |some (.im (.s (.tuple _)))=>.skip
   |_=>.bad
  |none=>.bad
def setB (d:Nat) (b:Bool) (st:St):St:=⟨(d,.im (.s (.bool b)))::st.t,st.h⟩
def Cf {ρ:Type} (G:Ma) (ops:List Oper):List (Nat×Bool)→List Oper→St→(St→Option ρ)→Option ρ
  |_,[],st,K=>K st
  |kn,o::r,st,K=>match o.guard with
   |none=>Ik G o st fun st'=>Cf G ops kn r st' K
   |some (j,want)=>match Yo ops kn st.t j want with
    | .go=>Ik G o st fun st'=>Cf G ops kn r st' K
    | .skip=>bif Jd G.N o.dst then Cf G ops kn r (st.put o.dst (.im (.s undef))) K else G.bad ρ 2 (some o) st
    | .fork d b=>bif b
        then (bif want then Ik G o (setB d true st) fun st'=>Cf G ops ((j,true)::kn) r st' K else bif Jd G.N o.dst then Cf G ops ((j,true)::kn) r ((setB d true st).put o.dst (.im (.s undef))) K else G.bad ρ 2 (some o) st)
        else (bif want then bif Jd G.N o.dst then Cf G ops ((j,false)::kn) r ((setB d false st).put o.dst (.im (.s undef))) K else G.bad ρ 2 (some o) st else Ik G o (setB d false st) fun st'=>Cf G ops ((j,false)::kn) r st' K)
    | .bad=>G.bad ρ 3 (some o) st
def aC:Value→Option Bool
  | .bool b=>some b
  |_=>none
theorem oQ {C:Nc} {E:Nat→Prop} {a:Act} {w:World} {β:List (Nat×Nat)} (S:Sb C E st a w β) {ops:List Oper} {j d:Nat} {v:Value} (hj:AM ops j=some d) (hs:Ed st.t d=some (.im (.s v))):yielded ops.toArray a.tmps j=aC v:=by
  obtain ⟨u,h1,h2⟩:=S.tm d _ hs
  have:=Rf h2
  subst this
  have e:(ops.toArray[j]?).bind (·.dst)=some d:=by
    unfold AM at hj
    split at hj
    ·rename_i o ho;simp [ho,hj]
    ·cases hj
  unfold yielded
  rw [e]
  simp only [Option.bind_some,h1]
  cases u<;>rfl
theorem Sb.setB {C:Nc} {E:Nat→Prop} {a:Act} {w:World} {β:List (Nat×Nat)} (S:Sb C E st a w β) {d:Nat} {b:Bool} (h:a.tmps[d]? =some (.bool b)):Sb C E (Go.Proofs.YtjffopopheiinaaGreatDoor.setB d b st) a w β :=
  ⟨S.cl,S.xw,S.step,S.heap,S.sz,S.df,fun i v hi=>by
    simp only [Go.Proofs.YtjffopopheiinaaGreatDoor.setB,Ed] at hi
    by_cases e:d=i
    ·subst e
     simp only [Nat.beq_refl,cond_true,Option.some.injEq] at hi
     subst hi
     exact ⟨_,h,Ri.s _⟩
    ·rw [Qm e] at hi
     exact S.tm i v hi⟩
theorem PC {C:Nc} {E:Nat→Prop} {a:Act} {w:World} {β:List (Nat×Nat)} (S:Sb C E st a w β) {ops:List Oper} {kn:List (Nat×Bool)} {j:Nat} {want:Bool} (hg:o.guard=some (j,want)):match Yo ops kn st.t j want with
    | .go=>Region.wanted o (yielded ops.toArray a.tmps)=true
    | .skip=>Region.wanted o (yielded ops.toArray a.tmps)=false
    | .fork d b=>a.tmps[d]? =some (.bool b)∧Region.wanted o (yielded ops.toArray a.tmps)=(b==want)
    | .bad=>True:=by
  have hw:∀d v,AM ops j=some d→Ed st.t d=some (.im (.s v))→Region.wanted o (yielded ops.toArray a.tmps)=(aC v==some want):=fun d v h1 h2=>by
    simp only [Region.wanted,hg,oQ S h1 h2]
  have key:∀g,Yo ops kn st.t j want=g→(match g with
    | .go=>Region.wanted o (yielded ops.toArray a.tmps)=true
    | .skip=>Region.wanted o (yielded ops.toArray a.tmps)=false
    | .fork d b=>a.tmps[d]? =some (.bool b)∧Region.wanted o (yielded ops.toArray a.tmps)=(b==want)
    | .bad=>True):=fun g hq=>by
    unfold Yo at hq
    split at hq
    case h_2=>subst hq;trivial
    rename_i d hd
    split at hq
    ·rename_i b hs
     split at hq
     ·rename_i b' _
      cases hb:(b==b') with
      |false=>rw [hb] at hq;subst hq;trivial
      |true =>
       rw [hb] at hq
       cases hb2:(b'==want)<;>rw [hb2] at hq<;>subst hq<;>simp only [cond_true,cond_false]<;>rw [hw d _ hd hs]<;>cases b<;>cases b'<;>cases want<;>first|rfl|(cases hb;done)|(cases hb2;done)
     ·subst hq
      obtain ⟨u,h3,h4⟩:=S.tm _ _ hs
      have:=Rf h4
      subst this
      refine ⟨h3,?_⟩
      rw [hw _ _ hd hs]
      cases b<;>cases want<;>rfl
    ·rename_i vs hs
     subst hq
     simp only
     rw [hw d _ hd hs]
     cases want<;>rfl
    ·subst hq;trivial
  exact key _ rfl
theorem Fy {ρ:Type} {Q:AQ} (HB:Xc G) (HT:Wb P G.tab) (H:Pa P G.Γ) {ops:List Oper} {K:St→Option ρ} {r:ρ} (hQ:∀st,K st=some r→Q .normal st):∀(l:List Oper) (kn:List (Nat×Bool)) (st:St),Cf G ops kn l st K=some r→OU P G.M G.N ops.toArray Q l st
  |[],kn,st,h=>fun C a w β _ _ S=>⟨st,β,hQ st h,S⟩
  |o::l,kn,st,h=>fun C a w β hN hM S=>by
   have exec:∀kn' st1,Ab C st1 a w β→Ik G o st1 (fun st'=>Cf G ops kn' l st' K)=some r→∀KK:Act→World→Prop,(∀a w,wpList P ops.toArray (Mf C Q) l a w→KK a w)→o.wp P a w KK (Mf C Q):=fun kn' st1 S1 h KK hKK=>by
     obtain ⟨hd,st',h1,h2⟩:=aA HB HT H h
     exact h2 C a w β S1 hN KK _ fun u w' β' S'=>hKK _ _ (Fy HB HT H hQ l kn' st' h1 C _ w' β' hN hM S')
   have skip:∀kn' st0 st1,Ab C st1 a w β→(bif Jd G.N o.dst then Cf G ops kn' l (st1.put o.dst (.im (.s undef))) K else G.bad ρ 2 (some o) st0)=some r→wpList P ops.toArray (Mf C Q) l (a.put o.dst undef) w:=fun kn' st0 st1 S1 h=>by
     cases hd:Jd G.N o.dst with
     |false=>rw [hd] at h;simp only [cond_false] at h;rw [HB] at h;cases h
     |true =>
      rw [hd] at h
      exact Fy HB HT H hQ l kn' _ h C _ w β hN hM (S1.putL (by rw [hN];exact Hk hd) (Ri.s undef))
   unfold Cf at h
   refine wpList_step fun KK hKK=>?_
   split at h
   ·rename_i hg
    simp only [Region.wanted,hg,if_true]
    exact exec kn st S h KK hKK
   ·rename_i j want hg
    have gc:=PC S (ops:=ops) (kn:=kn) hg
    split at h
    ·rename_i e
     rw [e] at gc
     simp only [gc,if_true]
     exact exec kn st S h KK hKK
    ·rename_i e
     rw [e] at gc
     simp only [gc]
     exact hKK _ _ (skip kn st st S h)
    ·rename_i d b e
     rw [e] at gc
     obtain ⟨h1,h2⟩:=gc
     rw [h2]
     cases b<;>cases want<;>simp only [cond_true,cond_false] at h
     ·exact exec _ _ (S.setB h1) h KK hKK
     ·exact hKK _ _ (skip _ _ _ (S.setB h1) h)
     ·exact hKK _ _ (skip _ _ _ (S.setB h1) h)
     ·exact exec _ _ (S.setB h1) h KK hKK
    ·rw [HB] at h;cases h
end
end Go.Proofs.YtjffopopheiinaaGreatDoor
namespace Go.Proofs.YtjffopopheiinaaGreatDoor
open Go.RowKit
def Ic:List Nat→List Fa→List Fa
  |[],h=>h
  |k::r,h=>match h[k]? with
   |some (.box _ _)=>Ic r (h.set k .dead)
   |_=>Ic r h
def Ti (h:List Fa) (k:Nat):Bool:=match h[k]? with|some (.box _ _)=>true|_=>false
def Zf (h:List Fa):List Nat→Bool
  |[]=>true
  |k::r=>Ti h k&&Zf h r
theorem Ol:∀{ks:List Nat} {h:List Fa} {j:Nat} {o:Fa},(Ic ks h)[j]? =some o→h[j]? =some o∨(o=.dead∧Ti h j=true)∨o=.dead
  |[],h,j,o,e=>.inl e
  |k::r,h,j,o,e=>by
   unfold Ic at e
   split at e
   ·rename_i t cs hk
    rcases Ol e with e1|⟨rfl,_⟩|rfl
    ·rw [List.getElem?_set] at e1
     split at e1
     ·split at e1
      ·injection e1 with e1;exact .inr (.inr e1.symm)
      ·cases e1
     ·exact .inl e1
    ·exact .inr (.inr rfl)
    ·exact .inr (.inr rfl)
   ·exact Ol e
theorem QC:∀(ks:List Nat) (h:List Fa),(Ic ks h).length=h.length
  |[],h=>rfl
  |k::r,h=>by
   unfold Ic
   split
   ·rw [QC r,List.length_set]
   ·exact QC r h
theorem SU:∀{ks:List Nat} {h:List Fa} {k:Nat},h[k]? =some .dead→(Ic ks h)[k]? =some .dead
  |[],h,k,e=>e
  |i::r,h,k,e=>by
   unfold Ic
   split
   ·rename_i t cs hi
    refine SU ?_
    rw [List.getElem?_set]
    split
    ·rename_i ei;subst ei;rw [e] at hi;cases hi
    ·exact e
   ·exact SU e
theorem RC:∀{ks:List Nat} {h:List Fa} {k:Nat},k∈ks→Ti h k=true→(Ic ks h)[k]? =some .dead
  |[],h,k,hk,_=>by simp at hk
  |i::r,h,k,hk,hb=>by
   have hkl:∃t cs,h[k]? =some (.box t cs):=by
     cases e:h[k]? with
     |none=>simp [Ti,e] at hb
     |some o=>cases o<;>first|exact ⟨_,_,rfl⟩|simp [Ti,e] at hb
   obtain ⟨t,cs,e⟩:=hkl
   by_cases ei:i=k
   ·subst ei
    unfold Ic
    rw [e]
    exact SU (by rw [List.getElem?_set,if_pos rfl,if_pos (List.getElem?_eq_some_iff.1 e).1])
   ·have hr:k∈r:=(List.mem_cons.1 hk).resolve_left (fun h=>ei h.symm)
    unfold Ic
    split
    ·exact RC hr (by unfold Ti at *;rw [List.getElem?_set,if_neg ei];exact hb)
    ·exact RC hr hb
theorem BM {h:List Fa}:∀{ks:List Nat},Zf h ks=true→∀k∈ks,Ti h k=true
  |[],_,k,hk=>by simp at hk
  |i::r,hb,k,hk=>by
   simp only [Zf,Bool.and_eq_true] at hb
   rcases List.mem_cons.1 hk with rfl|hk
   ·exact hb.1
   ·exact BM hb.2 k hk
theorem TU {t:TypeId} {τ:Ty} {xs:List (El τ)} {k:Nat}:∀{ks:List Nat} {h:List Fa},h[k]? =some (.row t τ xs)→(Ic ks h)[k]? =some (.row t τ xs)
  |[],h,e=>e
  |i::r,h,e=>by
   unfold Ic
   split
   ·rename_i t' cs hi
    refine TU ?_
    by_cases ei:i=k
    ·subst ei;rw [e] at hi;cases hi
    ·rw [List.getElem?_set,if_neg ei];exact e
   ·exact TU e
theorem CM {k:Nat}:∀{ks:List Nat} {h:List Fa},Cc (Ic ks h) k=Cc h k
  |[],h=>rfl
  |i::r,h=>by
   unfold Ic
   split
   ·rename_i t' cs hi
    rw [CM]
    by_cases ei:i=k
    ·subst ei
     unfold Cc
     rw [List.getElem?_set,if_pos rfl,if_pos (List.getElem?_eq_some_iff.1 hi).1,hi]
    ·simp only [Cc]
     rw [List.getElem?_set,if_neg ei]
   ·exact CM
theorem DM (ks:List Nat) (h:List Fa):Fd h (Ic ks h)∧Fd (Ic ks h) h:=by
  refine ⟨⟨by rw [QC];exact Nat.le_refl _,fun k t τ xs _ e=>?_,fun k _ e=>by rw [←CM (ks:=ks)];exact e⟩,⟨by rw [QC];exact Nat.le_refl _,fun k t τ xs _ e=>.inl ⟨xs,TU e,rfl⟩,fun k _ e=>by rw [CM];exact e⟩⟩
  rcases Ol e with e|⟨e,_⟩|e
  ·exact .inl ⟨xs,e,rfl⟩
  ·cases e
  ·cases e
section
variable {C:Nc} {st:St} {a:Act} {w:World} {β:List (Nat×Nat)}
theorem UU {ks:List Nat} {h:List Fa} {b:Nat} (hl:Ka (Ic ks h) β b):Ka h β b:=by
  obtain ⟨j,o,c,h1,h2,h3⟩:=hl
  rcases Ol h1 with e|⟨rfl,_⟩|rfl
  ·exact ⟨j,o,c,e,h2,h3⟩
  ·exact h2.elim
  ·exact h2.elim
theorem Sb.kill (S:Ab C st a w β) (ks:List Nat):Sb C (Ka st.h β) ⟨st.t,Ic ks st.h⟩ a w β:=by
  have hle:=(DM ks st.h).1
  have keep:∀v u,C1 w (Ka st.h β) C.X st.h β v u→C1 w (Ka st.h β) C.X (Ic ks st.h) β v u:=fun v u hc=>hc.keep (fun _ _ _=>rfl) (Nat.le_refl _) (fun _ _ h=>h) (fun _ _ _ h=>h) hle (fun _ _ h=>h)
  refine ⟨S.cl,S.xw,S.step.trans ⟨rfl,rfl,rfl,Nat.le_refl _,fun _ _ _=>rfl,fun b _ h=>UU h,fun _ _ h=>h,hle⟩,⟨by rw [QC];exact S.heap.len,fun b h=>UU h,fun b h=>S.heap.nx b (UU h),fun k o hk=>?_,fun i j o o' b c c' hi hj li lj bi bj=>?_⟩,S.sz,S.df,fun i v hi=>?_⟩
  ·rcases Ol hk with e|⟨rfl,_⟩|rfl
   ·have ho:=S.heap.ok k o e
    cases o with
    |dead=>trivial
    |vrow t τ=>exact ho
    |row t τ xs=>exact ho
    |box t cs=>obtain ⟨b,c,us,h1,h2,h3,h4⟩:=ho;exact ⟨b,c,us,h1,h2,h3.mono keep,h4⟩
   ·trivial
   ·trivial
  ·rcases Ol hi with e|⟨rfl,_⟩|rfl
   ·rcases Ol hj with e'|⟨rfl,_⟩|rfl
    ·exact S.heap.inj i j o o' b c c' e e' li lj bi bj
    ·exact lj.elim
    ·exact lj.elim
   ·exact li.elim
   ·exact li.elim
  ·obtain ⟨u,h1,h2⟩:=S.tm i v hi
   exact ⟨u,h1,h2.lift keep⟩
theorem Sb.drew (S:Ab C st a w β):Ab C st a w.drew β:=S.world (w':=w.drew) ⟨rfl,rfl,rfl,Nat.le_refl _,fun _ _ _=>rfl,fun _ _ h=>h,fun _ _ h=>h,Fd.refl _⟩ ⟨S.heap.len,fun _ h=>h,S.heap.nx,fun k o hk=>(S.heap.ok k o hk).keep (fun _ _ _ _=>rfl) (fun _ _ _=>rfl) (Nat.le_refl _) (fun _ _ h=>h) (Fd.refl _) (fun _ _ h=>h),S.heap.inj⟩
end
def Gy:Op→Bool
  | .load _ _=>false
  |_=>true
def Nq (t:List (Nat×PV)):Option Nat→Bool
  |none=>true
  |some d=>match Ed t d with|some _=>false|none=>true
theorem Zo {t:List (Nat×PV)} {d:Option Nat} (h:Nq t d=true):∀i,d=some i→Ed t i=none:=fun i hi=>by
  subst hi
  cases e:Ed t i with
  |none=>rfl
  |some v=>simp [Nq,e] at h
def sub:List Nat→List Nat→Bool
  |[],_=>true
  |k::r,l=>!Pg l k&&sub r l
theorem VU:∀{a b:List Nat},sub a b=true→∀k∈a,k∈b
  |[],b,_,k,hk=>by simp at hk
  |i::r,b,h,k,hk=>by
   simp only [sub,Bool.and_eq_true] at h
   rcases List.mem_cons.1 hk with rfl|hk
   ·have:∀{l:List Nat},Pg l k=false→k∈l:=by
      intro l
      induction l with
      |nil=>intro h;cases h
      |cons j r ih =>
       intro h
       simp only [Pg] at h
       cases hb:Nat.beq j k with
       |true=>exact List.mem_cons.2 (.inl (Nat.eq_of_beq_eq_true hb).symm)
       |false=>rw [hb] at h;exact List.mem_cons_of_mem _ (ih h)
    exact this (by simpa using h.1)
   ·exact VU h.2 k hk
def Oq (ks:List Nat) (st:St):Op→Bool
  | .store _ x _=>(match Eb st.t x with|some (.ptr k _)=>sub [k] ks|_=>false)
  |_=>false
theorem aD {P:Program} {tab:TypeId→Option TI} (H:Wb P tab) {ks:List Nat} {st st':St} {o:Oper} {c bl:Bool} {v:Option PV} (hk:Oq ks st o.op=true) (h:Ll tab st o.op o.dst=some (c,bl,st',v)):∃k∈ks,RU P [k] o st (Hd st' o.dst v):=by
  unfold Oq at hk
  split at hk
  ·rename_i t x y ho
   split at hk
   ·rename_i k p hx
    refine ⟨k,VU hk k (List.mem_singleton.2 rfl),?_⟩
    rw [ho] at h
    simp only [Ll] at h
    split at h
    ·rename_i d q v' i hd hq hy hi
     rw [hx] at hq
     injection hq with hq
     subst hq
     split at h
     ·rename_i st1 hs
      injection h with h
      injection h with e1 h
      injection h with e2 h
      injection h with e3 e4
      subst e1 e2 e3 e4
      simp only [OL] at hs
      split at hs
      ·rename_i t' cs hb
       cases hq:((Rb v').all Ue&&(Nat.beq (Rb v').length i.size&&Nat.ble (p+i.size) cs.length)) with
       |false=>rw [hq] at hs;cases hs
       |true =>
        rw [hq] at hs
        simp only [cond_true,Option.some.injEq] at hs
        subst hs
        simp only [Bool.and_eq_true] at hq
        exact fun C a w β S _ K Q hK=>U8 H ho hi hx hy hq.1 (Nat.eq_of_beq_eq_true hq.2.1) hb (Nat.le_of_ble_eq_true hq.2.2) hd C a w β S K Q fun u w' β' h1 h2 h3=>hK u w' β' h1 h2 fun _ b hb' hn=>h3 b hb' fun c=>hn k (List.mem_singleton.2 rfl) c
      ·cases hs
     ·cases h
    ·cases h
   ·cases hk
  ·cases hk
def We:List Fa→List Fa→Bool
  |[],_=>true
  | .row _ _ _::a,.row _ _ _::b=>We a b
  | .box _ _::a,.box _ _::b=>We a b
  | .dead::a,_::b=>We a b
  | .vrow _ _::a,_::b=>We a b
  |_,_=>false
theorem Hy {β:List (Nat×Nat)}:∀{a b:List Fa} {j:Nat} {o:Fa} {c:Nat},We a b=true→a[j]? =some o→Qc o c→∃o',b[j]? =some o'∧Qc o' c
  |[],b,j,o,c,_,h1,_=>by simp at h1
  | .row _ _ _::a,.row t τ xs::b,0,o,c,_,h1,h2=>by
    simp at h1;subst h1
    exact ⟨_,rfl,h2⟩
  | .box _ _::a,.box t cs::b,0,o,c,_,h1,h2=>by
    simp at h1;subst h1
    exact ⟨_,rfl,h2⟩
  | .dead::a,_::b,0,o,c,_,h1,h2=>by simp at h1;subst h1;exact h2.elim
  | .vrow _ _::a,_::b,0,o,c,_,h1,h2=>by simp at h1;subst h1;exact h2.elim
  | .row _ _ _::a,.row t τ xs::b,j+1,o,c,h,h1,h2=>Hy (β:=β) (a:=a) (b:=b) (j:=j) h (by simpa using h1) h2
  | .box _ _::a,.box t cs::b,j+1,o,c,h,h1,h2=>Hy (β:=β) (a:=a) (b:=b) (j:=j) h (by simpa using h1) h2
  | .dead::a,_::b,j+1,o,c,h,h1,h2=>Hy (β:=β) (a:=a) (b:=b) (j:=j) (by simpa [We] using h) (by simpa using h1) h2
  | .vrow _ _::a,_::b,j+1,o,c,h,h1,h2=>Hy (β:=β) (a:=a) (b:=b) (j:=j) (by simpa [We] using h) (by simpa using h1) h2
  | .row _ _ _::a,[],_,_,_,h,_,_=>by simp [We] at h
  | .row _ _ _::a,.dead::b,_,_,_,h,_,_=>by simp [We] at h
  | .row _ _ _::a,.vrow _ _::b,_,_,_,h,_,_=>by simp [We] at h
  | .row _ _ _::a,.box _ _::b,_,_,_,h,_,_=>by simp [We] at h
  | .box _ _::a,[],_,_,_,h,_,_=>by simp [We] at h
  | .box _ _::a,.dead::b,_,_,_,h,_,_=>by simp [We] at h
  | .box _ _::a,.vrow _ _::b,_,_,_,h,_,_=>by simp [We] at h
  | .box _ _::a,.row _ _ _::b,_,_,_,h,_,_=>by simp [We] at h
  | .dead::a,[],_,_,_,h,_,_=>by simp [We] at h
  | .vrow _ _::a,[],_,_,_,h,_,_=>by simp [We] at h
def SC (h0:List Fa) (st:St):Op→Bool
  | .call c=>(match c.callee,c.args.toList with
    | .builtin .append,[s,_]=>(match Eb st.t s with|some (.own k)=>Nat.ble h0.length k&&We h0 st.h|_=>false)
    |_,_=>false)
  |_=>false
theorem oR {P:Program} {tab:TypeId→Option TI} (H:Wb P tab) {h0:List Fa} {st st':St} {o:Oper} {bl:Bool} {v:Option PV} (hk:SC h0 st o.op=true) (h:Ll tab st o.op o.dst=some (true,bl,st',v)):∃k t τ xs,h0.length≤k∧We h0 st.h=true∧st.h[k]? =some (.row t τ xs)∧∀C a w β,Ab C st a w β→(∀i,o.dst=some i→i<C.N)→∀(K:Act→World→Prop) (Q:Exit→Act→World→Prop),(∀u w' β',Ab C (Hd st' o.dst v) (a.put o.dst u) w' β'→Zb w st.h β w' (Hd st' o.dst v).h β'→(∀b,b<w.heap.size→(∀c,0<c→β[k]?≠some (b,c))→w'.heap[b]? =w.heap[b]?)→K (a.put o.dst u) w')→o.wp P a w K Q:=by
  unfold SC at hk
  split at hk
  case h_2=>cases hk
  rename_i cl hcl
  split at hk
  case h_2=>cases hk
  rename_i s x hcal hargs
  split at hk
  case h_2=>cases hk
  rename_i k hs
  simp only [Bool.and_eq_true] at hk
  obtain ⟨q1,q2⟩:=hk
  have q1:=Nat.le_of_ble_eq_true q1
  obtain ⟨callee,args,argTypes⟩:=cl
  simp only at hcal hargs
  subst hcal
  obtain rfl:args= #[s,x]:=by apply Array.ext';simpa using hargs
  rw [hcl] at h
  simp only [Ll] at h
  split at h
  case h_2=>cases h
  rename_i s' x' t t' hargs' htys
  injection hargs' with e1 e2
  injection e2 with e2 _
  subst e1 e2
  obtain rfl:argTypes= #[t,t']:=by apply Array.ext';simpa using htys
  split at h
  case h_2=>cases h
  rename_i u0 v0 i h3 h4 hi
  rw [hs] at h3
  injection h3 with h3
  subst h3
  split at h
  case h_2=>cases h
  rename_i e σ bytes he
  cases hq:Nat.beq t t' with
  |false=>rw [hq] at h;cases h
  |true =>
  rw [hq] at h
  have htt:=Nat.eq_of_beq_eq_true hq
  subst htt
  simp only [cond_true,AU] at h
  split at h
  case h_2=>cases h
  rename_i t2 τ xs hrow
  split at h
  case h_2=>cases h
  rename_i ys Xg
  cases hq2:(Nat.beq t2 e&&Nat.beq (sz τ) (sz σ)) with
  |false=>rw [hq2] at h;cases h
  |true =>
  rw [hq2] at h
  simp only [Bool.and_eq_true] at hq2
  have e3:=Nat.eq_of_beq_eq_true hq2.1
  subst e3
  simp only [cond_true,Option.some.injEq,Prod.mk.injEq] at h
  obtain ⟨hc,_,rfl,rfl⟩:=h
  exact ⟨k,_,_,_,q1,q2,hrow,fun C a w β S hd K Q hK=>X8 H hcl hi he (Nat.eq_of_beq_eq_true hq2.2) hs hrow h4 Xg (oT hc) C a w β S hd K Q hK⟩
def EM (h0:List Fa) (st:St):Op→Bool
  | .store _ x _=>(match Eb st.t x with|some (.ptr k _)=>Nat.ble h0.length k&&We h0 st.h|_=>false)
  |_=>false
theorem oS {P:Program} {tab:TypeId→Option TI} (H:Wb P tab) {h0:List Fa} {st st':St} {o:Oper} {c bl:Bool} {v:Option PV} (hk:EM h0 st o.op=true) (h:Ll tab st o.op o.dst=some (c,bl,st',v)):∃k t cs,h0.length≤k∧We h0 st.h=true∧st.h[k]? =some (.box t cs)∧RU P [k] o st (Hd st' o.dst v):=by
  unfold EM at hk
  split at hk
  ·rename_i t x y ho
   split at hk
   ·rename_i k p hx
    simp only [Bool.and_eq_true] at hk
    have hst:Oq [k] st o.op=true:=by rw [ho];simp [Oq,hx,sub,Pg]
    obtain ⟨k',hk',h1⟩:=aD H hst h
    have e:k'=k:=by simpa using hk'
    subst e
    rw [ho] at h
    simp only [Ll] at h
    split at h
    ·rename_i d q v' i hd hq hy hi
     rw [hx] at hq
     injection hq with hq
     subst hq
     split at h
     ·rename_i st1 hs
      simp only [OL] at hs
      split at hs
      ·rename_i t' cs hb
       exact ⟨k',_,_,Nat.le_of_ble_eq_true hk.1,hk.2,hb,h1⟩
      ·cases hs
     ·cases h
    ·cases h
   ·cases hk
  ·cases hk
def Kh {ρ:Type} (G:Ma) (ks:List Nat) (o:Oper) (f:Bool) (st0 st:St) (K:St→St→Option ρ):Option ρ:=bif Jd G.N o.dst then
  (bif f&&Qf o.op then
    (match Dk G.tab st0 o.op with
    |some (c,v)=>bif c then K (st0.put o.dst v) (st.put o.dst v) else none
    |none=>bif (Gy o.op&&!So st o.op)&&Nq st0.t o.dst then (match Dk G.tab st o.op with|some (c,v)=>bif c then K st0 (st.put o.dst v) else none|none=>G.bad ρ 32 (some o) st) else G.bad ρ 31 (some o) st)
  else bif Nq st0.t o.dst then
    (match Dk G.tab st o.op with
    |some (c,v)=>bif c then K st0 (st.put o.dst v) else none
    |none=>match Ll G.tab st o.op o.dst with
     |some (c,bl,st',v)=>bif bl||(Oq ks st o.op||(SC st0.h st o.op||EM st0.h st o.op)) then (bif c then K st0 (Hd st' o.dst v) else none) else G.bad ρ 33 (some o) st
     |none=>match o.op with
      | .call c=>Mq G o c st fun l st'=>bif sub l ks then K st0 st' else G.bad ρ 34 (some o) st
      |_=>G.bad ρ 35 (some o) st) else G.bad ρ 36 (some o) st) else G.bad ρ 30 (some o) st
def Zd {ρ:Type} (G:Ma) (ops:List Oper) (ks:List Nat):List (Nat×Bool)→List (Oper×Bool)→St→St→(List (Nat×Bool)→St→Option ρ)→Option ρ
  |kn,[],_,st,K=>K kn st
  |kn,(o,f)::r,st0,st,K=>match o.guard with
   |none=>Kh G ks o f st0 st fun st0' st'=>Zd G ops ks kn r st0' st' K
   |some (j,want)=>match Yo ops kn st.t j want with
    | .go=>Kh G ks o f st0 st fun st0' st'=>Zd G ops ks kn r st0' st' K
    | .skip=>bif Jd G.N o.dst then Zd G ops ks kn r (st0.put o.dst (.im (.s undef))) (st.put o.dst (.im (.s undef))) K else G.bad ρ 2 (some o) st
    | .fork d b=>bif b
        then (bif want then Kh G ks o f (setB d true st0) (setB d true st) fun st0' st'=>Zd G ops ks ((j,true)::kn) r st0' st' K else bif Jd G.N o.dst then Zd G ops ks ((j,true)::kn) r ((setB d true st0).put o.dst (.im (.s undef))) ((setB d true st).put o.dst (.im (.s undef))) K else G.bad ρ 2 (some o) st)
        else (bif want then bif Jd G.N o.dst then Zd G ops ks ((j,false)::kn) r ((setB d false st0).put o.dst (.im (.s undef))) ((setB d false st).put o.dst (.im (.s undef))) K else G.bad ρ 2 (some o) st else Kh G ks o f (setB d false st0) (setB d false st) fun st0' st'=>Zd G ops ks ((j,false)::kn) r st0' st' K)
    | .bad=>G.bad ρ 3 (some o) st
structure Yc (ks:List Nat) (E0:Nat→Prop) (st0:St) (w0:World) (β0:List (Nat×Nat)) (st:St) (w:World) (β:List (Nat×Nat)):Prop where
  stab:Ec w0 w E0 st0.h β0
  beta:∀(k:Nat) p,β0[k]? =some p→β[k]? =some p
  sub:∀b,b<w0.heap.size→Ka st.h β b→E0 b
  hle:Fd st0.h st.h
  kill:∀k∈ks,k<β0.length∧∀b c,β0[k]? =some (b,c)→E0 b∧¬Ka st0.h β0 b
section
variable {P:Program} {G:Ma} {C:Nc} {E0:Nat→Prop} {ks:List Nat} {st0 st:St} {a:Act} {w0 w:World} {β0 β:List (Nat×Nat)}
theorem Yc.cv (R:Yc ks E0 st0 w0 β0 st w β) {v:PV} {u:Value} (hc:Cv w0 E0 C.X st0.h β0 v u):Cv w (Ka st.h β) C.X st.h β v u :=
  hc.keep (fun b hb hn=>R.stab.2 b hb (.inl hn)) R.stab.1 (fun b hb hn hl=>hn (R.sub b hb hl)) (fun _ _ _ h=>h) R.hle R.beta
theorem Yc.same (R:Yc ks E0 st0 w0 β0 st w β) {st0' st':St} (h0:st0'.h=st0.h) (h1:st'.h=st.h):Yc ks E0 st0' w0 β0 st' w β:=⟨by rw [h0];exact R.stab,R.beta,by rw [h1];exact R.sub,by rw [h0,h1];exact R.hle,by rw [h0];exact R.kill⟩
theorem Yc.step (R:Yc ks E0 st0 w0 β0 st w β) (hlen:β0.length=st0.h.length) {l:List Nat} (hl:∀k∈l,k∈ks) {st':St} {w':World} {β':List (Nat×Nat)} (hs:Zb w st.h β w' st'.h β') (ht:(∀k∈l,k<st.h.length)→∀b,b<w.heap.size→(∀k∈l,∀c,β[k]?≠some (b,c))→w'.heap[b]? =w.heap[b]?):Yc ks E0 st0 w0 β0 st' w' β':=by
  refine ⟨⟨Nat.le_trans R.stab.1 hs.size,fun b hb hc=>?_⟩,fun k p h=>hs.beta k p (R.beta k p h),fun b hb h=>R.sub b hb (hs.new b (Nat.lt_of_lt_of_le hb R.stab.1) h),R.hle.trans hs.hle,R.kill⟩
  refine (ht (fun k hk=>?_) b (Nat.lt_of_lt_of_le hb R.stab.1) fun k hk c hβ=>?_).trans (R.stab.2 b hb hc)
  ·have:=(R.kill k (hl k hk)).1
   have:=R.hle.1
   omega
  ·obtain ⟨h1,h2⟩:=R.kill k (hl k hk)
   have h3:=List.getElem?_eq_getElem h1
   have h4:=R.beta k _ h3
   rw [hβ] at h4
   injection h4 with h4
   obtain ⟨h5,h6⟩:=h2 b c (by rw [h3,←h4])
   rcases hc with hc|hc
   ·exact hc h5
   ·exact h6 hc
theorem Yc.grow (R:Yc ks E0 st0 w0 β0 st w β) (S:Ab C st a w β) (hlen:β0.length=st0.h.length) {k:Nat} {t:TypeId} {τ:Ty} {xs:List (El τ)} (hk0:st0.h.length≤k) (hs0:We st0.h st.h=true) (hk:st.h[k]? =some (.row t τ xs)) {st':St} {w':World} {β':List (Nat×Nat)} (hs:Zb w st.h β w' st'.h β') (ht:∀b,b<w.heap.size→(∀c,0<c→β[k]?≠some (b,c))→w'.heap[b]? =w.heap[b]?):Yc ks E0 st0 w0 β0 st' w' β':=by
  refine ⟨⟨Nat.le_trans R.stab.1 hs.size,fun b hb hc=>?_⟩,fun k p h=>hs.beta k p (R.beta k p h),fun b hb h=>R.sub b hb (hs.new b (Nat.lt_of_lt_of_le hb R.stab.1) h),R.hle.trans hs.hle,R.kill⟩
  refine (ht b (Nat.lt_of_lt_of_le hb R.stab.1) fun c hc0 hβ=>?_).trans (R.stab.2 b hb hc)
  have hl:Ka st.h β b:=⟨k,_,c,hk,hc0,hβ⟩
  rcases hc with hc|⟨j,o,c',h1,h2,h3⟩
  ·exact hc (R.sub b hb hl)
  ·obtain ⟨o',h4,h5⟩:=Hy (β:=β0) hs0 h1 h2
   have:=S.heap.inj j k o' _ b c' c h4 hk h5 hc0 (R.beta j _ h3) hβ
   have hj:=(List.getElem?_eq_some_iff.1 h3).1
   omega
theorem Yc.growB (R:Yc ks E0 st0 w0 β0 st w β) (S:Ab C st a w β) (hlen:β0.length=st0.h.length) {k:Nat} {t:TypeId} {cs:List PV} (hk0:st0.h.length≤k) (hs0:We st0.h st.h=true) (hk:st.h[k]? =some (.box t cs)) {st':St} {w':World} {β':List (Nat×Nat)} (hs:Zb w st.h β w' st'.h β') (ht:∀b,b<w.heap.size→(∀j∈[k],∀c,β[j]?≠some (b,c))→w'.heap[b]? =w.heap[b]?):Yc ks E0 st0 w0 β0 st' w' β':=by
  refine ⟨⟨Nat.le_trans R.stab.1 hs.size,fun b hb hc=>?_⟩,fun k p h=>hs.beta k p (R.beta k p h),fun b hb h=>R.sub b hb (hs.new b (Nat.lt_of_lt_of_le hb R.stab.1) h),R.hle.trans hs.hle,R.kill⟩
  refine (ht b (Nat.lt_of_lt_of_le hb R.stab.1) fun i hi c hβ=>?_).trans (R.stab.2 b hb hc)
  rw [List.mem_singleton.1 hi] at hβ
  have hl:Ka st.h β b:=⟨k,_,c,hk,trivial,hβ⟩
  rcases hc with hc|⟨j,o,c',h1,h2,h3⟩
  ·exact hc (R.sub b hb hl)
  ·obtain ⟨o',h4,h5⟩:=Hy (β:=β0) hs0 h1 h2
   have:=S.heap.inj j k o' _ b c' c h4 hk h5 trivial (R.beta j _ h3) hβ
   have hj:=(List.getElem?_eq_some_iff.1 h3).1
   omega
theorem Sb.other {E:Nat→Prop} (S:Sb C E st a w β) {d:Option Nat} (u:Value) (hd:∀i,d=some i→Ed st.t i=none):Sb C E st (a.put d u) w β:=by
  cases d with
  |none=>exact S
  |some d =>
   refine ⟨S.cl,S.xw,S.step,S.heap,by simpa [Act.put] using S.sz,S.df,fun i v hi=>?_⟩
   obtain ⟨u',h1,h2⟩:=S.tm i v hi
   refine ⟨u',?_,h2⟩
   have hne:d≠i:=by rintro rfl;rw [hd d rfl] at hi;cases hi
   simp [Act.put,hne,h1]
theorem aE {ρ:Type} (HB:Xc G) (HT:Wb P G.tab) (H:Pa P G.Γ) {o:Oper} {f:Bool} {K:St→St→Option ρ} {r:ρ} (h:Kh G ks o f st0 st K=some r) (hN:C.N=G.N) (S0:Sb C E0 st0 a w0 β0) (S:Ab C st a w β) (R:Yc ks E0 st0 w0 β0 st w β) {ops:Array Oper} {Q:Exit→Act→World→Prop} {T:Act→World→Prop} {rest:List (Oper×Bool)} (hw:Region.wanted o (yielded ops a.tmps)=true)
    (hK:∀st0' st' u w' β',K st0' st'=some r→Sb C E0 st0' (a.put o.dst u) w0 β0→Ab C st' (a.put o.dst u) w' β'→Yc ks E0 st0' w0 β0 st' w' β'→st0'.h=st0.h→Od P ops Q (fun w'=>Ec w0 w' E0 st0.h β0) T rest (a.put o.dst u) w') :
    Od P ops Q (fun w'=>Ec w0 w' E0 st0.h β0) T ((o,f)::rest) a w:=by
  unfold Kh at h
  cases hd:Jd G.N o.dst with
  |false=>rw [hd] at h;simp only [cond_false] at h;rw [HB] at h;cases h
  |true =>
   rw [hd] at h
   simp only [cond_true] at h
   have hdst:∀i,o.dst=some i→i<C.N:=by rw [hN];exact Hk hd
   cases hf:(f&&Qf o.op) with
   |true =>
    rw [hf] at h
    simp only [cond_true] at h
    refine VB hw hf fun KK hKK=>?_
    split at h
    ·rename_i c v hv
     cases c with
     |false=>cases h
     |true =>
      obtain ⟨u,h1,h2⟩:=EL HT hv rfl C E0 a w0 β0 S0
      refine ⟨u,fun w' hw'=>?_,hKK _ (hK _ _ u w β h (S0.put hdst h1) (S.putL hdst (R.cv h1)) (R.same (Kf _ _) (Kf _ _)) (Kf _ _))⟩
      have:=h2 w' hw'
      unfold Oper.quietAt
      rw [this]
      exact ⟨rfl,rfl⟩
    ·cases hu:((Gy o.op&&!So st o.op)&&Nq st0.t o.dst) with
     |false=>rw [hu] at h;simp only [cond_false] at h;rw [HB] at h;cases h
     |true =>
      rw [hu] at h
      simp only [cond_true] at h
      simp only [Bool.and_eq_true] at hu
      split at h
      ·rename_i c v hv
       cases c with
       |false=>cases h
       |true =>
        obtain ⟨u,h1,h2⟩:=QT HT hv rfl (fun t x e=>by rw [e] at hu;exact absurd hu.1.1 (by simp [Gy])) (by simpa using hu.1.2) C _ a w β S
        refine ⟨u,fun w' hw'=>?_,hKK _ (hK _ _ u w β h (S0.other u (Zo hu.2)) (S.putL hdst h1) (R.same rfl (Kf _ _)) rfl)⟩
        have:=h2 w' trivial
        unfold Oper.quietAt
        rw [this]
        exact ⟨rfl,rfl⟩
      ·rw [HB] at h;cases h
   |false =>
    rw [hf] at h
    simp only [cond_false] at h
    cases hs:Nq st0.t o.dst with
    |false=>rw [hs] at h;simp only [cond_false] at h;rw [HB] at h;cases h
    |true =>
     rw [hs] at h
     simp only [cond_true] at h
     refine OS hw hf fun KK hKK=>?_
     split at h
     ·rename_i c v hv
      cases c with
      |false=>cases h
      |true =>
       refine VT (EL HT hv rfl) C a w β S hdst KK _ fun u w' β' S' hst hbl=>?_
       have R':=R.step S0.heap.len (l:=[]) (fun k hk=>by simp at hk) hst (fun _ b hb _=>(hbl rfl).block b hb)
       exact hKK _ _ R'.stab (hK _ _ u w' β' h (S0.other u (Zo hs)) S' R' rfl)
     ·split at h
      ·rename_i c bl st' v hv
       cases hbs:(bl||(Oq ks st o.op||(SC st0.h st o.op||EM st0.h st o.op))) with
       |false=>rw [hbs] at h;simp only [cond_false] at h;rw [HB] at h;cases h
       |true =>
        rw [hbs] at h
        simp only [cond_true] at h
        cases hcc:c with
        |false=>rw [hcc] at h;cases h
        |true =>
        rw [hcc] at h
        cases hbl:bl with
        |false =>
         rw [hbl,Bool.false_or] at hbs
         cases hst:Oq ks st o.op with
         |false =>
          rw [hst,Bool.false_or] at hbs
          cases hap:SC st0.h st o.op with
          |false =>
           rw [hap,Bool.false_or] at hbs
           obtain ⟨k,t,cs,q1,q2,q3,h1⟩:=oS HT hbs hv
           refine h1 C a w β S hdst KK _ fun u w' β' S' hst ht=>?_
           have R':=R.growB S S0.heap.len q1 q2 q3 hst (ht fun j hj=>by rw [List.mem_singleton.1 hj];exact (List.getElem?_eq_some_iff.1 q3).1)
           exact hKK _ _ R'.stab (hK _ _ u w' β' h (S0.other u (Zo hs)) S' R' rfl)
          |true =>
          rw [hap] at hbs
          have hbs:=hap
          rw [hcc] at hv
          obtain ⟨k,t,τ,xs,q1,q2,q3,h1⟩:=oR HT hbs hv
          refine h1 C a w β S hdst KK _ fun u w' β' S' hst ht=>?_
          have R':=R.grow S S0.heap.len q1 q2 q3 hst ht
          exact hKK _ _ R'.stab (hK _ _ u w' β' h (S0.other u (Zo hs)) S' R' rfl)
         |true =>
         obtain ⟨k,hk,h1⟩:=aD HT hst hv
         refine h1 C a w β S hdst KK _ fun u w' β' S' hst ht=>?_
         have R':=R.step S0.heap.len (l:=[k]) (fun j hj=>by rw [List.mem_singleton.1 hj];exact hk) hst ht
         exact hKK _ _ R'.stab (hK _ _ u w' β' h (S0.other u (Zo hs)) S' R' rfl)
        |true =>
        have hc:c=true∧bl=true:=⟨hcc,hbl⟩
        refine E9 HT hv hc.1 C a w β S hdst KK _ fun u w' β' S' hst hbl=>?_
        have R':=R.step S0.heap.len (l:=[]) (fun k hk=>by simp at hk) hst (fun _ b hb _=>(hbl hc.2).block b hb)
        exact hKK _ _ R'.stab (hK _ _ u w' β' h (S0.other u (Zo hs)) S' R' rfl)
      ·split at h
       ·rename_i c hc
        obtain ⟨l,st',h1,h2⟩:=Z9 HB H hc h
        cases hsub:Go.Proofs.YtjffopopheiinaaGreatDoor.sub l ks with
        |false=>rw [hsub] at h2;simp only [cond_false] at h2;rw [HB] at h2;cases h2
        |true =>
         rw [hsub] at h2
         refine h1 C a w β S hdst KK _ fun u w' β' S' hst ht=>?_
         have R':=R.step S0.heap.len (VU hsub) hst ht
         exact hKK _ _ R'.stab (hK _ _ u w' β' h2 (S0.other u (Zo hs)) S' R' rfl)
       ·rw [HB] at h;cases h
end
end Go.Proofs.YtjffopopheiinaaGreatDoor
namespace Go.Proofs.YtjffopopheiinaaGreatDoor
open Go.RowKit
section
variable {P:Program} {G:Ma}
theorem WU {ρ:Type} {C:Nc} {ks:List Nat} {E0:Nat→Prop} {w0:World} {β0:List (Nat×Nat)} {h0:List Fa} (HB:Xc G) (HT:Wb P G.tab) (H:Pa P G.Γ) {ops:List Oper} {K:List (Nat×Bool)→St→Option ρ} {r:ρ} {Q:Exit→Act→World→Prop} {T:Act→World→Prop} (hN:C.N=G.N)
    (hT:∀kn st a w β,K kn st=some r→Ab C st a w β→T a w):∀(l:List (Oper×Bool)) (kn:List (Nat×Bool)) (st0 st:St) (a:Act) (w:World) (β:List (Nat×Nat)),Zd G ops ks kn l st0 st K=some r→st0.h=h0→Sb C E0 st0 a w0 β0→Ab C st a w β→Yc ks E0 st0 w0 β0 st w β →
      Od P ops.toArray Q (fun w'=>Ec w0 w' E0 h0 β0) T l a w
  |[],kn,st0,st,a,w,β,h,hh,S0,S,R=>Zp (hT kn st a w β h S)
  |(o,f)::l,kn,st0,st,a,w,β,h,hh,S0,S,R=>by
   subst hh
   have exec:∀kn' s0 s1,s0.h=st0.h→Sb C E0 s0 a w0 β0→Ab C s1 a w β→Yc ks E0 s0 w0 β0 s1 w β→Region.wanted o (yielded ops.toArray a.tmps)=true→Kh G ks o f s0 s1 (fun st0' st'=>Zd G ops ks kn' l st0' st' K)=some r→Od P ops.toArray Q (fun w'=>Ec w0 w' E0 st0.h β0) T ((o,f)::l) a w:=fun kn' s0 s1 hh S0 S R hw h=>by
     rw [←hh]
     exact aE HB HT H h hN S0 S R hw fun st0' st' u w' β' hK S0' S' R' hh'=>WU HB HT H hN hT l kn' st0' st' _ w' β' hK hh' S0' S' R'
   have skip:∀kn' sb s0 s1,s0.h=st0.h→Sb C E0 s0 a w0 β0→Ab C s1 a w β→Yc ks E0 s0 w0 β0 s1 w β→Region.wanted o (yielded ops.toArray a.tmps)=false→(bif Jd G.N o.dst then Zd G ops ks kn' l (s0.put o.dst (.im (.s undef))) (s1.put o.dst (.im (.s undef))) K else G.bad ρ 2 (some o) sb)=some r→Od P ops.toArray Q (fun w'=>Ec w0 w' E0 st0.h β0) T ((o,f)::l) a w:=fun kn' sb s0 s1 hh S0 S R hw h=>by
     cases hd:Jd G.N o.dst with
     |false=>rw [hd] at h;simp only [cond_false] at h;rw [HB] at h;cases h
     |true =>
      rw [hd] at h
      have hdst:∀i,o.dst=some i→i<C.N:=by rw [hN];exact Hk hd
      exact Mx hw (WU HB HT H hN hT l kn' _ _ _ w β h (by rw [Kf];exact hh) (S0.put hdst (Ri.s undef)) (S.putL hdst (Ri.s undef)) (R.same (Kf _ _) (Kf _ _)))
   unfold Zd at h
   split at h
   ·rename_i hg
    exact exec kn st0 st rfl S0 S R (by simp [Region.wanted,hg]) h
   ·rename_i j want hg
    have gc:=PC S (ops:=ops) (kn:=kn) hg
    split at h
    ·rename_i e
     rw [e] at gc
     exact exec kn st0 st rfl S0 S R gc h
    ·rename_i e
     rw [e] at gc
     exact skip kn st st0 st rfl S0 S R gc h
    ·rename_i d b e
     rw [e] at gc
     obtain ⟨h1,h2⟩:=gc
     cases b<;>cases want<;>simp only [cond_true,cond_false] at h
     ·exact exec _ (setB d false st0) (setB d false st) rfl (S0.setB h1) (S.setB h1) (R.same rfl rfl) h2 h
     ·exact skip _ _ (setB d false st0) (setB d false st) rfl (S0.setB h1) (S.setB h1) (R.same rfl rfl) h2 h
     ·exact skip _ _ (setB d true st0) (setB d true st) rfl (S0.setB h1) (S.setB h1) (R.same rfl rfl) h2 h
     ·exact exec _ (setB d true st0) (setB d true st) rfl (S0.setB h1) (S.setB h1) (R.same rfl rfl) h2 h
    ·rw [HB] at h;cases h
def Jk:Code→Option Nat
  | .region id _ _=>some id
  | .seq a b=>match Jk a with|some i=>some i|none=>Jk b
  | .cond _ a b=>match Jk a with|some i=>some i|none=>Jk b
  | .block _ c=>Jk c
  | .loop c=>Jk c
  | .scope c=>Jk c
  |_=>none
def Pq (G:Ma) (c:Code):Option Xa:=match Jk c with|some i=>G.loop i|none=>none
def Ag {ρ:Type} (G:Ma):Code→St→(Exit→St→Option ρ)→Option ρ
  | .skip,st,K=>K .normal st
  | .region id ops draw,st,K=>bif draw then (match G.plan id with
      |some (n,ord,ks)=>bif Zf st.h ks then Zd G ops.toList ks [] (Bc ops.toList ord) ⟨st.t,Ic ks st.h⟩ st fun kn st'=>Cf G ops.toList kn (ops.toList.drop n) st' (K .normal) else G.bad ρ 41 none st
      |none=>match G.loop id with
       |some L=>(match L.F.get G.M st with
        |some s=>(L.sh s).bind fun r=>(match r with
         | .inl x=>K .normal (L.FX.st x)
         | .inr _=>none)
        |none=>G.bad ρ (2000+id) none st)
       |none=>G.bad ρ (1000+id) none st)
    else Cf G ops.toList [] ops.toList st (K .normal)
  | .seq x y,st,K=>Ag G x st fun e st'=>match e with| .normal=>Ag G y st' K|e=>K e st'
  | .cond t x y,st,K=>match Eb st.t t with
    |some (.im (.s (.bool b)))=>bif b then Ag G x st K else Ag G y st K
    |_=>G.bad ρ 42 none st
  | .block id c,st,K=>Ag G c st fun e st'=>match e with| .exit j=>(bif Nat.beq j id then K .normal st' else K (.exit j) st')|e=>K e st'
  | .loop c,st,K=>match Pq G c with
    |some L=>(match L.F.get G.M st with
     |some s=>(L.sh s).bind fun r=>(match r with
      | .inl x=>K (.exit L.eid) (L.FX.st x)
      | .inr x=>K .ret (L.FR.st x))
     |none=>G.bad ρ (2000+(Jk c).getD 0) none st)
    |none=>G.bad ρ (1000+(Jk c).getD 0) none st
  | .exit id,st,K=>K (.exit id) st
  | .ret,st,K=>K .ret st
  |_,st,_=>G.bad ρ 44 none st
def Cb (P:Program) (M N:Nat) (c:Code) (L:Xa):Prop:=∀s r,L.sh s=some r→∀Q:AQ,(match r with| .inl x=>Q (.exit L.eid) (L.FX.st x)| .inr x=>Q .ret (L.FR.st x))→NC P M N (.loop c) Q (L.F.st s)
def Ae (P:Program) (M N:Nat) (id:Nat) (ops:Array Oper) (L:Xa):Prop:=∀s x,L.sh s=some (.inl x)→∀Q:AQ,Q .normal (L.FX.st x)→NC P M N (.region id ops true) Q (L.F.st s)
def Ui (P:Program) (G:Ma):Code→Prop
  | .region id ops true=>(∀n ord ks,G.plan id=some (n,ord,ks)→UB .any ops n ord=true)∧(G.plan id=none→∀L,G.loop id=some L→Ae P G.M G.N id ops L)
  | .seq x y=>Ui P G x∧Ui P G y
  | .cond _ x y=>Ui P G x∧Ui P G y
  | .block _ c=>Ui P G c
  | .loop c=>∀L,Pq G c=some L→Cb P G.M G.N c L
  |_=>True
theorem aF {M N:Nat} {c:Code} {Q:AQ} {st st1:St} (h:YL M st1 st) (k:NC P M N c Q st1):NC P M N c Q st:=fun C a w β hN hM S=>by
  obtain ⟨β1,S1⟩:=h C a w β hM S
  exact k C a w β1 hN hM S1
theorem Ap {ρ:Type} (HB:Xc G) (HT:Wb P G.tab) (H:Pa P G.Γ) (hm:P.follows .mixedOrders=true) {r:ρ}:∀(c:Code) (K:Exit→St→Option ρ) (st:St) (Q:AQ),Ui P G c→(∀e st,K e st=some r→Q e st)→Ag G c st K=some r→NC P G.M G.N c Q st
  | .skip,K,st,Q,_,hQ,h=>fun _ _ _ β _ _ S=>wp_skip ⟨st,β,hQ _ _ h,S⟩
  | .exit id,K,st,Q,_,hQ,h=>fun _ _ _ β _ _ S=>wp_exit ⟨st,β,hQ _ _ h,S⟩
  | .ret,K,st,Q,_,hQ,h=>fun _ _ _ β _ _ S=>wp_ret ⟨st,β,hQ _ _ h,S⟩
  | .region id ops false,K,st,Q,hc,hQ,h=>fun C a w β hN hM S=>by
    simp only [Ag,cond_false] at h
    have e:ops=ops.toList.toArray:=by simp
    rw [e]
    exact wp_region_lit (Fy HB HT H (fun st'=>hQ .normal st') ops.toList [] st h C a w β hN hM S)
  | .region id ops true,K,st,Q,hc,hQ,h=>fun C a w β hN hM S=>by
    simp only [Ag,cond_true] at h
    split at h
    ·rename_i n ord ks hp
     cases hb:Zf st.h ks with
     |false=>rw [hb] at h;simp only [cond_false] at h;rw [HB] at h;cases h
     |true =>
      rw [hb] at h
      simp only [cond_true] at h
      have hB:=hc.1 n ord ks hp
      have e:ops=ops.toList.toArray:=by simp
      rw [e] at hB ⊢
      have Sd:=S.drew
      have hbx:=BM hb
      refine N7 n ord (fun w'=>Ec w.drew w' (Ka st.h β) (Ic ks st.h) β) hm hB (Ec.refl _ _ _ _) ?_
      refine WU HB HT H hN (fun kn st' a' w' β' hK S'=>Fy HB HT H (fun st'=>hQ .normal st') _ kn st' hK C a' w' β' hN hM S') _ [] ⟨st.t,Ic ks st.h⟩ st a w.drew β h rfl (Sd.kill ks) Sd ⟨Ec.refl _ _ _ _,fun _ _ h=>h,fun _ _ h=>h,(DM ks st.h).2,fun k hk=>?_⟩
      have hbk:=hbx k hk
      have hkl:∃t cs,st.h[k]? =some (.box t cs):=by
        cases e:st.h[k]? with
        |none=>simp [Ti,e] at hbk
        |some o=>cases o<;>first|exact ⟨_,_,rfl⟩|simp [Ti,e] at hbk
      obtain ⟨t,cs,hk'⟩:=hkl
      refine ⟨by rw [S.heap.len];exact (List.getElem?_eq_some_iff.1 hk').1,fun b c hβ=>⟨⟨k,_,c,hk',trivial,hβ⟩,fun ⟨j,o,c',h1,h2,h3⟩=>?_⟩⟩
      have hdead:=RC hk hbk
      rcases Ol h1 with e1|⟨rfl,_⟩|rfl
      ·have:=S.heap.inj j k o _ b c' c e1 hk' h2 trivial h3 hβ
       subst this
       rw [hdead] at h1
       injection h1 with h1
       subst h1
       exact h2
      ·exact h2
      ·exact h2
    ·rename_i hp
     split at h
     ·rename_i L hL
      split at h
      ·rename_i s hs
       obtain ⟨x,h1,h2⟩:=Option.bind_eq_some_iff.1 h
       cases x with
       |inl x=>exact aF (L.F.imp hs) (hc.2 hp L hL s x h1 Q (hQ _ _ h2)) C a w β hN hM S
       |inr x=>cases h2
      ·rw [HB] at h;cases h
     ·rw [HB] at h;cases h
  | .seq x y,K,st,Q,hc,hQ,h=>fun C a w β hN hM S=>by
    have h1:=Ap HB HT H hm x _ st (fun e st'=>match e with| .normal=>Ag G y st' K=some r|e=>K e st'=some r) hc.1 (fun e st' hk=>by cases e<;>exact hk) h C a w β hN hM S
    refine wp_seq (wp_mono h1 ?_)
    rintro e a' w' ⟨st',β',hq,S'⟩
    cases e with
    |normal=>exact Ap HB HT H hm y K st' Q hc.2 hQ hq C a' w' β' hN hM S'
    |_=>exact ⟨st',β',hQ _ _ hq,S'⟩
  | .cond t x y,K,st,Q,hc,hQ,h=>fun C a w β hN hM S=>by
    simp only [Ag] at h
    split at h
    ·rename_i b hb
     refine wp_cond_split (S.ev hb) (fun e=>?_) (fun e=>?_)
     ·subst e
      exact Ap HB HT H hm x K st Q hc.1 hQ h C a w β hN hM S
     ·subst e
      exact Ap HB HT H hm y K st Q hc.2 hQ h C a w β hN hM S
    ·rw [HB] at h;cases h
  | .block id c,K,st,Q,hc,hQ,h=>fun C a w β hN hM S=>by
    have h1:=Ap HB HT H hm c _ st (fun e st'=>match e with| .exit j=>(if j=id then K .normal st'=some r else K (.exit j) st'=some r)|e=>K e st'=some r) hc (fun e st' hk=>by
      cases e with
      |exit j =>
       simp only at hk ⊢
       by_cases e:j=id
       ·subst e;rw [Nat.beq_refl] at hk;rw [if_pos rfl];exact hk
       ·rw [Qm e] at hk;rw [if_neg e];exact hk
      |_=>exact hk) h C a w β hN hM S
    refine wp_block (wp_mono h1 ?_)
    rintro e a' w' ⟨st',β',hq,S'⟩
    cases e with
    |exit j =>
     simp only [Exit.inBlock] at hq ⊢
     split at hq
     ·rename_i e;rw [if_pos e];exact ⟨st',β',hQ _ _ hq,S'⟩
     ·rename_i e;rw [if_neg e];exact ⟨st',β',hQ _ _ hq,S'⟩
    |_=>exact ⟨st',β',hQ _ _ hq,S'⟩
  | .loop c,K,st,Q,hc,hQ,h=>by
    simp only [Ag] at h
    split at h
    ·rename_i L hL
     split at h
     ·rename_i s hs
      obtain ⟨x,h1,h2⟩:=Option.bind_eq_some_iff.1 h
      refine aF (L.F.imp hs) (hc L hL s x h1 Q ?_)
      cases x with
      |inl x=>exact hQ _ _ h2
      |inr x=>exact hQ _ _ h2
     ·rw [HB] at h;cases h
    ·rw [HB] at h;cases h
  | .rangeFunc _ _ _ _,K,st,Q,_,hQ,h=>by simp only [Ag] at h;rw [HB] at h;cases h
  | .scope _,K,st,Q,_,hQ,h=>by simp only [Ag] at h;rw [HB] at h;cases h
  | .label _,K,st,Q,_,hQ,h=>by simp only [Ag] at h;rw [HB] at h;cases h
  | .goto _,K,st,Q,_,hQ,h=>by simp only [Ag] at h;rw [HB] at h;cases h
  | .refuse _,K,st,Q,_,hQ,h=>by simp only [Ag] at h;rw [HB] at h;cases h
def lp {σ τ:Type} (B:σ→Option (σ⊕τ)):Nat→σ→Option τ
  |0,_=>none
  |n+1,s=>(B s).bind fun r=>match r with| .inl s'=>lp B n s'| .inr x=>some x
def oU (G:Ma) (c:Code) (F:Yd) (eid:Nat) (FX FR:Yd) (s:HL F.hs):Option (HL F.hs⊕(HL FX.hs⊕HL FR.hs)):=Ag G c (F.st s) fun e st=>match e with
  | .normal=>(match F.get G.M st with|some s'=>some (.inl s')|none=>G.bad _ 51 none st)
  | .exit id=>bif Nat.beq id eid then (match FX.get G.M st with|some x=>some (.inr (.inl x))|none=>G.bad _ 52 none st) else G.bad _ 53 none st
  | .ret=>(match FR.get G.M st with|some x=>some (.inr (.inr x))|none=>G.bad _ 54 none st)
  |_=>G.bad _ 55 none st
theorem Fb (HB:Xc G) (HT:Wb P G.tab) (H:Pa P G.Γ) (hm:P.follows .mixedOrders=true) {c:Code} (hc:Ui P G c) {F:Yd} {eid:Nat} {FX FR:Yd} {B:HL F.hs→Option (HL F.hs⊕(HL FX.hs⊕HL FR.hs))} {n:Nat} (hB:∀s,oU G c F eid FX FR s=B s):Cb P G.M G.N c ⟨F,eid,FX,FR,lp B n⟩:=fun s r hs Q hQ C a w β hN hM S=>by
  refine wp_loop_ghost (fun m a w=>∃s β,Ab C (F.st s) a w β∧lp B m s=some r) n ⟨s,β,S,hs⟩ ?_
  rintro m a' w' ⟨s',β',S',hl⟩
  cases m with
  |zero=>cases hl
  |succ m =>
   obtain ⟨x,h1,h2⟩:=Option.bind_eq_some_iff.1 hl
   rw [←hB] at h1
   have:=Ap HB HT H hm c _ (F.st s') (fun e st=>match e with
     | .normal=>∃s1,F.get G.M st=some s1∧lp B m s1=some r
     | .exit id=>id=eid∧∃y,FX.get G.M st=some y∧r=.inl y
     | .ret=>∃y,FR.get G.M st=some y∧r=.inr y
     |_=>False) hc (fun e st hk=>by
      cases e with
      |normal =>
       simp only at hk ⊢
       split at hk
       ·rename_i s1 hs1
        injection hk with hk
        subst hk
        exact ⟨s1,hs1,h2⟩
       ·rw [HB] at hk;cases hk
      |exit id =>
       simp only at hk ⊢
       by_cases e:id=eid
       ·subst e
        rw [Nat.beq_refl] at hk
        simp only [cond_true] at hk
        split at hk
        ·rename_i y hy
         injection hk with hk
         subst hk
         injection h2 with h2
         exact ⟨rfl,y,hy,h2.symm⟩
        ·rw [HB] at hk;cases hk
       ·rw [Qm e] at hk;simp only [cond_false] at hk;rw [HB] at hk;cases hk
      |ret =>
       simp only at hk ⊢
       split at hk
       ·rename_i y hy
        injection hk with hk
        subst hk
        injection h2 with h2
        exact ⟨y,hy,h2.symm⟩
       ·rw [HB] at hk;cases hk
      |_=>(simp only at hk;rw [HB] at hk;cases hk)) h1 C a' w' β' hN hM S'
   refine wp_mono this ?_
   rintro e a2 w2 ⟨st2,β2,hq,S2⟩
   cases e with
   |normal =>
    obtain ⟨s1,h3,h4⟩:=hq
    obtain ⟨β3,S3⟩:=F.imp h3 C a2 w2 β2 hM S2
    exact ⟨m,by omega,s1,β3,S3,h4⟩
   |exit id =>
    obtain ⟨rfl,y,h3,rfl⟩:=hq
    obtain ⟨β3,S3⟩:=FX.imp h3 C a2 w2 β2 hM S2
    exact ⟨_,β3,hQ,S3⟩
   |ret =>
    obtain ⟨y,h3,rfl⟩:=hq
    obtain ⟨β3,S3⟩:=FR.imp h3 C a2 w2 β2 hM S2
    exact ⟨_,β3,hQ,S3⟩
   |_=>exact hq.elim
end
end Go.Proofs.YtjffopopheiinaaGreatDoor
namespace Go.Proofs.YtjffopopheiinaaGreatDoor
open Go.RowKit
section
variable {P:Program} {G:Ma}
theorem aG {ρ σ:Type} (HB:Xc G) {o:Oper} {c:Call} {st:St} {K:List Nat→St→Option ρ} {F:List Nat→St→Option σ} {B:σ→Option ρ} (hK:∀l st,K l st=(F l st).bind B):Mq G o c st K=(Mq G o c st F).bind B:=by
  unfold Mq QU
  have hb:∀(ρ:Type) n o st,G.bad ρ n o st=none:=HB
  simp only [hb]
  split<;>first|rfl|skip
  split<;>first|rfl|skip
  split<;>first|rfl|skip
  split<;>first|rfl|skip
  cases Nat.beq _ _<;>simp only [cond_true,cond_false,Option.bind_none]
  cases (_&&_:Bool)<;>simp only [cond_true,cond_false,Option.bind_none]
  split<;>first|rfl|skip
  split<;>first|rfl|skip
  rw [Option.bind_assoc]
  congr 1
  funext r
  split<;>first|exact hK _ _|rfl
theorem FM {ρ σ:Type} (HB:Xc G) {ks:List Nat} {o:Oper} {f:Bool} {st0 st:St} {K:St→St→Option ρ} {F:St→St→Option σ} {B:σ→Option ρ} (hK:∀s t,K s t=(F s t).bind B):Kh G ks o f st0 st K=(Kh G ks o f st0 st F).bind B:=by
  unfold Kh
  have hb:∀(ρ:Type) n o st,G.bad ρ n o st=none:=HB
  simp only [hb]
  have hc:∀(c:Bool) (x:Option ρ) (y:Option σ),x=y.bind B→(bif c then x else none)=(bif c then y else none).bind B:=fun c x y h=>by cases c<;>simp [h]
  refine hc _ _ _ ?_
  cases (f&&Qf o.op)<;>simp only [cond_true,cond_false]
  ·refine hc _ _ _ ?_
   split
   ·exact hc _ _ _ (hK _ _)
   ·split
    ·exact hc _ _ _ (hc _ _ _ (hK _ _))
    ·split
     ·exact aG HB fun l st'=>hc _ _ _ (hK _ _)
     ·rfl
  ·split
   ·exact hc _ _ _ (hK _ _)
   ·refine hc _ _ _ ?_
    split
    ·exact hc _ _ _ (hK _ _)
    ·rfl
def Fi {ρ:Type} (G:Ma) (ops:List Oper) (ks:List Nat) (kn:List (Nat×Bool)) (o:Oper) (f:Bool) (st0 st:St) (K:List (Nat×Bool)→St→St→Option ρ):Option ρ:=match o.guard with
    |none=>Kh G ks o f st0 st fun st0' st'=>K kn st0' st'
    |some (j,want)=>match Yo ops kn st.t j want with
     | .go=>Kh G ks o f st0 st fun st0' st'=>K kn st0' st'
     | .skip=>bif Jd G.N o.dst then K kn (st0.put o.dst (.im (.s undef))) (st.put o.dst (.im (.s undef))) else G.bad ρ 2 (some o) st
     | .fork d b=>bif b
         then (bif want then Kh G ks o f (setB d true st0) (setB d true st) fun st0' st'=>K ((j,true)::kn) st0' st' else bif Jd G.N o.dst then K ((j,true)::kn) ((setB d true st0).put o.dst (.im (.s undef))) ((setB d true st).put o.dst (.im (.s undef))) else G.bad ρ 2 (some o) st)
         else (bif want then bif Jd G.N o.dst then K ((j,false)::kn) ((setB d false st0).put o.dst (.im (.s undef))) ((setB d false st).put o.dst (.im (.s undef))) else G.bad ρ 2 (some o) st else Kh G ks o f (setB d false st0) (setB d false st) fun st0' st'=>K ((j,false)::kn) st0' st')
     | .bad=>G.bad ρ 3 (some o) st
theorem TC {ρ:Type} {ops:List Oper} {ks:List Nat} {kn:List (Nat×Bool)} {o:Oper} {f:Bool} {r:List (Oper×Bool)} {st0 st:St} {K:List (Nat×Bool)→St→Option ρ}:Zd G ops ks kn ((o,f)::r) st0 st K=Fi G ops ks kn o f st0 st fun kn' s t=>Zd G ops ks kn' r s t K:=by
  conv=>lhs;unfold Zd
  unfold Fi
  cases o.guard with
  |none=>rfl
  |some x =>
   obtain ⟨j,want⟩:=x
   first|rfl|(dsimp only;cases Yo ops kn st.t j want<;>rfl)
theorem oV {ρ σ:Type} (HB:Xc G) {ops:List Oper} {ks:List Nat} {kn:List (Nat×Bool)} {o:Oper} {f:Bool} {st0 st:St} {K:List (Nat×Bool)→St→St→Option ρ} {F:List (Nat×Bool)→St→St→Option σ} {B:σ→Option ρ} (hK:∀k s t,K k s t=(F k s t).bind B):Fi G ops ks kn o f st0 st K=(Fi G ops ks kn o f st0 st F).bind B:=by
  unfold Fi
  have hb:∀(ρ:Type) n o st,G.bad ρ n o st=none:=HB
  simp only [hb]
  have hc:∀(c:Bool) (x:Option ρ) (y:Option σ),x=y.bind B→(bif c then x else none)=(bif c then y else none).bind B:=fun c x y h=>by cases c<;>simp [h]
  have hd:∀(c:Bool) (x x':Option ρ) (y y':Option σ),x=y.bind B→x'=y'.bind B→(bif c then x else x')=(bif c then y else y').bind B:=fun c x x' y y' h h'=>by cases c<;>simp [h,h']
  split
  ·exact FM HB fun s t=>hK _ _ _
  ·split
   ·exact FM HB fun s t=>hK _ _ _
   ·exact hc _ _ _ (hK _ _ _)
   ·exact hd _ _ _ _ _ (hd _ _ _ _ _ (FM HB fun s t=>hK _ _ _) (hc _ _ _ (hK _ _ _))) (hd _ _ _ _ _ (hc _ _ _ (hK _ _ _)) (FM HB fun s t=>hK _ _ _))
   ·rfl
theorem Iy {ρ ι:Type} (HB:Xc G) {ops:List Oper} {ks:List Nat} {kn:List (Nat×Bool)} {o:Oper} {f:Bool} {st0 st:St} {K:ι→List (Nat×Bool)→St→St→Option ρ} {r:ρ} {L:List ι} (hne:L≠[]) (h:∀p∈L,Fi G ops ks kn o f st0 st (K p)=some r):∃x:List (Nat×Bool)×St×St,Fi G ops ks kn o f st0 st (fun a b c=>some (a,b,c))=some x∧∀p∈L,K p x.1 x.2.1 x.2.2=some r:=by
  have e:∀p,Fi G ops ks kn o f st0 st (K p)=(Fi G ops ks kn o f st0 st (fun a b c=>some (a,b,c))).bind fun x=>K p x.1 x.2.1 x.2.2:=fun p=>oV HB fun _ _ _=>rfl
  generalize Fi G ops ks kn o f st0 st (fun a b c=>some (a,b,c))=z at e
  cases z with
  |none =>
   obtain ⟨p,hp⟩:=List.exists_mem_of_ne_nil L hne
   have:=h p hp
   rw [e] at this
   cases this
  |some x=>exact ⟨x,rfl,fun p hp=>by have:=h p hp;rw [e] at this;exact this⟩
theorem Qq {ρ:Type} {C:Nc} {ks:List Nat} {E0:Nat→Prop} {w0:World} {β0:List (Nat×Nat)} {h0:List Fa} (HB:Xc G) (HT:Wb P G.tab) (H:Pa P G.Γ) {ops:List Oper} {K:List (Nat×Bool)→St→St→Option ρ} {r:ρ} {Q:Exit→Act→World→Prop} {T:Act→World→Prop} (hN:C.N=G.N)
    {o:Oper} {f:Bool} {kn:List (Nat×Bool)} {st0 st:St} {a:Act} {w:World} {β:List (Nat×Nat)} (hT:∀kn' s t a w β,K kn' s t=some r→s.h=h0→Sb C E0 s a w0 β0→Ab C t a w β→Yc ks E0 s w0 β0 t w β→T a w)
    (h:Fi G ops ks kn o f st0 st K=some r) (hh:st0.h=h0) (S0:Sb C E0 st0 a w0 β0) (S:Ab C st a w β) (R:Yc ks E0 st0 w0 β0 st w β) :
     Od P ops.toArray Q (fun w'=>Ec w0 w' E0 h0 β0) T [(o,f)] a w:=by
    subst hh
    have exec:∀kn' s0 s1,s0.h=st0.h→Sb C E0 s0 a w0 β0→Ab C s1 a w β→Yc ks E0 s0 w0 β0 s1 w β→Region.wanted o (yielded ops.toArray a.tmps)=true→Kh G ks o f s0 s1 (fun st0' st'=>K kn' st0' st')=some r→Od P ops.toArray Q (fun w'=>Ec w0 w' E0 st0.h β0) T [(o,f)] a w:=fun kn' s0 s1 hh S0 S R hw h=>by
      rw [←hh]
      exact aE HB HT H h hN S0 S R hw fun st0' st' u w' β' hK S0' S' R' hh'=>Zp (hT kn' st0' st' _ w' β' hK (hh'.trans hh) S0' S' R')
    have skip:∀kn' sb s0 s1,s0.h=st0.h→Sb C E0 s0 a w0 β0→Ab C s1 a w β→Yc ks E0 s0 w0 β0 s1 w β→Region.wanted o (yielded ops.toArray a.tmps)=false→(bif Jd G.N o.dst then K kn' (s0.put o.dst (.im (.s undef))) (s1.put o.dst (.im (.s undef))) else G.bad ρ 2 (some o) sb)=some r→Od P ops.toArray Q (fun w'=>Ec w0 w' E0 st0.h β0) T [(o,f)] a w:=fun kn' sb s0 s1 hh S0 S R hw h=>by
      cases hd:Jd G.N o.dst with
      |false=>rw [hd] at h;simp only [cond_false] at h;rw [HB] at h;cases h
      |true =>
       rw [hd] at h
       have hdst:∀i,o.dst=some i→i<C.N:=by rw [hN];exact Hk hd
       exact Mx hw (Zp (hT kn' _ _ _ w β h (by rw [Kf];exact hh) (S0.put hdst (Ri.s undef)) (S.putL hdst (Ri.s undef)) (R.same (Kf _ _) (Kf _ _))))
    unfold Fi at h
    split at h
    ·rename_i hg
     exact exec kn st0 st rfl S0 S R (by simp [Region.wanted,hg]) h
    ·rename_i j want hg
     have gc:=PC S (ops:=ops) (kn:=kn) hg
     split at h
     ·rename_i e
      rw [e] at gc
      exact exec kn st0 st rfl S0 S R gc h
     ·rename_i e
      rw [e] at gc
      exact skip kn st st0 st rfl S0 S R gc h
     ·rename_i d b e
      rw [e] at gc
      obtain ⟨h1,h2⟩:=gc
      cases b<;>cases want<;>simp only [cond_true,cond_false] at h
      ·exact exec _ (setB d false st0) (setB d false st) rfl (S0.setB h1) (S.setB h1) (R.same rfl rfl) h2 h
      ·exact skip _ _ (setB d false st0) (setB d false st) rfl (S0.setB h1) (S.setB h1) (R.same rfl rfl) h2 h
      ·exact skip _ _ (setB d true st0) (setB d true st) rfl (S0.setB h1) (S.setB h1) (R.same rfl rfl) h2 h
      ·exact exec _ (setB d true st0) (setB d true st) rfl (S0.setB h1) (S.setB h1) (R.same rfl rfl) h2 h
     ·rw [HB] at h;cases h
def Xb:Tr→List (List (Nat×Bool))
  | .done=>[[]]
  | .val k r=>(Xb r).map ((k,true)::·)
  | .one k r=>(Xb r).map ((k,false)::·)
  | .two k1 r1 k2 r2=>(Xb r1).map ((k1,false)::·)++(Xb r2).map ((k2,false)::·)
  | .alt k r m=>(Xb r).map ((k,false)::·)++Xb m
theorem Jg:∀t,Xb t≠[]
  | .done=>by simp [Xb]
  | .val k r=>by simp [Xb,Jg r]
  | .one k r=>by simp [Xb,Jg r]
  | .two k1 r1 k2 r2=>by simp [Xb,Jg r1]
  | .alt k r m=>by simp [Xb,Jg r]
def Ee (ops:List Oper):Tr→Bool
  | .done=>true
  | .val k r=>decide (k<ops.length)&&(match ops[k]? with|some o=>Qf o.op|none=>false)&&Ee ops r
  | .one k r=>decide (k<ops.length)&&Ee ops r
  | .two k1 r1 k2 r2=>decide (k1<ops.length)&&decide (k2<ops.length)&&Ee ops r1&&Ee ops r2
  | .alt k r m=>decide (k<ops.length)&&Ee ops r&&Ee ops m
theorem Pl {ops:List Oper} {k:Nat} {f:Bool} {p:List (Nat×Bool)} {o:Oper} (h:ops[k]? =some o):Bc ops ((k,f)::p)=(o,f)::Bc ops p:=by
  unfold Bc;rw [List.filterMap_cons];simp only [h,Option.map_some]
theorem Bp {ρ:Type} {C:Nc} {ks:List Nat} {E0:Nat→Prop} {w0:World} {β0:List (Nat×Nat)} {h0:List Fa} (HB:Xc G) (HT:Wb P G.tab) (H:Pa P G.Γ) {ops:List Oper} {K:List (Nat×Bool)→St→Option ρ} {r:ρ} {Q:Exit→Act→World→Prop} {T:Act→World→Prop} (hN:C.N=G.N)
    (hT:∀kn st a w β,K kn st=some r→Ab C st a w β→T a w):∀(t:Tr) (kn:List (Nat×Bool)) (st0 st:St) (a:Act) (w:World) (β:List (Nat×Nat)),Ee ops t=true→(∀p∈Xb t,Zd G ops ks kn (Bc ops p) st0 st K=some r)→st0.h=h0→Sb C E0 st0 a w0 β0→Ab C st a w β→Yc ks E0 st0 w0 β0 st w β →
      Bf P ops.toArray Q (fun w'=>Ec w0 w' E0 h0 β0) T t a w
  | .done,kn,st0,st,a,w,β,hi,h,hh,S0,S,R=>hT kn st a w β (h [] (by simp [Xb])) S
  | .val k t,kn,st0,st,a,w,β,hi,h,hh,S0,S,R=>by
    simp only [Ee,Bool.and_eq_true,decide_eq_true_eq] at hi
    obtain ⟨⟨hk,hv⟩,hi⟩:=hi
    have hk:=List.getElem?_eq_getElem hk
    generalize ops[k]=o at hk
    rw [hk] at hv
    simp only at hv
    obtain ⟨x,h1,h2⟩:=Iy HB (L:=Xb t) (Jg t) (K:=fun p kn' s u=>Zd G ops ks kn' (Bc ops p) s u K) fun p hp=>by
      have:=h ((k,true)::p) (by simp only [Xb];exact List.mem_map_of_mem hp)
      rwa [Pl hk,TC] at this
    have:=Qq (r:=x) (Q:=Q) (T:=Bf P ops.toArray Q (fun w'=>Ec w0 w' E0 h0 β0) T t) HB HT H hN (fun kn' s u a' w' β' hx hh' S0' S' R'=>by
      injection hx with hx
      subst hx
      exact Bp HB HT H hN hT t kn' s u a' w' β' hi h2 hh' S0' S' R') h1 hh S0 S R
    refine ⟨o,by simpa using hk,?_⟩
    unfold Od at this
    split at this
    ·rename_i hw
     rw [if_pos hw]
     rw [hv] at this
     exact this
    ·rename_i hw
     rw [if_neg hw]
     exact this
  | .one k t,kn,st0,st,a,w,β,hi,h,hh,S0,S,R=>by
    simp only [Ee,Bool.and_eq_true,decide_eq_true_eq] at hi
    obtain ⟨hk,hi⟩:=hi
    have hk:=List.getElem?_eq_getElem hk
    generalize ops[k]=o at hk
    obtain ⟨x,h1,h2⟩:=Iy HB (L:=Xb t) (Jg t) (K:=fun p kn' s u=>Zd G ops ks kn' (Bc ops p) s u K) fun p hp=>by
      have:=h ((k,false)::p) (by simp only [Xb];exact List.mem_map_of_mem hp)
      rwa [Pl hk,TC] at this
    have:=Qq (r:=x) (Q:=Q) (T:=Bf P ops.toArray Q (fun w'=>Ec w0 w' E0 h0 β0) T t) HB HT H hN (fun kn' s u a' w' β' hx hh' S0' S' R'=>by
      injection hx with hx
      subst hx
      exact Bp HB HT H hN hT t kn' s u a' w' β' hi h2 hh' S0' S' R') h1 hh S0 S R
    exact ⟨o,by simpa using hk,this⟩
  | .two k1 t1 k2 t2,kn,st0,st,a,w,β,hi,h,hh,S0,S,R=>by
    simp only [Ee,Bool.and_eq_true,decide_eq_true_eq] at hi
    obtain ⟨⟨⟨hk1,hk2⟩,hi1⟩,hi2⟩:=hi
    have hk1:=List.getElem?_eq_getElem hk1
    generalize ops[k1]=o1 at hk1
    have hk2:=List.getElem?_eq_getElem hk2
    generalize ops[k2]=o2 at hk2
    obtain ⟨x,h1,h2⟩:=Iy HB (L:=Xb t1) (Jg t1) (K:=fun p kn' s u=>Zd G ops ks kn' (Bc ops p) s u K) fun p hp=>by
      have:=h ((k1,false)::p) (by simp only [Xb];exact List.mem_append_left _ (List.mem_map_of_mem hp))
      rwa [Pl hk1,TC] at this
    obtain ⟨y,h3,h4⟩:=Iy HB (L:=Xb t2) (Jg t2) (K:=fun p kn' s u=>Zd G ops ks kn' (Bc ops p) s u K) fun p hp=>by
      have:=h ((k2,false)::p) (by simp only [Xb];exact List.mem_append_right _ (List.mem_map_of_mem hp))
      rwa [Pl hk2,TC] at this
    have A:=Qq (r:=x) (Q:=Q) (T:=Bf P ops.toArray Q (fun w'=>Ec w0 w' E0 h0 β0) T t1) HB HT H hN (fun kn' s u a' w' β' hx hh' S0' S' R'=>by
      injection hx with hx
      subst hx
      exact Bp HB HT H hN hT t1 kn' s u a' w' β' hi1 h2 hh' S0' S' R') h1 hh S0 S R
    have B:=Qq (r:=y) (Q:=Q) (T:=Bf P ops.toArray Q (fun w'=>Ec w0 w' E0 h0 β0) T t2) HB HT H hN (fun kn' s u a' w' β' hx hh' S0' S' R'=>by
      injection hx with hx
      subst hx
      exact Bp HB HT H hN hT t2 kn' s u a' w' β' hi2 h4 hh' S0' S' R') h3 hh S0 S R
    exact ⟨⟨o1,by simpa using hk1,A⟩,⟨o2,by simpa using hk2,B⟩⟩
  | .alt k t m,kn,st0,st,a,w,β,hi,h,hh,S0,S,R=>by
    simp only [Ee,Bool.and_eq_true,decide_eq_true_eq] at hi
    obtain ⟨⟨hk,hi⟩,him⟩:=hi
    have hk:=List.getElem?_eq_getElem hk
    generalize ops[k]=o at hk
    obtain ⟨x,h1,h2⟩:=Iy HB (L:=Xb t) (Jg t) (K:=fun p kn' s u=>Zd G ops ks kn' (Bc ops p) s u K) fun p hp=>by
      have:=h ((k,false)::p) (by simp only [Xb];exact List.mem_append_left _ (List.mem_map_of_mem hp))
      rwa [Pl hk,TC] at this
    have A:=Qq (r:=x) (Q:=Q) (T:=Bf P ops.toArray Q (fun w'=>Ec w0 w' E0 h0 β0) T t) HB HT H hN (fun kn' s u a' w' β' hx hh' S0' S' R'=>by
      injection hx with hx
      subst hx
      exact Bp HB HT H hN hT t kn' s u a' w' β' hi h2 hh' S0' S' R') h1 hh S0 S R
    exact ⟨⟨o,by simpa using hk,A⟩,Bp HB HT H hN hT m kn st0 st a w β him (fun p hp=>h p (by simp only [Xb];exact List.mem_append_right _ hp)) hh S0 S R⟩
def aH (G:Ma) (ops:List Oper) (n:Nat) (ks:List Nat) (F FX FR:Yd) (p:List (Nat×Bool)) (s:HL F.hs):Option (HL FX.hs⊕HL FR.hs):=bif Zf (F.st s).h ks then Zd G ops ks [] (Bc ops p) ⟨(F.st s).t,Ic ks (F.st s).h⟩ (F.st s) fun kn st'=>Cf G ops kn (ops.drop n) st' fun st2=>(match FX.get G.M st2 with|some x=>some (.inl x)|none=>G.bad _ 52 none st2) else G.bad _ 41 none (F.st s)
def Jy {α:Type}:List α→(α→Prop)→Prop
  |[],_=>True
  |x::r,R=>R x∧Jy r R
theorem UC {α:Type} {R:α→Prop}:∀{l:List α},Jy l R→∀x∈l,R x
  |_::_,h,x,hx=>by
   rcases List.mem_cons.1 hx with rfl|hx
   ·exact h.1
   ·exact UC h.2 x hx
theorem aI {C:Nc} {st:St} {a:Act} {w:World} {β:List (Nat×Nat)} {ks:List Nat} (S:Ab C st a w β) (hb:Zf st.h ks=true):Yc ks (Ka st.h β) ⟨st.t,Ic ks st.h⟩ w.drew β st w.drew β:=by
  have hbx:=BM hb
  refine ⟨Ec.refl _ _ _ _,fun _ _ h=>h,fun _ _ h=>h,(DM ks st.h).2,fun k hk=>?_⟩
  have hbk:=hbx k hk
  have hkl:∃t cs,st.h[k]? =some (.box t cs):=by
    cases e:st.h[k]? with
    |none=>simp [Ti,e] at hbk
    |some o=>cases o<;>first|exact ⟨_,_,rfl⟩|simp [Ti,e] at hbk
  obtain ⟨t,cs,hk'⟩:=hkl
  refine ⟨by rw [S.heap.len];exact (List.getElem?_eq_some_iff.1 hk').1,fun b c hβ=>⟨⟨k,_,c,hk',trivial,hβ⟩,fun ⟨j,o,c',h1,h2,h3⟩=>?_⟩⟩
  have hdead:=RC hk hbk
  rcases Ol h1 with e1|⟨rfl,_⟩|rfl
  ·have:=S.heap.inj j k o _ b c' c e1 hk' h2 trivial h3 hβ
   subst this
   rw [hdead] at h1
   injection h1 with h1
   subst h1
   exact h2
  ·exact h2
  ·exact h2
theorem Cp (HB:Xc G) (HT:Wb P G.tab) (H:Pa P G.Γ) (hm:P.follows .mixedOrders=true) {id:Nat} {ops:Array Oper} {n:Nat} {ks:List Nat} {t:Tr} {F:Yd} {eid:Nat} {FX FR:Yd} {sh:HL F.hs→Option (HL FX.hs⊕HL FR.hs)} (hB:PS .any ops n t=true) (hi:Ee ops.toList t=true)
    (hs:Jy (Xb t) fun p=>∀s,aH G ops.toList n ks F FX FR p s=sh s):Ae P G.M G.N id ops ⟨F,eid,FX,FR,sh⟩:=fun s x hx Q hQ C a w β hN hM S=>by
  have hx:sh s=some (.inl x):=hx
  have hs:=UC hs
  have h:∀p∈Xb t,Zf (F.st s).h ks=true∧Zd G ops.toList ks [] (Bc ops.toList p) ⟨(F.st s).t,Ic ks (F.st s).h⟩ (F.st s) (fun kn st'=>Cf G ops.toList kn (ops.toList.drop n) st' fun st2=>(match FX.get G.M st2 with|some x=>some (Sum.inl x:HL FX.hs⊕HL FR.hs)|none=>G.bad _ 52 none st2))=some (.inl x):=fun p hp=>by
    have h1:=hs p hp s
    rw [hx] at h1
    unfold aH at h1
    cases hb:Zf (F.st s).h ks with
    |false=>rw [hb] at h1;simp only [cond_false] at h1;rw [HB] at h1;cases h1
    |true=>rw [hb] at h1;exact ⟨rfl,h1⟩
  obtain ⟨p0,hp0⟩:=List.exists_mem_of_ne_nil _ (Jg t)
  have hb:=(h p0 hp0).1
  have S:Ab C (F.st s) a w β:=S
  have Sd:=S.drew
  have e:ops=ops.toList.toArray:=by simp
  show (Code.region id ops true).wp P (Mf C Q) a w
  rw [e] at hB ⊢
  let Q1:AQ:=fun e st2=>e=.normal∧FX.get G.M st2=some x
  have evL_ok1:∀{kn st'},Cf G ops.toList kn (ops.toList.drop n) st' (fun st2=>(match FX.get G.M st2 with|some x=>some (Sum.inl x:HL FX.hs⊕HL FR.hs)|none=>G.bad _ 52 none st2))=some (.inl x)→OU P G.M G.N ops.toList.toArray Q1 (ops.toList.drop n) st':=fun {kn st'} hk =>
    Fy HB HT H (Q:=Q1) (fun st2 h2=>by
      split at h2
      ·rename_i y hy
       injection h2 with h2
       injection h2 with h2
       subst h2
       exact ⟨rfl,hy⟩
      ·rw [HB] at h2;cases h2) _ kn st' hk
  refine wp_mono (Q:=Mf C Q1) ?_ ?_
  rotate_left
  ·rintro e a2 w2 ⟨st2,β2,⟨rfl,hq⟩,S2⟩
   obtain ⟨β3,S3⟩:=FX.imp hq C a2 w2 β2 hM S2
   exact ⟨_,β3,hQ,S3⟩
  refine mC n t (fun w'=>Ec w.drew w' (Ka (F.st s).h β) (Ic ks (F.st s).h) β) hm hB (Ec.refl _ _ _ _) ?_
  refine Bp HB HT H hN (fun kn st' a' w' β' hK S'=>evL_ok1 hK C a' w' β' hN hM S') t [] ⟨(F.st s).t,Ic ks (F.st s).h⟩ (F.st s) a w.drew β hi (fun p hp=>(h p hp).2) rfl (Sd.kill ks) Sd (aI S hb)
end
end Go.Proofs.YtjffopopheiinaaGreatDoor
namespace Go.Proofs.YtjffopopheiinaaGreatDoor
open Go.RowKit
def Ep:Nat→List PV→List (Nat×PV)
  |_,[]=>[]
  |i,d::r=>(i,d)::Ep (i+1) r
theorem XU:∀(ds:List PV) (i j:Nat) (v:PV),Ed (Ep i ds) j=some v→i≤j∧ds[j-i]? =some v
  |[],i,j,v,h=>by cases h
  |d::r,i,j,v,h=>by
   simp only [Ep,Ed] at h
   by_cases e:i=j
   ·subst e
    simp only [Nat.beq_refl,cond_true,Option.some.injEq] at h
    subst h
    simp
   ·rw [Qm e] at h
    obtain ⟨h1,h2⟩:=XU r (i+1) j v h
    refine ⟨by omega,?_⟩
    rw [show j-i=(j-(i+1))+1 by omega]
    simpa using h2
def HM (tab:TypeId→Option TI) (st:St):ResultVar→Option PV
  | .tmp t=>Ed st.t t
  | .cell p t=>match Ed st.t p,tab t with
    |some v,some i=>ZB st i v
    |_,_=>none
def VC (tab:TypeId→Option TI) (st:St):List ResultVar→Option (List PV)
  |[]=>some []
  |q::r=>match HM tab st q,VC tab st r with|some v,some l=>some (v::l)|_,_=>none
def Mj (tab:TypeId→Option TI) (st:St) (rs:List ResultVar):Option PV:=match rs with
  |[q]=>HM tab st q
  |rs=>match VC tab st rs with
   |some vs=>bif vs.all (fun v=>match v with| .tup _=>false|_=>true) then some (.tup vs) else none
   |none=>none
section
variable {P:Program} {G:Ma}
theorem aJ (HT:Wb P G.tab) {C:Nc} {st:St} {a:Act} {w:World} {β:List (Nat×Nat)} (S:Ab C st a w β) {q:ResultVar} {v:PV} (h:HM G.tab st q=some v):∃u,((match q with| .tmp t=>pure (a.tmps.getD t undef)| .cell p t=>do loadVar t (←asAddr (a.tmps.getD p undef)):Sem Value)).run P w=.ok u w∧Cv w (Ka st.h β) C.X st.h β v u:=by
  cases q with
  |tmp t =>
   obtain ⟨u,h1,h2⟩:=S.tm t v h
   exact ⟨u,by simp [Array.getD_eq_getD_getElem?,h1],h2⟩
  |cell p t =>
   simp only [HM] at h
   split at h
   ·rename_i v' i hs hi
    have hv:=Z7 (P:=P) (st:=st) (o:=⟨none,.load t (.tmp p),0, "",#[],none⟩) HT rfl hs hi h
    obtain ⟨u,h1,h2⟩:=hv C _ a w β S
    refine ⟨u,?_,h1⟩
    have h3:=h2 w (Ec.refl _ _ _ _)
    obtain ⟨u',h4,h5⟩:=S.tm p v' hs
    have e:a.eval (.tmp p)=u':=by simp [Act.eval,Array.getD_eq_getD_getElem?,h4]
    have e2:a.tmps.getD p undef=u':=by simp [Array.getD_eq_getD_getElem?,h4]
    simp only [execOp,e,Instr.loadAt,Sem.run_bind] at h3
    simp only [e2,Sem.run_bind]
    have h6:∃A,u'=.pointer (some A):=by
      unfold ZB ET at h
      cases v'<;>simp at h
      ·obtain ⟨b,c,_,rfl⟩:=h5;exact ⟨_,rfl⟩
      ·obtain ⟨_,_,b,c,_,rfl,_⟩:=h5;exact ⟨_,rfl⟩
      ·obtain ⟨b,p,us,rfl,_⟩:=h5;exact ⟨_,rfl⟩
    obtain ⟨A,rfl⟩:=h6
    simp only [Instr.sureAddr,asAddr,Sem.run_pure,Result.andThen_ok] at h3 ⊢
    generalize Sem.run P (loadVar t A) w=rr at *
    cases rr with
    |ok x w1=>simp only [Result.andThen_ok,Result.ok.injEq,Next.value.injEq] at h3;rw [h3.1,h3.2]
    |halt x w1=>simp [Result.andThen] at h3
   ·cases h
theorem aK {α β:Type} {f:α→Sem β} {w:World}:∀{l:List α} {us:List β},us.length=l.length→(∀(i:Nat) x u,l[i]? =some x→us[i]? =some u→(f x).run P w=.ok u w)→(l.mapM f).run P w=.ok us w
  |[],us,hl,h=>by
   have:us=[]:=List.length_eq_zero_iff.1 hl
   subst this
   simp
  |x::l,[],hl,h=>by simp at hl
  |x::l,u::us,hl,h=>by
   have h1:=h 0 x u rfl rfl
   have h2:=aK (f:=f) (l:=l) (us:=us) (by simpa using hl) (fun i y v hy hv=>h (i+1) y v (by simpa using hy) (by simpa using hv))
   simp [List.mapM_cons,h1,h2]
theorem aL (HT:Wb P G.tab) {C:Nc} {st:St} {a:Act} {w:World} {β:List (Nat×Nat)} (S:Ab C st a w β):∀{rs:List ResultVar} {vs:List PV},VC G.tab st rs=some vs→∃us,F2 (Cv w (Ka st.h β) C.X st.h β) vs us∧us.length=rs.length∧∀(i:Nat) q u,rs[i]? =some q→us[i]? =some u→((match q with| .tmp t=>pure (a.tmps.getD t undef)| .cell p t=>do loadVar t (←asAddr (a.tmps.getD p undef)):Sem Value)).run P w=.ok u w
  |[],vs,h=>by
   simp only [VC,Option.some.injEq] at h
   subst h
   exact ⟨[],F2.nil,rfl,fun i q u hq=>by simp at hq⟩
  |q::r,vs,h=>by
   simp only [VC] at h
   split at h
   ·rename_i v l hv hl
    injection h with h
    subst h
    obtain ⟨u,h1,h2⟩:=aJ HT S hv
    obtain ⟨us,h3,h4,h5⟩:=aL HT S hl
    refine ⟨u::us,F2.cons h2 h3,by simp [h4],fun i q' u' hq hu=>?_⟩
    cases i with
    |zero=>simp at hq hu;subst hq hu;exact h1
    |succ i=>exact h5 i q' u' (by simpa using hq) (by simpa using hu)
   ·cases h
def WC:List Value→Value
  |[u]=>u
  |us=>.tuple us.toArray
theorem aM {fn:Func} {tmps:Array Value} {w:World} {us:List Value} (hl:us.length=fn.results.toList.length) (h:∀(i:Nat) q u,fn.results.toList[i]? =some q→us[i]? =some u→((match q with| .tmp t=>pure (tmps.getD t undef)| .cell p t=>do loadVar t (←asAddr (tmps.getD p undef)):Sem Value)).run P w=.ok u w):(results fn tmps).run P w=.ok (WC us) w:=by
  have h1:=aK (P:=P) (w:=w) (f:=fun q:ResultVar=>(match q with| .tmp t=>pure (tmps.getD t undef)| .cell p t=>do loadVar t (←asAddr (tmps.getD p undef)):Sem Value)) hl h
  show ((fn.results.mapM fun q:ResultVar=>(match q with| .tmp t=>pure (tmps.getD t undef)| .cell p t=>do loadVar t (←asAddr (tmps.getD p undef)):Sem Value)) >>= fun vs=>pure (if h:vs.size=1 then vs[0] else .tuple vs):Sem Value).run P w=_
  rw [Array.mapM_eq_mapM_toList]
  rw [Sem.run_bind,Sem.run_map,h1]
  match us with
  |[]=>simp [WC]
  |[u]=>simp [WC]
  |u::v::r=>simp [WC]
theorem aN (HT:Wb P G.tab) {C:Nc} {st:St} {a:Act} {w:World} {β:List (Nat×Nat)} (S:Ab C st a w β) {fn:Func} {v:PV} (h:Mj G.tab st fn.results.toList=some v):∃u,(results fn a.tmps).run P w=.ok u w∧Cv w (Ka st.h β) C.X st.h β v u:=by
  unfold Mj at h
  split at h
  ·rename_i q hq
   obtain ⟨u,h1,h2⟩:=aJ HT S h
   refine ⟨u,?_,h2⟩
   have:=aM (P:=P) (fn:=fn) (tmps:=a.tmps) (w:=w) (us:=[u]) (by rw [hq];rfl) (fun i q' u' h3 h4=>by
     rw [hq] at h3
     cases i with
     |zero=>simp at h3 h4;subst h3 h4;exact h1
     |succ i=>simp at h3)
   exact this
  ·rename_i hne
   split at h
   ·rename_i vs hvs
    cases hb:(vs.all fun v=>match v with| .tup _=>false|_=>true) with
    |false=>rw [hb] at h;cases h
    |true =>
     rw [hb] at h
     injection h with h
     subst h
     obtain ⟨us,h1,h2,h3⟩:=aL HT S hvs
     have hr:=aM h2 h3
     have hu:WC us=.tuple us.toArray:=by
       match us,h2 with
       |[],_=>rfl
       |[u],h2 =>
        exfalso
        cases e:fn.results.toList with
        |nil=>rw [e] at h2;simp at h2
        |cons q r=>cases r with
         |nil=>exact hne q e
         |cons q' r=>rw [e] at h2;simp at h2
       |u::v::r,_=>rfl
     rw [hu] at hr
     refine ⟨_,hr,us,rfl,h1.monoI fun x hx u hc=>?_⟩
     have:=List.all_eq_true.1 hb x hx
     cases x<;>first|exact hc|cases this
   ·cases h
def YU (G:Ma) (c:Code) (rs:List ResultVar) (AS:Rc) (ah:List Ho) (RS:Rc) (rh:List Ho) (s:HL ah):Option (HL rh):=match AS.fill (up ah s) with
  |some (ds,os)=>bif Nat.beq os.length G.M&&Nat.ble ds.length G.N then Ag G c ⟨Ep 0 ds,os⟩ (fun e st=>match e with
   | .normal=>(match Mj G.tab st rs with
     |some v=>(match RS.get G.M st.h [v] with|some l=>Lf rh l|none=>G.bad _ 61 none st)
     |none=>G.bad _ 62 none st)
   | .ret=>(match Mj G.tab st rs with
     |some v=>(match RS.get G.M st.h [v] with|some l=>Lf rh l|none=>G.bad _ 61 none st)
     |none=>G.bad _ 62 none st)
   |_=>G.bad _ 63 none st) else G.bad _ 64 none ⟨[],[]⟩
  |none=>G.bad _ 65 none ⟨[],[]⟩
theorem oW (HB:Xc G) (HT:Wb P G.tab) (H:Pa P G.Γ) (hm:P.follows .mixedOrders=true) {f:FuncId} {fn:Func} {c:Code} (hf:P.funcs[f]? =some fn) (hb:fn.body=some c) (hN:fn.ntmps=G.N) (hc:Ui P G c) {AS RS:Rc} {ah rh:List Ho} {sh:HL ah→Option (HL rh)} (hsh:∀s r,sh s=some r→YU G c fn.results.toList AS ah RS rh s=some r):GC P f ⟨AS,ah,RS,rh,sh⟩:=fun s r hs ds os hfill d0 h0' hfin=>by
  have hs:sh s=some r:=hs
  have hs:=hsh s r hs
  unfold YU at hs
  have hfill:AS.fill (up ah s)=some (ds,os):=hfill
  rw [hfill] at hs
  simp only at hs
  cases hb2:(Nat.beq os.length G.M&&Nat.ble ds.length G.N) with
  |false=>rw [hb2] at hs;simp only [cond_false] at hs;rw [HB] at hs;cases hs
  |true =>
   rw [hb2] at hs
   simp only [cond_true] at hs
   simp only [Bool.and_eq_true] at hb2
   have hM:=Nat.eq_of_beq_eq_true hb2.1
   have hds:=Nat.le_of_ble_eq_true hb2.2
   have endQ:∀(st:St),(match Mj G.tab st fn.results.toList with
     |some v=>(match RS.get G.M st.h [v] with|some l=>Lf rh l|none=>G.bad _ 61 none st)
     |none=>G.bad _ 62 none st)=some r→∃v l,Mj G.tab st fn.results.toList=some v∧RS.get G.M st.h [v]=some l∧Lf rh l=some r:=fun st hq=>by
     split at hq
     ·rename_i v hv
      split at hq
      ·rename_i l hl;exact ⟨v,l,hv,hl,hq⟩
      ·rw [HB] at hq;cases hq
     ·rw [HB] at hq;cases hq
   have hev:=Ap (r:=r) HB HT H hm c _ ⟨Ep 0 ds,os⟩ (fun e st=>(e=.normal∨e=.ret)∧∃v l,Mj G.tab st fn.results.toList=some v∧RS.get G.M st.h [v]=some l∧Lf rh l=some r) hc (fun e st hk=>by
     cases e with
     |normal=>exact ⟨.inl rfl,endQ st hk⟩
     |ret=>exact ⟨.inr rfl,endQ st hk⟩
     |_=>(simp only at hk;rw [HB] at hk;cases hk)) hs
   have key:∀w X β args,(∀b,X b→b<w.heap.size)→Xd w (Ka os β) X os β→F2 (Cv w (Ka os β) X os β) ds args→Jf w os β→Calls P f args.toArray w fun ex w'=>∃d h',RS.fill (up rh r)=some ([d],h')∧∃u β',ex=.returned u∧Zb w os β w' h' β'∧Xd w' (Ka h' β') X h' β'∧Cv w' (Ka h' β') X h' β' d u:=fun w X β args hX hH hargs hG=>by
     refine calls_of_wp hf hb ?_
     have hw:=hev ⟨w,os,β,G.N,X⟩ { tmps:=args.toArray++Array.replicate (fn.ntmps-args.toArray.size) undef,defers:=[] } w β rfl hM
       ⟨⟨hH.len,hG⟩,hX,Zb.refl _ _ _,hH,by have:=hargs.1;simp;omega,rfl,fun i v hi=>by
         obtain ⟨_,h1⟩:=XU ds 0 i v hi
         rw [Nat.sub_zero] at h1
         obtain ⟨u,hu,hR⟩:=hargs.get h1
         refine ⟨u,?_,hR⟩
         have hl:i<args.length:=(List.getElem?_eq_some_iff.1 hu).1
         show (args.toArray++Array.replicate (fn.ntmps-args.toArray.size) undef)[i]? =some u
         rw [Array.getElem?_append_left (by simpa using hl)]
         simpa using hu⟩
     refine wp_mono hw ?_
     rintro e a' w' ⟨st',β',⟨he,v,l,h1,h2,h3⟩,S'⟩
     unfold Rc.get at h2
     split at h2
     rename_i ρ vr hρ
     cases hb3:(Xo vr&&Wm G.M ρ (st'.h++vr)) with
     |false=>rw [hb3] at h2;cases h2
     |true =>
      rw [hb3] at h2
      simp only [cond_true] at h2
      simp only [Bool.and_eq_true] at hb3
      obtain ⟨u,hres,hu0⟩:=aN HT S' h1
      obtain ⟨β2,S2,hst2⟩:=S'.virt vr hb3.1
      obtain ⟨ds',os',g1,g2,g3,g4⟩:=GU S2 hM hb3.2 h2
      have hu:Cv w' (Ka (st'.h++vr) β2) X (st'.h++vr) β2 v u:=hu0.keep (fun _ _ _=>rfl) (Nat.le_refl _) (fun b hb hn h=>hn (hst2.new b hb h)) (fun _ _ _ h=>h) hst2.hle hst2.beta
      have hF:=g2 [u] (F2.cons hu F2.nil)
      have hl1:ds'.length=1:=by rw [←hF.1];rfl
      obtain ⟨d,rfl⟩:∃d,ds'=[d]:=by
        match ds',hl1 with
        |[d],_=>exact ⟨d,rfl⟩
      have hd:Cv w' (Ka os' (Sc ρ β2)) X os' (Sc ρ β2) d u:=hF.2 0 d u rfl rfl
      have hup:=Uo h3
      rcases he with rfl|rfl
      ·exact ⟨S'.df,u,hres,d,os',by rw [hup];exact g1,u,_,rfl,g4,g3,hd⟩
      ·exact ⟨S'.df,u,hres,d,os',by rw [hup];exact g1,u,_,rfl,g4,g3,hd⟩
   intro w X β args hX hH hargs hG
   refine Calls.mono (key w X β args hX hH hargs hG) fun ex w' hx=>?_
   obtain ⟨d,h',g1,g2⟩:=hx
   have hfin:RS.fill (up rh r)=some ([d0],h0'):=hfin
   rw [hfin] at g1
   injection g1 with g1
   injection g1 with e1 e2
   injection e1 with e1
   subst e1 e2
   exact g2
theorem Ua (HB:Xc G) (HT:Wb P G.tab) (H:Pa P G.Γ) (hm:P.follows .mixedOrders=true) {f:FuncId} {fn:Func} {c:Code} (hf:P.funcs[f]? =some fn) (hb:fn.body=some c) (hN:fn.ntmps=G.N) (hc:Ui P G c) {AS RS:Rc} {ah rh:List Ho} {sh:HL ah→Option (HL rh)} (hsh:∀s,YU G c fn.results.toList AS ah RS rh s=sh s):GC P f ⟨AS,ah,RS,rh,sh⟩:=oW HB HT H hm hf hb hN hc fun s _ h=>(hsh s).trans h
end
end Go.Proofs.YtjffopopheiinaaGreatDoor
namespace Go.Proofs.YtjffopopheiinaaGreatDoor
open Go.RowKit
def IM:List (Nat×TI)→Nat→Option TI
  |[],_=>none
  |(j,i)::r,t=>bif Nat.beq j t then some i else IM r t
def aO (P:Program):List (Nat×TI)→Prop
  |[]=>True
  |(j,i)::r=>Qb P j i∧aO P r
theorem aP {P:Program}:∀{l:List (Nat×TI)},aO P l→Wb P (IM l)
  |[],_,t,i,h=>by cases h
  |(j,i')::r,⟨h1,h2⟩,t,i,h=>by
   simp only [IM] at h
   cases hb:Nat.beq j t with
   |true =>
    rw [hb] at h
    injection h with h
    subst h
    have:=Nat.eq_of_beq_eq_true hb
    subst this
    exact h1
   |false =>
    rw [hb] at h
    exact aP h2 t i h
def JM:List PV→List Nat
  |[]=>[]
  | .fn f _::r=>f::JM r
  |_::r=>JM r
def ZU:List Nat→List Nat→Bool
  |[],[]=>true
  |a::r,b::s=>Nat.beq a b&&ZU r s
  |_,_=>false
def KM:List (Nat×List Nat×Oa)→FuncId→List PV→Option Oa
  |[],_,_=>none
  |(g,l,e)::r,f,vs=>bif Nat.beq g f&&ZU l (JM vs) then some e else KM r f vs
def aQ (P:Program):List (Nat×List Nat×Oa)→Prop
  |[]=>True
  |(g,_,e)::r=>(GC P g e∧∀args w,(callFunc g args).run P w=.ok (.enter g args) w)∧aQ P r
theorem Ra {P:Program}:∀{l:List (Nat×List Nat×Oa)},aQ P l→Pa P (KM l)
  |[],_,f,vs,e,h=>by cases h
  |(g,l,e')::r,⟨h1,h2⟩,f,vs,e,h=>by
   simp only [KM] at h
   cases hb:(Nat.beq g f&&ZU l (JM vs)) with
   |true =>
    rw [hb] at h
    injection h with h
    subst h
    simp only [Bool.and_eq_true] at hb
    have:=Nat.eq_of_beq_eq_true hb.1
    subst this
    exact h1
   |false =>
    rw [hb] at h
    exact Ra h2 f vs e h
def AV {α:Type}:List (Nat×α)→Nat→Option α
  |[],_=>none
  |(j,x)::r,i=>bif Nat.beq j i then some x else AV r i
def Sa (tab:TypeId→Option TI) (cs:List (Nat×List Nat×Oa)) (N M:Nat) (ps:List (Nat×Nat×List (Nat×Bool)×List Nat)) (ls:List (Nat×Xa)):Ma :=
  ⟨tab,KM cs,N,M,AV ps,AV ls,fun _ _ _ _=>none⟩
theorem Ga {tab:TypeId→Option TI} {cs:List (Nat×List Nat×Oa)} {N M:Nat} {ps:List (Nat×Nat×List (Nat×Bool)×List Nat)} {ls:List (Nat×Xa)}:Xc (Sa tab cs N M ps ls):=fun _ _ _ _=>rfl
def Ym:Code→List Code
  | .seq a b=>Ym a++Ym b
  | .cond _ a b=>Ym a++Ym b
  | .block _ c=>Ym c
  | .loop c=>[c]
  |_=>[]
def Kk (plan:Nat→Option (Nat×List (Nat×Bool)×List Nat)):Code→Bool
  | .region id ops true=>match plan id with|some (n,ord,_)=>UB .any ops n ord|none=>true
  | .seq a b=>Kk plan a&&Kk plan b
  | .cond _ a b=>Kk plan a&&Kk plan b
  | .block _ c=>Kk plan c
  |_=>true
def Ql (plan:Nat→Option (Nat×List (Nat×Bool)×List Nat)):Code→List (Nat×Array Oper)
  | .region id ops true=>match plan id with|some _=>[]|none=>[(id,ops)]
  | .seq a b=>Ql plan a++Ql plan b
  | .cond _ a b=>Ql plan a++Ql plan b
  | .block _ c=>Ql plan c
  |_=>[]
theorem Ky {P:Program} {G:Ma}:∀(c:Code),Kk G.plan c=true→(∀c'∈Ym c,∀L,Pq G c'=some L→Cb P G.M G.N c' L)→(∀x∈Ql G.plan c,∀L,G.loop x.1=some L→Ae P G.M G.N x.1 x.2 L)→Ui P G c
  | .skip,_,_,_=>trivial
  | .exit _,_,_,_=>trivial
  | .ret,_,_,_=>trivial
  | .region id ops false,_,_,_=>trivial
  | .region id ops true,hp,_,hr=>⟨fun n ord ks h=>by
    simp only [Kk,h] at hp
    exact hp,fun h L hL=>hr (id,ops) (by simp [Ql,h]) L hL⟩
  | .seq a b,hp,hl,hr=>by
    simp only [Kk,Bool.and_eq_true] at hp
    exact ⟨Ky a hp.1 (fun c' h=>hl c' (List.mem_append_left _ h)) fun x h=>hr x (List.mem_append_left _ h),Ky b hp.2 (fun c' h=>hl c' (List.mem_append_right _ h)) fun x h=>hr x (List.mem_append_right _ h)⟩
  | .cond _ a b,hp,hl,hr=>by
    simp only [Kk,Bool.and_eq_true] at hp
    exact ⟨Ky a hp.1 (fun c' h=>hl c' (List.mem_append_left _ h)) fun x h=>hr x (List.mem_append_left _ h),Ky b hp.2 (fun c' h=>hl c' (List.mem_append_right _ h)) fun x h=>hr x (List.mem_append_right _ h)⟩
  | .block _ c,hp,hl,hr=>Ky c hp hl hr
  | .loop c,_,hl,_=>fun L h=>hl c (List.mem_singleton.2 rfl) L h
  | .rangeFunc _ _ _ _,_,_,_=>trivial
  | .scope _,_,_,_=>trivial
  | .label _,_,_,_=>trivial
  | .goto _,_,_,_=>trivial
  | .refuse _,_,_,_=>trivial
def Va (c:Code) (i:Nat):Code:=(Ym c).getD i .skip
def XC:Nat→(Nat→Prop)→Prop
  |0,_=>True
  |n+1,R=>XC n R∧R n
theorem BV:∀{n:Nat} {R:Nat→Prop},XC n R→∀i,i<n→R i
  |0,R,_,i,hi=>by omega
  |n+1,R,h,i,hi=>by
   by_cases e:i=n
   ·subst e;exact h.2
   ·exact BV h.1 i (by omega)
def Fc (plan:Nat→Option (Nat×List (Nat×Bool)×List Nat)) (c:Code) (i:Nat):Nat×Array Oper:=(Ql plan c).getD i (0,#[])
theorem Bh {P:Program} {G:Ma} {c:Code} {n m:Nat} (hp:Kk G.plan c=true) (hn:(Ym c).length=n) (hl:XC n fun i=>∀L,Pq G (Va c i)=some L→Cb P G.M G.N (Va c i) L) (hm:(Ql G.plan c).length=m) (hr:XC m fun i=>∀L,G.loop (Fc G.plan c i).1=some L→Ae P G.M G.N (Fc G.plan c i).1 (Fc G.plan c i).2 L):Ui P G c :=
  Ky c hp (fun c' hc=>by
    obtain ⟨i,hi⟩:=List.getElem?_of_mem hc
    have hil:=(List.getElem?_eq_some_iff.1 hi).1
    have:=BV hl i (by omega)
    have e:Va c i=c':=by simp [Va,hi]
    rwa [e] at this) fun x hx=>by
    obtain ⟨i,hi⟩:=List.getElem?_of_mem hx
    have hil:=(List.getElem?_eq_some_iff.1 hi).1
    have:=BV hr i (by omega)
    have e:Fc G.plan c i=x:=by simp [Fc,hi]
    rwa [e] at this
theorem Ja {P:Program} {G:Ma} {c:Code} {n:Nat} (hp:Kk G.plan c=true) (hn:(Ym c).length=n) (hl:XC n fun i=>∀L,Pq G (Va c i)=some L→Cb P G.M G.N (Va c i) L) (hm:(Ql G.plan c).length=0):Ui P G c:=Bh hp hn hl hm trivial
theorem Bg {P:Program} {G:Ma} {x:Nat×Array Oper} {L0:Xa} (hl:G.loop x.1=some L0) (h:Ae P G.M G.N x.1 x.2 L0):∀L,G.loop x.1=some L→Ae P G.M G.N x.1 x.2 L:=fun L hL=>by
  rw [hl] at hL
  injection hL with hL
  subst hL
  exact h
theorem Gb {P:Program} {G:Ma} {c:Code} {id:Nat} {L0:Xa} (hid:Jk c=some id) (hl:G.loop id=some L0) (h:Cb P G.M G.N c L0):∀L,Pq G c=some L→Cb P G.M G.N c L:=fun L hL=>by
  unfold Pq at hL
  rw [hid] at hL
  simp only at hL
  rw [hl] at hL
  injection hL with hL
  subst hL
  exact h
def Ea:Nat:=18446744073709551616
end Go.Proofs.YtjffopopheiinaaGreatDoor
end
namespace Go.Proofs.YtjffopopheiinaaGreatDoor
section
open Go.RowKit
def CV (tab:TypeId→Option TI) (ops:Array Oper) (N:Nat) (q:Nat×Nat):Bool:=match ops[q.1]? with
  |some o=>(match o.op,o.dst,o.guard with
   | .buildSlice t n ps,some d,none=>Nat.beq n 0&&ps.isEmpty&&Nat.beq d q.2&&Nat.blt d N&&(match tab t with|some i=>(match i.elem with|some _=>true|none=>false)|none=>false)
   |_,_,_=>false)&&o.after.all (fun e=>!Region.binds .any e)
  |none=>false
structure Ly (P:Program) (ops:Array Oper) (N:Nat) (q:Nat×Nat) (o:Oper):Prop where
  at_:ops[q.1]? =some o
  dst:o.dst=some q.2
  guard:o.guard=none
  lt:q.2<N
  sel:∀cs b,o.op≠.select cs b
  wait:∀e∈o.after,Region.binds .any e=true→False
  noval:Qf o.op=false
  run:∃e,∀(ρ:Operand→Value) w,(execOp ρ o).run P w=.ok (.value (.slice (some ⟨w.heap.size,0,none⟩) 0 0)) (w.alloc (.cells #[] e))
section
variable {P:Program} {tab:TypeId→Option TI} {ops:Array Oper} {N:Nat}
theorem oX (H:Wb P tab) {q:Nat×Nat} (h:CV tab ops N q=true):∃o,Ly P ops N q o:=by
  unfold CV at h
  split at h
  case h_2=>cases h
  rename_i o ho
  simp only [Bool.and_eq_true] at h
  obtain ⟨h,hw⟩:=h
  split at h
  case h_2=>cases h
  rename_i t n ps d hop hdst hg
  simp only [Bool.and_eq_true] at h
  obtain ⟨⟨⟨⟨h1,h2⟩,h3⟩,h4⟩,h5⟩:=h
  have h1:=Nat.eq_of_beq_eq_true h1
  subst h1
  have h3:=Nat.eq_of_beq_eq_true h3
  subst h3
  have hps:ps= #[]:=by simpa using h2
  subst hps
  split at h5
  case h_2=>cases h5
  rename_i i hi
  split at h5
  case h_2=>cases h5
  rename_i el hel
  obtain ⟨e,τ,bytes⟩:=el
  refine ⟨o,ho,hdst,hg,Nat.blt_eq.mp h4,fun cs b=>(by rw [hop];intro h;cases h),fun e' he' hb=>?_,by rw [hop];rfl,e,fun ρ w=>?_⟩
  ·have:=Array.all_eq_true_iff_forall_mem.1 hw e' he'
   rw [hb] at this;cases this
  ·have T:=H t i hi
   simp [execOp,hop,Instr.buildSlice,Jj T hel,Bk T hel,Instr.fill,newRow,Array.range_zero']
def YC:Value:=.slice none 0 0
def Kd:List (Nat×Nat)→Act→Act
  |[],a=>a
  |q::r,a=>(Kd r a).put (some q.2) YC
def vl:List (Nat×Nat)→Array Bool→Array Bool
  |[],l=>l
  |q::r,l=>(vl r l).setIfInBounds q.1 true
def Fp:List (Nat×Nat)→St→St
  |[],st=>st
  |q::r,st=>(Fp r st).put (some q.2) (.im .nil)
theorem DV (D:List (Nat×Nat)) (l:Array Bool) (i:Nat):vl D (l.setIfInBounds i true)=(vl D l).setIfInBounds i true:=by
  induction D with
  |nil=>rfl
  |cons q r ih =>
   simp only [vl,ih]
   by_cases h:i=q.1
   ·subst h;rfl
   ·exact Array.setIfInBounds_comm _ _ h
theorem LM (D:List (Nat×Nat)) (a:Act):(Kd D a).tmps.size=a.tmps.size:=by
  induction D with
  |nil=>rfl
  |cons q r ih=>simp [Kd,Act.put,ih]
theorem oY (D:List (Nat×Nat)) (a:Act):(Kd D a).defers=a.defers:=by
  induction D with
  |nil=>rfl
  |cons q r ih=>simp [Kd,Act.put,ih]
theorem EV (D:List (Nat×Nat)) (a:Act) (i:Nat) (hi:i<a.tmps.size):(Kd D a).tmps[i]? =if i∈D.map (·.2) then some YC else a.tmps[i]? :=by
  induction D with
  |nil=>simp [Kd]
  |cons q r ih =>
   simp only [Kd,Act.put,List.map_cons,List.mem_cons]
   by_cases h:q.2=i
   ·subst h
    rw [if_pos (.inl rfl),Array.getElem?_setIfInBounds,if_pos rfl,if_pos (by rw [LM];exact hi)]
   ·rw [Array.getElem?_setIfInBounds_ne h,ih]
    have hne:i≠q.2:=fun e=>h e.symm
    by_cases hr:i∈r.map (·.2)
    ·rw [if_pos hr,if_pos (.inr hr)]
    ·rw [if_neg hr,if_neg (fun e=>e.elim hne hr)]
theorem aR (D:List (Nat×Nat)) (a:Act) (i:Nat) (hi:a.tmps.size≤i):(Kd D a).tmps[i]? =none:=Array.getElem?_eq_none (by rw [LM];exact hi)
theorem oZ {D:List (Nat×Nat)} {a:Act} {d:Option Tmp} {v:Value} (h:∀q∈D,d≠some q.2):(Kd D a).put d v=Kd D (a.put d v):=by
  induction D with
  |nil=>rfl
  |cons q r ih =>
   simp only [Kd]
   rw [←ih fun q' hq'=>h q' (List.mem_cons_of_mem _ hq'),Act.put_comm]
   intro e he hd
   exact h q (List.mem_cons_self ..) (hd.trans he.symm)
theorem aS {Q:Exit→Act→World→Prop} {j:Nat} {oj:Oper} (hj:ops[j]? =some oj) (hsj:∀cs b,oj.op≠.select cs b):∀(D:List (Nat×Nat)) {K:Act→World→Prop} {a:Act} {w:World},(∀q∈D,∃oi,Ly P ops N q oi∧oi.apart ops oj=true)→wpOp P ops (Lc Q) j K (Kd D a) w→wpOp P ops (Lc Q) j (fun a' w'=>K (Kd D a') w') a w
  |[],K,a,w,_,h=>h
  |q::r,K,a,w,hD,h=>by
   obtain ⟨oi,hp,hap⟩:=hD q (List.mem_cons_self ..)
   simp only [Kd] at h
   rw [←hp.dst] at h
   have:=wpOp_putIf (S:=fun _=>False) hj hap hp.sel hsj (fun c a w h=>h) (.inl ⟨by simp [Region.wanted,hp.guard],fun w h=>h.elim⟩) h
   rw [hp.dst] at this
   exact aS hj hsj r (fun q' hq'=>hD q' (List.mem_cons_of_mem _ hq')) (wpOp_mono (fun a' w' h'=>h'.2) this)
theorem aT {Q:Oper→Act→Prop} {j:Nat} {oj:Oper} (hsj:∀cs b,oj.op≠.select cs b):∀(D:List (Nat×Nat)) {a:Act},(∀q∈D,∃oi,Ly P ops N q oi∧oi.apart ops oj=true)→execOp (Kd D a).eval oj=execOp a.eval oj∧Region.wanted oj (yielded ops (Kd D a).tmps)=Region.wanted oj (yielded ops a.tmps)
  |[],a,_=>⟨rfl,rfl⟩
  |q::r,a,hD=>by
   obtain ⟨oi,hp,hap⟩:=hD q (List.mem_cons_self ..)
   obtain ⟨h1,_,_⟩:=Oper.apart_spec hap
   obtain ⟨i1,i2⟩:=aT (Q:=Q) (j:=j) hsj r (a:=a) (fun q' hq'=>hD q' (List.mem_cons_of_mem _ hq'))
   simp only [Kd]
   rw [←hp.dst]
   exact ⟨(execOp_put oj hsj _ oi.dst YC h1).trans i1,(wanted_put oj _ oi.dst YC h1).trans i2⟩
end
def Nf (md:Region.Mode) (ops:Array Oper):Bool→Nat→Tr→Array Bool→Array Bool→Bool
  |_,0,.done,_,L=>decide (Region.ready md ops L=[])
  |_,m+1,.val k r,base,L=>(match ops[k]? with
    |some o=>Qf o.op&&(Region.ready md ops base).contains k&&Region.free md ops base k
    |none=>false)&&Nf md ops true m r (base.setIfInBounds k true) (L.setIfInBounds k true)
  |b,m+1,.one k r,base,L=>(!b||decide (Region.ready md ops L=[k]))&&Nf md ops true m r (base.setIfInBounds k true) (L.setIfInBounds k true)
  |b,m+1,.alt k r t,base,L=>(!b||decide (Region.ready md ops L=k::Ke t))&&Nf md ops true m r (base.setIfInBounds k true) (L.setIfInBounds k true)&&Nf md ops false (m+1) t base L
  |_,_,_,_,_=>false
def ZC:List Nat→Bool
  |[]=>true
  |k::r=>Pg r k&&ZC r
def aU (tab:TypeId→Option TI) (ops:Array Oper) (N:Nat) (D:List (Nat×Nat)) (t:Tr):Bool :=
  Region.noSelect ops&&D.all (CV tab ops N)&&D.all (fun q=>Region.free .any ops (Array.replicate ops.size false) q.1)&&ZC (D.map (·.1))&&ZC (D.map (·.2))&&Nat.ble D.length ops.size&&Nf .any ops true (ops.size-D.length) t (Array.replicate ops.size false) (vl D (Array.replicate ops.size false))
def aV:Option PV→Bool
  |some (.im .nil)=>true
  |_=>false
def Zm (D:List (Nat×Nat)) (t0 t:List (Nat×PV)):Bool:=D.all fun q=>Nq t0 (some q.2)&&aV (Ed t q.2)
def Gi {ρ:Type} (G:Ma) (ops:List Oper) (ks:List Nat) (D:List (Nat×Nat)):List (Nat×Bool)→List (Oper×Bool)→St→St→(List (Nat×Bool)→St→Option ρ)→Option ρ
  |kn,[],st0,st,K=>bif Zm D st0.t st.t then K kn st else G.bad ρ 37 none st
  |kn,(o,f)::r,st0,st,K=>bif Zm D st0.t st.t then Fi G ops ks kn o f st0 st fun kn' s u=>Gi G ops ks D kn' r s u K else G.bad ρ 37 (some o) st
def aW (G:Ma) (ops:List Oper) (D:List (Nat×Nat)) (ks:List Nat) (F FX FR:Yd) (p:List (Nat×Bool)) (s:HL F.hs):Option (HL FX.hs⊕HL FR.hs):=bif Zf (F.st s).h ks then Gi G ops ks D [] (Bc ops p) ⟨(F.st s).t,Ic ks (F.st s).h⟩ (Fp D (F.st s)) fun _ st2=>(match FX.get G.M st2 with|some x=>some (.inl x)|none=>G.bad _ 52 none st2) else G.bad _ 41 none (F.st s)
theorem aX {k:Nat}:∀{l:List Nat},Pg l k=true→k∉l
  |[],_,h=>by simp at h
  |j::r,h,hk=>by
   simp only [Pg] at h
   cases hb:Nat.beq j k with
   |true=>rw [hb] at h;cases h
   |false =>
    rw [hb] at h
    rcases List.mem_cons.1 hk with rfl|hk
    ·simp at hb
    ·exact aX h hk
theorem FV:∀{l:List Nat},ZC l=true→l.Nodup
  |[],_=>List.nodup_nil
  |k::r,h=>by
   simp only [ZC,Bool.and_eq_true] at h
   exact List.nodup_cons.2 ⟨aX h.1,FV h.2⟩
theorem aY {D:List (Nat×Nat)} {t0 t:List (Nat×PV)} (h:Zm D t0 t=true):∀q∈D,Ed t0 q.2=none∧Ed t q.2=some (.im .nil):=fun q hq=>by
  have:=List.all_eq_true.1 h q hq
  simp only [Bool.and_eq_true] at this
  refine ⟨Zo this.1 _ rfl,?_⟩
  have h2:=this.2
  unfold aV at h2
  split at h2
  ·rename_i e;exact e
  ·cases h2
theorem aZ {md:Region.Mode} {ops:Array Oper} {i:Nat} {l:Array Bool}:∀{D:List (Nat×Nat)},i∈Region.ready md ops l→i∉D.map (·.1)→i∈Region.ready md ops (vl D l)
  |[],h,_=>h
  |q::r,h,hn=>by
   simp only [List.map_cons,List.mem_cons,not_or] at hn
   exact ready_mono (aZ (D:=r) h hn.2) hn.1
theorem pA {D:List (Nat×Nat)} {q:Nat×Nat} {l:Array Bool} (hq:q∈D):vl (D.erase q) (l.setIfInBounds q.1 true)=vl D l:=by
  induction D with
  |nil=>simp at hq
  |cons p r ih =>
   by_cases h:p=q
   ·subst h
    rw [List.erase_cons_head,DV]
    rfl
   ·have hr:q∈r:=(List.mem_cons.1 hq).resolve_left (fun e=>h e.symm)
    have:(p::r).erase q=p::r.erase q:=List.erase_cons_tail (by simpa using h)
    rw [this]
    simp only [vl,ih hr]
section
variable {P:Program} {G:Ma} {C:Nc} {E0:Nat→Prop} {ks:List Nat} {st0 st:St} {a a':Act} {w0 w:World} {β0 β:List (Nat×Nat)}
theorem Sb.alloc0 (S:Ab C st a w β) (o:Obj):Ab C st a (w.alloc o) β∧Zb w st.h β (w.alloc o) st.h β:=by
  have hb:Below w.heap.size w (w.alloc o):=(Below.refl _ _).alloc (Nat.le_refl _) _
  have hs:Zb w st.h β (w.alloc o) st.h β:=⟨hb.os,hb.tape,hb.output,hb.size,fun b hb' _=>hb.block b hb',fun _ _ h=>h,fun _ _ h=>h,Fd.refl _⟩
  exact ⟨S.world hs ⟨S.heap.len,fun _ h=>h,S.heap.nx,fun k ob hk=>(S.heap.ok k ob hk).keep (fun b c h1 h2=>hb.block b (Ka.lt S.heap ⟨k,ob,c,hk,h2,h1⟩)) (fun b hb' _=>hb.block b hb') hb.size (fun _ _ h=>h) (Fd.refl _) (fun _ _ h=>h),S.heap.inj⟩,hs⟩
theorem Sb.tmps (S:Sb C E0 st a w β) (h1:a'.tmps.size=a.tmps.size) (h2:a'.defers=a.defers) (h3:∀i v,Ed st.t i=some v→a'.tmps[i]? =a.tmps[i]?∨∃u,a'.tmps[i]? =some u∧Cv w E0 C.X st.h β v u):Sb C E0 st a' w β:=by
  refine ⟨S.cl,S.xw,S.step,S.heap,h1.trans S.sz,h2.trans S.df,fun i v hi=>?_⟩
  rcases h3 i v hi with h|h
  ·rw [h];exact S.tm i v hi
  ·exact h
theorem bA {g:Nat×Nat→Nat} {D:List (Nat×Nat)} {q:Nat×Nat} (hn:(D.map g).Nodup) (hq:q∈D):g q∉(D.erase q).map g∧∀i,i≠g q→(i∈(D.erase q).map g↔i∈D.map g):=by
  induction D with
  |nil=>simp at hq
  |cons p r ih =>
   simp only [List.map_cons,List.nodup_cons] at hn
   by_cases h:p=q
   ·subst h
    rw [List.erase_cons_head]
    exact ⟨hn.1,fun i hi=>by simp [hi]⟩
   ·have hr:q∈r:=(List.mem_cons.1 hq).resolve_left (fun e=>h e.symm)
    have e:(p::r).erase q=p::r.erase q:=List.erase_cons_tail (by simpa using h)
    obtain ⟨i1,i2⟩:=ih hn.2 hr
    rw [e]
    refine ⟨?_,fun i hi=>?_⟩
    ·simp only [List.map_cons,List.mem_cons,not_or]
     exact ⟨fun e=>hn.1 (by rw [←e];exact List.mem_map_of_mem hr),i1⟩
    ·simp only [List.map_cons,List.mem_cons,i2 i hi]
theorem bB {D:List (Nat×Nat)} {q:Nat×Nat} (hn:(D.map (·.2)).Nodup) (hq:q∈D) (hN:q.2<C.N) (A:Option Addr) (hs:∀v,Ed st.t q.2=some v→v=.im .nil) (S:Sb C E0 st (Kd D a) w β):Sb C E0 st (Kd (D.erase q) (a.put (some q.2) (.slice A 0 0))) w β:=by
  have hsz:a.tmps.size=C.N:=by rw [←S.sz,LM]
  obtain ⟨n1,n2⟩:=bA (g:=(·.2)) hn hq
  refine S.tmps (by simp [LM,Act.put]) (by simp [oY,Act.put]) fun i v hi=>?_
  by_cases he:i=q.2
  ·subst he
   refine .inr ⟨.slice A 0 0,?_,by rw [hs v hi];exact Ri.nil A⟩
   rw [EV _ _ _ (by simp [Act.put];omega),if_neg n1]
   simp [Act.put,hsz,hN]
  ·refine .inl ?_
   rcases Nat.lt_or_ge i a.tmps.size with hl|hl
   ·rw [EV _ _ _ (by simpa [Act.put] using hl),EV _ _ _ hl]
    simp only [n2 i he]
    have:¬q.2=i:=fun e=>he e.symm
    simp [Act.put,Array.getElem?_setIfInBounds_ne this]
   ·rw [aR _ _ _ (by simpa [Act.put] using hl),aR _ _ _ hl]
theorem bC {ρ ι:Type} (HB:Xc G) {ops:List Oper} {D:List (Nat×Nat)} {kn:List (Nat×Bool)} {o:Oper} {f:Bool} {st0 st:St} {K:List (Nat×Bool)→St→Option ρ} {r:ρ} {L:List ι} {g:ι→List (Oper×Bool)} (hne:L≠[]) (h:∀p∈L,Gi G ops ks D kn ((o,f)::g p) st0 st K=some r):Zm D st0.t st.t=true∧∃x:List (Nat×Bool)×St×St,Fi G ops ks kn o f st0 st (fun a b c=>some (a,b,c))=some x∧∀p∈L,Gi G ops ks D x.1 (g p) x.2.1 x.2.2 K=some r:=by
  have hc:Zm D st0.t st.t=true:=by
    obtain ⟨p,hp⟩:=List.exists_mem_of_ne_nil L hne
    have:=h p hp
    unfold Gi at this
    cases hc:Zm D st0.t st.t with
    |true=>rfl
    |false=>rw [hc] at this;simp only [cond_false] at this;rw [HB] at this;cases this
  refine ⟨hc,Iy HB (K:=fun p kn' s u=>Gi G ops ks D kn' (g p) s u K) hne fun p hp=>?_⟩
  have:=h p hp
  unfold Gi at this
  rw [hc] at this
  exact this
theorem HV {ρ:Type} (HB:Xc G) {ops:List Oper} {D:List (Nat×Nat)} {kn:List (Nat×Bool)} {l:List (Oper×Bool)} {st0 st:St} {K:List (Nat×Bool)→St→Option ρ} {r:ρ} (h:Gi G ops ks D kn l st0 st K=some r):Zm D st0.t st.t=true:=by
  unfold Gi at h
  cases hc:Zm D st0.t st.t with
  |true=>rfl
  |false=>cases l<;>simp only [hc,cond_false] at h<;>rw [HB] at h<;>cases h
structure JV (ops:List Oper) (D Dp:List (Nat×Nat)) (base listed:Array Bool):Prop where
  sub:∀q∈Dp,q∈D
  nk:(Dp.map (·.1)).Nodup
  ns:(Dp.map (·.2)).Nodup
  un:∀q∈Dp,listed.getD q.1 true=false
  inv:HeadInv .any ops.toArray ops.length listed
  below:∀i,base.getD i false=true→listed.getD i false=true
  off:∀i,i∉D.map (·.1)→listed.getD i true=base.getD i true
  done:∀q∈D,q∉Dp→listed.getD q.1 false=true
  offD:∀q∈D,base.getD q.1 true=false
theorem pB {ρ:Type} {h0:List Fa} (HB:Xc G) (HT:Wb P G.tab) (H:Pa P G.Γ) {ops:List Oper} {D:List (Nat×Nat)} {K:List (Nat×Bool)→St→Option ρ} {r:ρ} {Q:Exit→Act→World→Prop} {T:Act→World→Prop} (hN:C.N=G.N)
    (hsel:Region.noSelect ops.toArray=true) (hD:∀q∈D,∃oi,Ly P ops.toArray G.N q oi) (hfree:∀q∈D,Region.free .any ops.toArray (Array.replicate ops.toArray.size false) q.1=true)
    (hT:∀kn st a w β,K kn st=some r→Ab C st a w β→T a w):∀(f m:Nat) (t:Tr) (Dp:List (Nat×Nat)) (base listed:Array Bool) (kn:List (Nat×Bool)) (st0 st:St) (a:Act) (w:World) (β:List (Nat×Nat)),f=m+Dp.length→JV ops D Dp base listed→Nf .any ops.toArray true m t base (vl Dp listed)=true→Ee ops t=true →
      (∀p∈Xb t,Gi G ops ks D kn (Bc ops p) st0 st K=some r)→st0.h=h0→Sb C E0 st0 (Kd Dp a) w0 β0→Ab C st (Kd Dp a) w β→Yc ks E0 st0 w0 β0 st w β →
      Yf P .any ops.toArray (Lc Q) (fun w'=>Ec w0 w' E0 h0 β0) ops.length (fun listed' a' w'=>Region.ready .any ops.toArray listed'=[]∧T a' w') f listed a w:=by
  have apart:∀{Dp:List (Nat×Nat)} {base listed:Array Bool},JV ops D Dp base listed→∀{j:Nat} {oj:Oper},ops.toArray[j]? =some oj→j∉Dp.map (·.1)→(∀e∈oj.after,Region.binds .any e=true→listed.getD e.on false=true)→∀q∈Dp,∃oi,Ly P ops.toArray G.N q oi∧oi.apart ops.toArray oj=true:=fun {Dp base listed} hp {j oj} hj hnj hall q hq=>by
    obtain ⟨oi,hpr⟩:=hD q (hp.sub q hq)
    refine ⟨oi,hpr,Region.free_spec hpr.at_ (hfree q (hp.sub q hq)) j oj hj (fun e=>hnj (by rw [e];exact List.mem_map_of_mem hq)) ?_ fun e he hb heq=>?_⟩
    ·have hlt:j<ops.toArray.size:=(Array.getElem?_eq_some_iff.1 hj).1
     exact getD_in (by simpa using hlt) (getD_replicate_false _ _)
    ·have h1:=hall e he hb
     rw [heq,getD_both (hp.un q hq)] at h1
     cases h1
  intro f
  induction f with
  |zero =>
   intro m t Dp base listed kn st0 st a w β hf hp hB hi h hh S0 S R
   obtain rfl:m=0:=by omega
   obtain rfl:Dp=[]:=List.length_eq_zero_iff.1 (by omega)
   cases t with
   |done =>
    refine ⟨oT hB,?_⟩
    have h1:=h [] (by simp [Xb])
    have hc:=HV HB h1
    unfold Gi at h1
    simp only [Bc,List.filterMap_nil,hc,cond_true] at h1
    exact hT kn st a w β h1 S
   |_=>simp [Nf] at hB
  |succ f ih =>
   intro m t Dp base listed kn st0 st a w β hf hp hB hi_ h hh S0 S R
   have hcD:Zm D st0.t st.t=true:=by
     obtain ⟨p,hp'⟩:=List.exists_mem_of_ne_nil _ (Jg t)
     exact HV HB (h p hp')
   have hcD:=aY hcD
   have come:∀q∈Dp,q.1∈Region.ready .any ops.toArray listed∧wpOp P ops.toArray (Lc Q) q.1 (fun a' w'=>Ec w0 w' E0 h0 β0∧Yf P .any ops.toArray (Lc Q) (fun w'=>Ec w0 w' E0 h0 β0) ops.length (fun listed' a' w'=>Region.ready .any ops.toArray listed'=[]∧T a' w') f (listed.setIfInBounds q.1 true) a' w') a w:=fun q hq=>by
     obtain ⟨oi,hpr⟩:=hD q (hp.sub q hq)
     have hrd:q.1∈Region.ready .any ops.toArray listed:=mem_ready.2 ⟨hp.un q hq,oi,hpr.at_,fun e he hb=>(hpr.wait e he hb).elim⟩
     refine ⟨hrd,?_⟩
     obtain ⟨e,hrun⟩:=hpr.run
     have hw:Region.wanted oi (yielded ops.toArray a.tmps)=true:=by simp [Region.wanted,hpr.guard]
     unfold wpOp
     simp only [hpr.at_,hw,if_true]
     refine .inl ?_
     unfold Oper.wp
     rw [hrun]
     simp only [Oper.upon]
     rw [hpr.dst]
     have hlt:q.2<C.N:=by rw [hN];exact hpr.lt
     obtain ⟨h1,h2⟩:=hcD q (hp.sub q hq)
     have S1:=bB hp.ns hq hlt (some ⟨w.heap.size,0,none⟩) (fun v hv=>by rw [h2] at hv;injection hv with hv;exact hv.symm) S
     have S2:=bB hp.ns hq hlt (some ⟨w.heap.size,0,none⟩) (fun v hv=>by rw [h1] at hv;cases hv) S0
     obtain ⟨S3,hst⟩:=Sb.alloc0 S1 (.cells #[] e)
     have hb:Below w.heap.size w (w.alloc (.cells #[] e)):=(Below.refl _ _).alloc (Nat.le_refl _) _
     have R':=R.step S0.heap.len (l:=[]) (fun k hk=>by simp at hk) hst (fun _ b hb' _=>hb.block b hb')
     have hlenq:(Dp.erase q).length=Dp.length-1:=List.length_erase_of_mem hq
     have hpos:0<Dp.length:=List.length_pos_of_mem hq
     have hkn:q.1<ops.toArray.size:=(Array.getElem?_eq_some_iff.1 hpr.at_).1
     have hkn':q.1<ops.length:=by simpa using hkn
     have hls:listed.size=ops.toArray.size:=hp.inv.size
     refine ⟨by rw [←hh];exact R'.stab,ih m t (Dp.erase q) base (listed.setIfInBounds q.1 true) kn st0 st _ _ β (by omega) ⟨fun p hp'=>hp.sub p (List.mem_of_mem_erase hp'),(hp.nk.sublist (List.Sublist.map _ (List.erase_sublist ..))),(hp.ns.sublist (List.Sublist.map _ (List.erase_sublist ..))),fun p hp'=>?_,hp.inv.set hrd hkn',fun i hi=>getD_set_true (hp.below i hi),fun i hn=>?_,fun p hpD hpn=>?_,hp.offD⟩ (by rw [pA hq];exact hB) hi_ h hh S2 S3 R'⟩
     ·rw [getD_set_ne true (fun e=>?_)]
      ·exact hp.un p (List.mem_of_mem_erase hp')
      ·exact (bA (g:=(·.1)) hp.nk hq).1 (by rw [show q.1=p.1 from e];exact List.mem_map_of_mem hp')
     ·have e:q.1≠i:=by
        rintro rfl
        exact absurd (List.mem_map_of_mem (hp.sub q hq)) hn
      rw [getD_set_ne true e]
      exact hp.off i hn
     ·by_cases e:p=q
      ·subst e
       simp [Array.getD_eq_getD_getElem?,Array.getElem?_setIfInBounds,hls,hkn']
      ·exact getD_set_true (hp.done p hpD fun h=>hpn ((List.mem_erase_of_ne e).2 h))
   have hS:Ec w0 w E0 h0 β0:=by rw [←hh];exact R.stab
   have notD:∀k,k∈Region.ready .any ops.toArray listed→k∉Dp.map (·.1)→∀q∈D,k≠q.1:=fun k hk hn q hq e=>by
     by_cases hqp:q∈Dp
     ·exact hn (by rw [e];exact List.mem_map_of_mem hqp)
     ·have h1:=hp.done q hq hqp
      rw [←e,getD_both (mem_ready.1 hk).1] at h1
      cases h1
   have pend:∀k,k∈Region.ready .any ops.toArray listed→(∀q∈D,k≠q.1)→k∉Dp.map (·.1)→JV ops D Dp (base.setIfInBounds k true) (listed.setIfInBounds k true):=fun k hk hkD hn=>by
     obtain ⟨hun,o,ho,hall⟩:=mem_ready.1 hk
     have hkl:k<ops.length:=by have:=(Array.getElem?_eq_some_iff.1 ho).1;simpa using this
     refine ⟨hp.sub,hp.nk,hp.ns,fun q hq=>?_,hp.inv.set hk hkl,fun i hi=>?_,fun i hi=>?_,fun q hq hqn=>getD_set_true (hp.done q hq hqn),fun q hq=>?_⟩
     ·rw [getD_set_ne true (hkD q (hp.sub q hq))];exact hp.un q hq
     ·by_cases e:k=i
      ·subst e
       have hls:listed.size=ops.toArray.size:=hp.inv.size
       simp [Array.getD_eq_getD_getElem?,Array.getElem?_setIfInBounds,hls,hkl]
      ·rw [getD_set_ne false e] at hi ⊢
       exact hp.below i hi
     ·by_cases e:k=i
      ·subst e
       have h1:∀l:Array Bool,(l.setIfInBounds k true).getD k true=true:=fun l=>by
         rcases Nat.lt_or_ge k l.size with h|h
         ·simp [Array.getD_eq_getD_getElem?,Array.getElem?_setIfInBounds,h]
         ·simp [Array.getD_eq_getD_getElem?,Array.getElem?_setIfInBounds,Nat.not_lt.2 h]
       rw [h1,h1]
      ·rw [getD_set_ne true e,getD_set_ne true e];exact hp.off i hi
     ·rw [getD_set_ne true (hkD q hq)];exact hp.offD q hq
   have alts:∀(m':Nat),m=m'+1→∀(t':Tr),Nf .any ops.toArray false (m'+1) t' base (vl Dp listed)=true→Ee ops t'=true→(∀p∈Xb t',Gi G ops ks D kn (Bc ops p) st0 st K=some r)→∀i∈Ke t',i∈Region.ready .any ops.toArray listed→i∉Dp.map (·.1) →
       wpOp P ops.toArray (Lc Q) i (fun a' w'=>Ec w0 w' E0 h0 β0∧Yf P .any ops.toArray (Lc Q) (fun w'=>Ec w0 w' E0 h0 β0) ops.length (fun listed' a' w'=>Region.ready .any ops.toArray listed'=[]∧T a' w') f (listed.setIfInBounds i true) a' w') a w:=fun m' hm t'=>by
     have single:∀k t1,Nf .any ops.toArray true m' t1 (base.setIfInBounds k true) ((vl Dp listed).setIfInBounds k true)=true→k<ops.length→Ee ops t1=true→(∀p∈Xb t1,Gi G ops ks D kn (Bc ops ((k,false)::p)) st0 st K=some r)→k∈Region.ready .any ops.toArray listed→k∉Dp.map (·.1) →
         wpOp P ops.toArray (Lc Q) k (fun a' w'=>Ec w0 w' E0 h0 β0∧Yf P .any ops.toArray (Lc Q) (fun w'=>Ec w0 w' E0 h0 β0) ops.length (fun listed' a' w'=>Region.ready .any ops.toArray listed'=[]∧T a' w') f (listed.setIfInBounds k true) a' w') a w:=fun k t1 hB1 hkl hi1 hps hrd hnk=>by
       have hk:=List.getElem?_eq_getElem hkl
       generalize ops[k]=o at hk
       have hk':ops.toArray[k]? =some o:=by simpa using hk
       obtain ⟨_,x,h1,h2⟩:=bC HB (g:=fun p=>Bc ops p) (L:=Xb t1) (Jg t1) fun p hp'=>by
         have:=hps p hp'
         rwa [Pl hk] at this
       obtain ⟨_,o',ho',hall⟩:=mem_ready.1 hrd
       have hoo:o'=o:=by rw [hk'] at ho';injection ho' with ho';exact ho'.symm
       subst hoo
       have hstep:=Qq (r:=x) (Q:=Q) (T:=fun a' w'=>∃β',Sb C E0 x.2.1 a' w0 β0∧Ab C x.2.2 a' w' β'∧Yc ks E0 x.2.1 w0 β0 x.2.2 w' β'∧x.2.1.h=h0) HB HT H hN (fun kn' s u a' w' β' hx hh' S0' S' R'=>by
         injection hx with hx
         subst hx
         exact ⟨β',S0',S',R',hh'⟩) h1 hh S0 S R
       have h3:wpOp P ops.toArray (Lc Q) k (fun a' w'=>Ec w0 w' E0 h0 β0∧∃β',Sb C E0 x.2.1 a' w0 β0∧Ab C x.2.2 a' w' β'∧Yc ks E0 x.2.1 w0 β0 x.2.2 w' β'∧x.2.1.h=h0) (Kd Dp a) w:=Nm (S:=fun w'=>Ec w0 w' E0 h0 β0) hk' hS hstep fun a' w' hS' h'=>⟨hS',h'⟩
       refine wpOp_mono ?_ (aS hk' (Region.noSelect_spec hsel k o' · · hk') Dp (apart hp hk' hnk hall) h3)
       rintro a' w' ⟨hS',β',S0',S',R',hh'⟩
       exact ⟨hS',ih m' t1 Dp (base.setIfInBounds k true) (listed.setIfInBounds k true) x.1 x.2.1 x.2.2 a' w' β' (by omega) (pend k hrd (notD k hrd hnk) hnk) (by rw [DV];exact hB1) hi1 h2 hh' S0' S' R'⟩
     induction t' with
     |one k t1 _ =>
      intro hB' hi' hps i hih hrd hnk
      simp only [Nf,Bool.not_false,Bool.true_or,Bool.true_and] at hB'
      simp only [Ee,Bool.and_eq_true,decide_eq_true_eq] at hi'
      obtain rfl:i=k:=by simpa [Ke] using hih
      exact single i t1 hB' hi'.1 hi'.2 (fun p hp'=>hps _ (by simp only [Xb];exact List.mem_map_of_mem hp')) hrd hnk
     |alt k t1 t2 _ ih2 =>
      intro hB' hi' hps i hih hrd hnk
      simp only [Nf,Bool.not_false,Bool.true_or,Bool.true_and,Bool.and_eq_true] at hB'
      simp only [Ee,Bool.and_eq_true,decide_eq_true_eq] at hi'
      rcases List.mem_cons.1 (show i∈k::Ke t2 from hih) with rfl|hih
      ·exact single i t1 hB'.1 hi'.1.1 hi'.1.2 (fun p hp'=>hps _ (by simp only [Xb];exact List.mem_append_left _ (List.mem_map_of_mem hp'))) hrd hnk
      ·exact ih2 hB'.2 hi'.2 (fun p hp'=>hps p (by simp only [Xb];exact List.mem_append_right _ hp')) i hih hrd hnk
     |_=>intro _ _ _ i hih;simp [Ke] at hih
   have lt_of:∀i,i∈Region.ready .any ops.toArray listed→i<ops.length:=fun i hi=>by
     obtain ⟨_,o,ho,_⟩:=mem_ready.1 hi
     have:=(Array.getElem?_eq_some_iff.1 ho).1
     simpa using this
   have key:(Region.ready .any ops.toArray listed≠[])→(∀i∈Region.ready .any ops.toArray (vl Dp listed),i∈Region.ready .any ops.toArray listed→i∉Dp.map (·.1)→wpOp P ops.toArray (Lc Q) i (fun a' w'=>Ec w0 w' E0 h0 β0∧Yf P .any ops.toArray (Lc Q) (fun w'=>Ec w0 w' E0 h0 β0) ops.length (fun listed' a' w'=>Region.ready .any ops.toArray listed'=[]∧T a' w') f (listed.setIfInBounds i true) a' w') a w) →
       Yf P .any ops.toArray (Lc Q) (fun w'=>Ec w0 w' E0 h0 β0) ops.length (fun listed' a' w'=>Region.ready .any ops.toArray listed'=[]∧T a' w') (f+1) listed a w:=fun hne hall=>⟨hne,fun i hi=>⟨lt_of i hi,by
     by_cases hik:i∈Dp.map (·.1)
     ·obtain ⟨q,hq,rfl⟩:=List.mem_map.1 hik
      exact (come q hq).2
     ·exact hall i (aZ hi hik) hi hik⟩⟩
   have hne0:Dp≠[]→Region.ready .any ops.toArray listed≠[]:=fun hd=>by
     obtain ⟨q,hq⟩:=List.exists_mem_of_ne_nil _ hd
     exact List.ne_nil_of_mem (come q hq).1
   cases m with
   |zero =>
    cases t with
    |done =>
     have hB:Region.ready .any ops.toArray (vl Dp listed)=[]:=oT hB
     refine key (hne0 fun e=>by rw [e] at hf;simp at hf) fun i hi=>?_
     rw [hB] at hi
     cases hi
    |_=>simp [Nf] at hB
   |succ m' =>
    cases t with
    |done=>simp [Nf] at hB
    |two=>simp [Nf] at hB
    |one k t1 =>
     have hB0:Nf .any ops.toArray false (m'+1) (.one k t1) base (vl Dp listed)=true:=by
       simp only [Nf,Bool.and_eq_true,Bool.not_false,Bool.true_or,true_and] at hB ⊢
       exact hB.2
     simp only [Nf,Bool.and_eq_true,Bool.not_true,Bool.false_or,decide_eq_true_eq] at hB
     refine key ?_ fun i hi hrd hnk=>alts m' rfl (.one k t1) hB0 hi_ h i (by rw [hB.1] at hi;exact hi) hrd hnk
     by_cases hd:Dp=[]
     ·subst hd
      rw [show vl [] listed=listed from rfl] at hB
      rw [hB.1];simp
     ·exact hne0 hd
    |alt k t1 t2 =>
     have hB0:Nf .any ops.toArray false (m'+1) (.alt k t1 t2) base (vl Dp listed)=true:=by
       simp only [Nf,Bool.and_eq_true,Bool.not_false,Bool.true_or,true_and] at hB ⊢
       exact ⟨hB.1.2,hB.2⟩
     simp only [Nf,Bool.and_eq_true,Bool.not_true,Bool.false_or,decide_eq_true_eq] at hB
     refine key ?_ fun i hi hrd hnk=>alts m' rfl (.alt k t1 t2) hB0 hi_ h i (by rw [hB.1.1] at hi;exact hi) hrd hnk
     by_cases hd:Dp=[]
     ·subst hd
      rw [show vl [] listed=listed from rfl] at hB
      rw [hB.1.1];simp
     ·exact hne0 hd
    |val k t1 =>
     simp only [Nf,Bool.and_eq_true] at hB
     obtain ⟨hB1,hB2⟩:=hB
     simp only [Ee,Bool.and_eq_true,decide_eq_true_eq] at hi_
     obtain ⟨⟨hkl,hv⟩,hi1⟩:=hi_
     have hk:=List.getElem?_eq_getElem hkl
     generalize ops[k]=o at hk
     have hk':ops.toArray[k]? =some o:=by simpa using hk
     rw [hk'] at hB1
     simp only [Bool.and_eq_true] at hB1
     obtain ⟨⟨hval,hrb⟩,hfb⟩:=hB1
     have hrb:k∈Region.ready .any ops.toArray base:=by simpa using hrb
     have hkD:∀q∈D,k≠q.1:=fun q hq e=>by
       obtain ⟨oi,hpr⟩:=hD q hq
       have h1:=hpr.at_
       rw [←e,hk'] at h1
       injection h1 with h1
       subst h1
       rw [hpr.noval] at hval
       cases hval
     have hkD':k∉D.map (·.1):=fun hk=>by
       obtain ⟨q,hq,e⟩:=List.mem_map.1 hk
       exact hkD q hq e.symm
     have hnk:k∉Dp.map (·.1):=fun hk=>by
       obtain ⟨q,hq,e⟩:=List.mem_map.1 hk
       exact hkD q (hp.sub q hq) e.symm
     obtain ⟨hbun,ob,hob,hball⟩:=mem_ready.1 hrb
     have hoo:ob=o:=by rw [hk'] at hob;injection hob with hob;exact hob.symm
     subst hoo
     have hrd:k∈Region.ready .any ops.toArray listed:=mem_ready.2 ⟨by rw [hp.off k hkD'];exact hbun,ob,hk',fun e he hb=>hp.below _ (hball e he hb)⟩
     obtain ⟨_,x,h1,h2⟩:=bC HB (g:=fun p=>Bc ops p) (L:=Xb t1) (Jg t1) fun p hp'=>by
       have:=h ((k,true)::p) (by simp only [Xb];exact List.mem_map_of_mem hp')
       rwa [Pl hk] at this
     have hstep:=Qq (r:=x) (Q:=Q) (T:=fun a' w'=>∃β',Sb C E0 x.2.1 a' w0 β0∧Ab C x.2.2 a' w' β'∧Yc ks E0 x.2.1 w0 β0 x.2.2 w' β'∧x.2.1.h=h0) HB HT H hN (fun kn' s u a' w' β' hx hh' S0' S' R'=>by
       injection hx with hx
       subst hx
       exact ⟨β',S0',S',R',hh'⟩) h1 hh S0 S R
     have hap:=apart hp hk' hnk fun e he hb=>hp.below _ (hball e he hb)
     obtain ⟨v,hy,hK⟩:∃v,YieldsIf P ops.toArray (fun w'=>Ec w0 w' E0 h0 β0) ob v (Kd Dp a)∧∃β',Sb C E0 x.2.1 ((Kd Dp a).put ob.dst v) w0 β0∧Ab C x.2.2 ((Kd Dp a).put ob.dst v) w β'∧Yc ks E0 x.2.1 w0 β0 x.2.2 w β'∧x.2.1.h=h0:=by
       unfold Od at hstep
       split at hstep
       ·rename_i hw
        simp only [hval,Bool.and_self] at hstep
        exact XK hval hw hstep
       ·rename_i hw
        exact ⟨undef,.inr ⟨by simpa using hw,rfl⟩,hstep⟩
     obtain ⟨β',S0',S',R',hh'⟩:=hK
     have hpp:(Kd Dp a).put ob.dst v=Kd Dp (a.put ob.dst v):=oZ fun q hq=>by
       obtain ⟨oi,hpr,hap1⟩:=hap q hq
       exact (Oper.apart_spec hap1).2.1 q.2 hpr.dst
     rw [hpp] at S0' S'
     obtain ⟨e1,e2⟩:=aT (Q:=fun _ _=>True) (j:=k) (Region.noSelect_spec hsel k ob · · hk') Dp (a:=a) hap
     have hy':YieldsIf P ops.toArray (fun w'=>Ec w0 w' E0 h0 β0) ob v a:=hy.of_same e1.symm e2.symm
     rw [show m'+1+Dp.length=(m'+Dp.length)+1 by omega] at hf
     injection hf with hf
     refine NS hk' (Region.noSelect_spec hsel) (fun _ _ _ h=>h) (.inl (by simp)) hkl (fun l a w hl j hj=>by rw [hl.1] at hj;cases hj) f listed a w hp.inv (fun j oj hj hjk hun hno=>Region.free_spec hk' hfb j oj hj hjk ?_ hno) hrd hy' hS (ih m' t1 Dp _ _ x.1 x.2.1 x.2.2 _ w β' hf (pend k hrd hkD hnk) (by rw [DV];exact hB2) hi1 h2 hh' S0' S' R')
     by_cases hjD:j∈D.map (·.1)
     ·obtain ⟨q,hq,rfl⟩:=List.mem_map.1 hjD
      exact hp.offD q hq
     ·rw [←hp.off j hjD];exact hun
theorem pC (D:List (Nat×Nat)) (st:St):(Fp D st).h=st.h:=by
  induction D with
  |nil=>rfl
  |cons q r ih=>rw [Fp,Kf,ih]
theorem pD (HB:Xc G) (HT:Wb P G.tab) (H:Pa P G.Γ) (hm:P.follows .mixedOrders=true) {id:Nat} {ops:Array Oper} {D:List (Nat×Nat)} {ks:List Nat} {t:Tr} {F:Yd} {eid:Nat} {FX FR:Yd} {sh:HL F.hs→Option (HL FX.hs⊕HL FR.hs)} (hB:aU G.tab ops G.N D t=true) (hi:Ee ops.toList t=true)
    (hs:Jy (Xb t) fun p=>∀s,aW G ops.toList D ks F FX FR p s=sh s):Ae P G.M G.N id ops ⟨F,eid,FX,FR,sh⟩:=fun s x hx Q hQ C a w β hN hM S=>by
  have hx:sh s=some (.inl x):=hx
  have hs:=UC hs
  have h:∀p∈Xb t,Zf (F.st s).h ks=true∧Gi G ops.toList ks D [] (Bc ops.toList p) ⟨(F.st s).t,Ic ks (F.st s).h⟩ (Fp D (F.st s)) (fun _ st2=>(match FX.get G.M st2 with|some x=>some (Sum.inl x:HL FX.hs⊕HL FR.hs)|none=>G.bad _ 52 none st2))=some (.inl x):=fun p hp=>by
    have h1:=hs p hp s
    rw [hx] at h1
    unfold aW at h1
    cases hb:Zf (F.st s).h ks with
    |false=>rw [hb] at h1;simp only [cond_false] at h1;rw [HB] at h1;cases h1
    |true=>rw [hb] at h1;exact ⟨rfl,h1⟩
  obtain ⟨p0,hp0⟩:=List.exists_mem_of_ne_nil _ (Jg t)
  have hb:=(h p0 hp0).1
  have hcD:=aY (HV HB (h p0 hp0).2)
  have S:Ab C (F.st s) a w β:=S
  have Sd:=S.drew
  have e:ops=ops.toList.toArray:=by simp
  show (Code.region id ops true).wp P (Mf C Q) a w
  rw [e] at hB ⊢
  generalize ops.toList=l at *
  simp only [aU,Bool.and_eq_true] at hB
  obtain ⟨⟨⟨⟨⟨⟨hsel,hpre⟩,hfree⟩,hnk⟩,hns⟩,hle⟩,htr⟩:=hB
  have hle:=Nat.le_of_ble_eq_true hle
  have hpre:∀q∈D,∃oi,Ly P l.toArray G.N q oi:=fun q hq=>oX HT (List.all_eq_true.1 hpre q hq)
  have hfree:∀q∈D,Region.free .any l.toArray (Array.replicate l.toArray.size false) q.1=true:=fun q hq=>List.all_eq_true.1 hfree q hq
  let Q1:AQ:=fun e st2=>e=.normal∧FX.get G.M st2=some x
  refine wp_mono (Q:=Mf C Q1) ?_ ?_
  rotate_left
  ·rintro e a2 w2 ⟨st2,β2,⟨rfl,hq⟩,S2⟩
   obtain ⟨β3,S3⟩:=FX.imp hq C a2 w2 β2 hM S2
   exact ⟨_,β3,hQ,S3⟩
  have hput:∀(E:List (Nat×Nat)),(∀q∈E,q∈D)→Ab C (Fp E (F.st s)) (Kd E a) w.drew β∧Sb C (Ka (F.st s).h β) ⟨(F.st s).t,Ic ks (F.st s).h⟩ (Kd E a) w.drew β:=by
    intro E
    induction E with
    |nil=>exact fun _=>⟨Sd,Sd.kill ks⟩
    |cons q r ih =>
     intro hE
     obtain ⟨h1,h2⟩:=ih fun q' hq'=>hE q' (List.mem_cons_of_mem _ hq')
     have hq:=hE q (List.mem_cons_self ..)
     obtain ⟨oi,hpr⟩:=hpre q hq
     refine ⟨h1.putL (fun i hi=>by injection hi with hi;rw [←hi,hN];exact hpr.lt) (v:=.im .nil) (Ri.nil none),h2.other YC fun i hi=>?_⟩
     injection hi with hi
     rw [←hi]
     exact (hcD q hq).1
  obtain ⟨S1,S0⟩:=hput D fun q hq=>hq
  have R:Yc ks (Ka (F.st s).h β) ⟨(F.st s).t,Ic ks (F.st s).h⟩ w.drew β (Fp D (F.st s)) w.drew β:=(aI S hb).same rfl (pC D _)
  have hgf:∀j,j<l.length→(Array.replicate l.toArray.size false).getD j true=false:=fun j hj=>getD_in (by simpa using hj) (getD_replicate_false _ _)
  have hpl:∀q∈D,q.1<l.length:=fun q hq=>by
    obtain ⟨oi,hpr⟩:=hpre q hq
    have:=(Array.getElem?_eq_some_iff.1 hpr.at_).1
    simpa using this
  have hlen0:l.length=(l.length-D.length)+D.length:=by
    have:D.length≤l.length:=by simpa using hle
    omega
  have htail0:∀t,l.length≤t→t<l.toArray.size→(Array.replicate l.toArray.size false).getD t true=false:=fun t h1 h2=>by
    have:t<l.length:=by simpa using h2
    omega
  have hW:=pB (Q:=Mf C Q1) (T:=fun a w=>Mf C Q1 .normal a w) (K:=fun _ st2=>(match FX.get G.M st2 with|some x=>some (Sum.inl x:HL FX.hs⊕HL FR.hs)|none=>G.bad _ 52 none st2)) (r:=Sum.inl x) HB HT H hN hsel hpre hfree (fun kn st a w β hK S=>by
      split at hK
      ·rename_i y hy
       injection hK with hK
       injection hK with hK
       subst hK
       exact ⟨st,β,⟨rfl,hy⟩,S⟩
      ·rw [HB] at hK;cases hK) l.length (l.length-D.length) t D (Array.replicate l.toArray.size false) (Array.replicate l.toArray.size false) [] ⟨(F.st s).t,Ic ks (F.st s).h⟩ (Fp D (F.st s)) a w.drew β hlen0
    ⟨fun q hq=>hq,FV hnk,FV hns,fun q hq=>hgf _ (hpl q hq),⟨by simp,fun j oj _ hl=>(by rw [getD_replicate_false] at hl;cases hl),htail0⟩,fun i hi=>hi,fun i _=>rfl,fun q hq hn=>absurd hq hn,fun q hq=>hgf _ (hpl q hq)⟩
    (by simpa using htr) hi (fun p hp=>(h p hp).2) rfl S0 S1 R
  refine wp_region_any hm ?_
  have:=RB (Q':=Mf C Q1) (g:=0) Lc.le (fun listed a' w' hL=>⟨hL.1,hL.2⟩) _ _ _ _ hW
  simpa using this
end
end
end Go.Proofs.YtjffopopheiinaaGreatDoor
