/- Part 2 of the proof: Kb. -/
import Derived.Test.YtknkhdjhongklaaGreatQy1
set_option linter.unusedSimpArgs false
set_option linter.unusedVariables false
set_option maxRecDepth 100000
section
namespace Go.Proofs.YtknkhdjhongklaaGreat
open Go.RowKit
theorem KH {t:TypeId} {τ:Ty} (xs:List (El τ)) (h:τ.u=false):(Ca.row t τ xs).nu=true:=by simp [Ca.nu,h]
theorem RP {t:TypeId} {τ:Ty}:(Ca.row t τ ([]:List (El τ))).nu=true:=by simp [Ca.nu]
theorem jW {t:TypeId} (τ:Ty) (n:Nat):(Ca.row t τ (List.replicate n (Oh τ))).nu=true:=by
  have:(List.replicate n (Oh τ)).all (UG τ)=true:=List.all_eq_true.2 fun x hx=>by rw [List.eq_of_mem_replicate hx];cases τ<;>rfl
  simp [Ca.nu,this]
def K4:Ty→Ty→Bool
  | .en,.en=>true
  | .uls,.uls=>true
  |_,_=>false
theorem jX {σ τ:Ty} (h:K4 σ τ=true):σ=τ:=by cases σ<;>cases τ<;>first|rfl|cases h
def LH (h:List Ca) (τ:Ty):PV→Bool
  | .own k=>match h[k]? with|some (.row t σ _)=>K4 σ (Fi τ)&&Nat.beq t (Wf (Fi τ))|_=>false
  | .im .nil=>true
  |_=>false
def Am (h:List Ca) (τ:Ty) (p:Nat) (cs:List PV):Bool:=!τ.u||(Nat.ble (p+cs.length) (Yb τ)||(Nat.blt (Yb τ) p||(match cs[Yb τ-p]? with|some v=>LH h τ v|none=>false)))
section
variable {C:Pc} {a:Act} {w w':World} {β:List (Nat×Nat)} {st0 st:St}
theorem L4 {E' X:Nat→Prop} {h:List Ca} {τ:Ty} {v:PV} {u:Value} {n:Nat} (hh:Pb w (Da h β) X h β) (hv:LH h τ v=true) (hc:C1 w E' X h β v u) (hs:Jc u n):∃k2,v=.own k2∧(∃t σ ys c,h[k2]? =some (.row t σ ys)∧β[k2]? =some (n,c)∧0<c)∧Gg w (Fi τ) u∧(τ=.udb→∀o len c j u2,u=.slice (some ⟨n,o,none⟩) len c→j<len*3→j % 3=2→w.cell? ⟨n,o+j,none⟩=some u2→Va w h β k2 (j,0) .en u2):=by
  cases v with
  |own k =>
   unfold LH at hv
   dsimp only at hv
   split at hv
   case h_2=>cases hv
   rename_i t σ ys hk
   simp only [Bool.and_eq_true] at hv
   have e1:=jX hv.1
   have e2:=Nat.eq_of_beq_eq_true hv.2
   subst e1 e2
   obtain ⟨_,_,_,h2⟩:=hc
   obtain ⟨b,c,A,h3,rfl,h5,_⟩:=h2 _ _ _ hk
   obtain ⟨o,len,c1,e,hl⟩:=hs
   injection e with eA el ec
   subst el ec
   obtain ⟨b',c',h7,h8,h9,h10⟩:=hh.ok k _ hk
   rw [h3] at h7
   injection h7 with h7;injection h7 with e1 e2
   subst e1 e2
   have hcp:0<c:=by
     rcases Nat.eq_zero_or_pos c with e|e
     ·rw [h8 e] at hl;simp at hl
     ·exact e
   have:=h5 hcp
   rw [this] at eA
   injection eA with eA
   injection eA with e3 e4
   subst e3 e4
   subst this
   obtain ⟨us,junk,q1,q2,q3,q4⟩:=h10 hcp
   have hle:ys.length≤c:=by
     have:ys.length*sz (Fi τ)≤c*sz (Fi τ):=by rw [←q4,←Kb,←q2.1];simp
     exact Nat.le_of_mul_le_mul_right this (Pf _)
   refine ⟨k,rfl,⟨_,_,_,c,hk,h3,hcp⟩,⟨b,_,c,_,rfl,q1,by simpa using q4,hle⟩,fun hτ o len c' j u2 e hj hj3 hcell=>?_⟩
   subst hτ
   injection e with e1 e2 e3
   injection e1 with e1
   injection e1 with _ e1
   subst e1 e2 e3
   have hlen:us.length=ys.length*3:=by rw [q2.1,Kb];rfl
   refine ⟨_,_,ys,b,c,us,junk,hk,h3,hcp,q1,hlen,.inl ⟨rfl,rfl,?_,rfl,hj3⟩⟩
   have hju:j<us.length:=by omega
   have:=Qg q1 (List.getElem?_eq_getElem hju)
   rw [Nat.zero_add] at hcell
   rw [hcell] at this
   rw [List.getElem?_eq_getElem hju,←Option.some.inj this]
  |im x =>
   cases x with
   |nil =>
    obtain ⟨o,len,c1,rfl,hl⟩:=hs
    cases hc
    omega
   |s v=>cases hv
   |sl g σ ys=>cases hv
  |_=>cases hv
theorem jY {st:St} {k k2:Nat} (hd:st.h[k2]? =some .dead):(frz k st).h[k2]? =some .dead:=by
  unfold frz
  split
  ·rw [Pn];split<;>simp [hd,On]
  ·exact hd
theorem Yk:∀(l:List PV) {st:St} (cs:List PV) {k2:Nat},st.h[k2]? =some .dead→(Qc l st cs).1.h[k2]? =some .dead
  |[],_,_,_,h=>h
  | .own k::r,st,cs,k2,h=>by
    unfold Qc
    split
    ·exact Yk r _ (jY h)
    ·exact Yk r _ h
  | .im x::r,st,cs,_,h=>Yk r cs h
  | .ptr k o::r,st,cs,_,h=>Yk r cs h
  | .ept k i z o::r,st,cs,_,h=>Yk r cs h
  | .at_ xs o::r,st,cs,_,h=>Yk r cs h
  | .fn f caps::r,st,cs,_,h=>Yk r cs h
  | .agg cs'::r,st,cs,_,h=>Yk r cs h
  | .tup cs'::r,st,cs,_,h=>Yk r cs h
theorem Yj:∀(l:List PV) {st:St} (cs:List PV) {k2:Nat},.own k2∈l→(∃t τ xs,st.h[k2]? =some (.row t τ xs))→(Qc l st cs).1.h[k2]? =some .dead
  |[],_,_,_,hm,_=>by simp at hm
  | .own k::r,st,cs,k2,hm,⟨t,τ,xs,hk⟩=>by
    unfold Qc
    by_cases e:k=k2
    ·subst e
     rw [hk]
     dsimp only
     refine Yk r _ ?_
     unfold frz
     rw [hk]
     dsimp only
     rw [Pn,if_pos rfl,hk]
     rfl
    ·have hm:PV.own k2∈r:=by
       rcases List.mem_cons.1 hm with h|h
       ·injection h with h;exact absurd h.symm e
       ·exact h
     split
     ·refine Yj r _ hm ⟨t,τ,xs,?_⟩
      rename_i h'
      unfold frz
      rw [h']
      dsimp only
      rw [Pn,if_neg (Ne.symm e),hk]
      rfl
     ·exact Yj r _ hm ⟨t,τ,xs,hk⟩
  | .im x::r,st,cs,_,hm,h=>Yj r cs (by simpa using hm) h
  | .ptr k o::r,st,cs,_,hm,h=>Yj r cs (by simpa using hm) h
  | .ept k i z o::r,st,cs,_,hm,h=>Yj r cs (by simpa using hm) h
  | .at_ xs o::r,st,cs,_,hm,h=>Yj r cs (by simpa using hm) h
  | .fn f caps::r,st,cs,_,hm,h=>Yj r cs (by simpa using hm) h
  | .agg cs'::r,st,cs,_,hm,h=>Yj r cs (by simpa using hm) h
  | .tup cs'::r,st,cs,_,hm,h=>Yj r cs (by simpa using hm) h
end
def Aj (P:Program) (bl:Bool) (o:Oper) (st st':St):Prop:=∀C a w β,Oa C st a w β→(∀i,o.dst=some i→i<C.N)→∀K Q,(∀u w' β',Oa C st' (a.put o.dst u) w' β'→Gb w st.h β w' st'.h β'→(bl=true→Below w.heap.size w w')→K (a.put o.dst u) w')→o.wp P a w K Q
section
variable {P:Program} {st:St} {o:Oper} {tab:TypeId→Option TI} {C:Pc} {a:Act} {w w':World} {β β':List (Nat×Nat)}
theorem Jb.putL (S:Oa C st a w β) {d:Option Nat} {v:PV} {u:Value} (hd:∀i,d=some i→i<C.N) (h:Cv w (Da st.h β) C.X st.h β v u):Oa C (st.put d v) (a.put d u) w β:=by
  have:=S.put hd h
  unfold Oa
  rw [Cf]
  exact this
theorem SP {v:PV} (hv:Jx P st o v):Aj P true o st (st.put o.dst v):=fun C a w β S hd K Q' hK=>by
  obtain ⟨u,h1,h2⟩:=hv C _ a w β S
  have hr:=h2 w (Gc.refl _ _ _ _)
  unfold Oper.wp
  rw [hr]
  exact hK u w β (S.putL hd h1) (by rw [Cf];exact Gb.refl _ _ _) fun _=>Below.refl _ _
theorem Bm {h:List Ca} {E X:Nat→Prop} (hh:Pb w E X h β) (p:Nat×Nat):(β++[p])[h.length]? =some p:=by rw [List.getElem?_append_right (by rw [hh.len];exact Nat.le_refl _),hh.len,Nat.sub_self];rfl
theorem M4 (S:Oa C st a w β) {t:TypeId} {cs:List PV} {us:List Value} (hF:F2 (C1 w (Da st.h β) C.X st.h β) cs us) (h1:∀u∈us,u.oneCell'=true) :
    Oa C ⟨st.t,st.h++[.box t cs]⟩ a (w.alloc (.cells us.toArray t)) (β++[(w.heap.size,0)])∧Gb w st.h β (w.alloc (.cells us.toArray t)) (st.h++[.box t cs]) (β++[(w.heap.size,0)])∧Below w.heap.size w (w.alloc (.cells us.toArray t)):=by
  have hb:Below w.heap.size w (w.alloc (.cells us.toArray t)):=(Below.refl _ _).alloc (Nat.le_refl _) _
  obtain ⟨h2,h3⟩:=S.new (o:=.box t cs) (B:=w.heap.size) (c:=0) hb (fun _=>Nat.le_refl _) (fun E' hE h' β' hle hβ hl=>⟨_,_,us,hl,heap_alloc_new w _,hF.mono fun v u h=>h.keep (fun b hb' _=>hb.block b hb') hb.size hE (fun _ _ _ h=>h) hle hβ,h1⟩) rfl
  exact ⟨h2,h3,hb⟩
theorem N4 (S:Oa C st a w β) {t:TypeId} {τ:Ty} {xs:List (El τ)} {us:List Value} {n:Nat} (hn:xs.length=n) (hF:F2 (Ri w (Da st.h β) C.X) (Ua τ xs) us) (h1:∀u∈us,u.oneCell'=true) (hm:n≤maxLen) (hN:(Ca.row t τ xs).nu=true) :
    Oa C ⟨st.t,st.h++[.row t τ xs]⟩ a (w.alloc (.cells us.toArray t)) (β++[(w.heap.size,n)])∧Gb w st.h β (w.alloc (.cells us.toArray t)) (st.h++[.row t τ xs]) (β++[(w.heap.size,n)])∧Below w.heap.size w (w.alloc (.cells us.toArray t)):=by
  have hb:Below w.heap.size w (w.alloc (.cells us.toArray t)):=(Below.refl _ _).alloc (Nat.le_refl _) _
  obtain ⟨h2,h3⟩:=S.new (o:=.row t τ xs) (B:=w.heap.size) (c:=n) hb (fun _=>Nat.le_refl _) (fun E' hE h' β' hle hβ hl=>⟨_,_,hl,fun h0=>List.length_eq_zero_iff.1 (hn.trans h0),hm,fun _=>⟨us,[],by rw [List.append_nil];exact heap_alloc_new w _,hF.mono fun v u h=>h.keep (fun b hb' _=>hb.block b hb') hb.size hE (fun _ _ _ h=>h),h1,by rw [List.append_nil,hF.1,Kb,hn]⟩⟩) hN
  exact ⟨h2,h3,hb⟩
theorem jZ {t:TypeId} {x:Operand} {v:PV} (ho:o.op=.box t x) (hx:Za st.t x=some v) (hv:(Ib v).all Te=true):Aj P true o st (St.put ⟨st.t,st.h++[.box t (Ib v)]⟩ o.dst (.ptr st.h.length 0)):=fun C a w β S hd K Q' hK=>by
  obtain ⟨us,h1,h2,h3⟩:=Mx (S.op hx) hv
  obtain ⟨S1,hs,hb⟩:=M4 S (t:=t) h2 h3
  have hr:(execOp a.eval o).run P w=.ok (.value (.pointer (some ⟨w.heap.size,0,none⟩))) (w.alloc (.cells us.toArray t)):=by simp [execOp,ho,Instr.box,newVar,newRow,h1]
  unfold Oper.wp
  rw [hr]
  exact hK _ _ _ (S1.putL hd (v:=.ptr st.h.length 0) ⟨_,_,Bm S.heap _,rfl⟩) (by rw [Cf];exact hs) fun _=>hb
theorem kA (H:Qb P tab) {t:TypeId} {i:TI} {zs:List Value} (ho:o.op=.alloc t) (hi:tab t=some i) (hz:i.zero=some zs):Aj P true o st (St.put ⟨st.t,st.h++[.box t (zs.map Vl)]⟩ o.dst (.ptr st.h.length 0)):=fun C a w β S hd K Q' hK=>by
  obtain ⟨z,hz1,hzs,h1⟩:=(H t i hi).zero zs hz
  obtain ⟨S1,hs,hb⟩:=M4 S (t:=t) (cs:=zs.map Vl) (us:=zs) W3 h1
  have hr:(execOp a.eval o).run P w=.ok (.value (.pointer (some ⟨w.heap.size,0,none⟩))) (w.alloc (.cells zs.toArray t)):=by
    have e:z.cells=zs.toArray:=by rw [←hzs]
    simp [execOp,ho,Instr.alloc,newVar,newRow,hz1,e]
  unfold Oper.wp
  rw [hr]
  exact hK _ _ _ (S1.putL hd (v:=.ptr st.h.length 0) ⟨_,_,Bm S.heap _,rfl⟩) (by rw [Cf];exact hs) fun _=>hb
theorem O4 (H:Qb P tab) {t t':TypeId} {i:TI} {k p:Nat} {x y:Operand} {v:PV} {cs:List PV} (ho:o.op=.store t x y) (hi:tab t=some i) (hx:Za st.t x=some (.ptr k p)) (hy:Za st.t y=some v) (hv:(Ib v).all Te=true) (hl:(Ib v).length=i.size)
    (hk:st.h[k]? =some (.box t' cs)) (hin:p+i.size≤cs.length) (hdst:o.dst=none):∀C a w β,Oa C st a w β→∀(K:Act→World→Prop) (Q':Exit→Act→World→Prop),(∀u w' β',Oa C ⟨st.t,st.h.set k (.box t' (wr cs p (Ib v)))⟩ (a.put o.dst u) w' β'→Gb w st.h β w' (st.h.set k (.box t' (wr cs p (Ib v)))) β'→(∀b,b<w.heap.size→(∀c,β[k]?≠some (b,c))→w'.heap[b]? =w.heap[b]?)→K (a.put o.dst u) w')→o.wp P a w K Q':=fun C a w β S K Q' hK=>by
  have T:=H t i hi
  obtain ⟨vs,h1,h2,h3⟩:=Mx (S.op hy) hv
  obtain ⟨b,c,hb,ex⟩:=S.op hx
  obtain ⟨b',c',us,hb',hh,hr,h4⟩:=S.heap.ok k _ hk
  rw [hb] at hb'
  injection hb' with e
  injection e with e1 e2
  subst e1 e2
  have hvl:vs.length=i.size:=by rw [h2.1,hl]
  have hul:=hr.1
  have hst:=run_storeCells_at (P:=P) b p t' vs 0 us.toArray w hh (by simp;omega) h3
  simp only [Nat.add_zero] at hst
  have hrun:(execOp a.eval o).run P w=.ok .skip (w.setRow b (us.take p++vs++us.drop (p+vs.length)).toArray):=by
    simp [execOp,ho,ex,Instr.storeAt,Instr.sureAddr,storeVar,h1,T.sz,hvl,hst]
  have hbl:b<w.heap.size:=(Array.getElem?_eq_some_iff.1 hh).1
  obtain ⟨S1,hs⟩:=S.turn (w':=w.setRow b (us.take p++vs++us.drop (p+vs.length)).toArray) (o':=.box t' (wr cs p (Ib v))) hk hb trivial (fun _ _=>trivial) (fun _ _ _ e=>by cases e) (fun _ _ e=>by cases e) rfl rfl rfl (by simp [World.setRow]) (fun i _ hne=>setRow_other w b i _ hne)
    (fun E' hE h' hle=>⟨b,c,_,hb,setRow_heap w b _ _ _ _ hh,(hr.wr h2 p).mono fun v u h=>h.keep (fun i hi hn=>setRow_other w b i _ (by rintro rfl;exact hn ⟨k,_,c,hk,trivial,hb⟩)) (by simp [World.setRow]) hE (fun _ _ _ h=>h) hle (fun _ _ h=>h),fun u hu=>by
      simp only [List.mem_append] at hu
      rcases hu with (hu|hu)|hu
      ·exact h4 u (List.mem_of_mem_take hu)
      ·exact h3 u hu
      ·exact h4 u (List.mem_of_mem_drop hu)⟩) rfl
  unfold Oper.wp
  rw [hrun]
  have hput:∀u,a.put o.dst u=a:=fun u=>by rw [hdst];rfl
  have:=hK undef _ _ (by rw [hput];exact S1) hs (fun i hi hne=>setRow_other w b i _ (by rintro rfl;exact hne c hb))
  exact this
theorem kB (H:Qb P tab) {t t':TypeId} {i:TI} {k p:Nat} {x y:Operand} {v:PV} {cs:List PV} (ho:o.op=.store t x y) (hi:tab t=some i) (hx:Za st.t x=some (.ptr k p)) (hy:Za st.t y=some v) (hv:(Ib v).all Te=true) (hl:(Ib v).length=i.size)
    (hk:st.h[k]? =some (.box t' cs)) (hin:p+i.size≤cs.length) (hdst:o.dst=none):Aj P false o st ⟨st.t,st.h.set k (.box t' (wr cs p (Ib v)))⟩:=fun C a w β S hd K Q' hK =>
  O4 H ho hi hx hy hv hl hk hin hdst C a w β S K Q' fun u w' β' h1 h2 _=>hK u w' β' h1 h2 fun h=>by cases h
theorem kC {α:Type} (us vs:List α) (q s p:Nat) (hp:p+vs.length≤s):us.take q++(((us.drop q).take s).take p++vs++((us.drop q).take s).drop (p+vs.length))++us.drop (q+s)=us.take (q+p)++vs++us.drop (q+p+vs.length):=by
  have h1:((us.drop q).take s).take p=(us.drop q).take p:=by rw [List.take_take,Nat.min_eq_left (by omega)]
  have h2:us.take (q+p)=us.take q++(us.drop q).take p:=List.take_add ..
  have h3:((us.drop q).take s).drop (p+vs.length)++us.drop (q+s)=us.drop (q+p+vs.length):=by
    rw [List.drop_take,List.drop_drop,←Nat.add_assoc]
    have:us.drop (q+s)=(us.drop (q+p+vs.length)).drop (s-(p+vs.length)):=by rw [List.drop_drop];congr 1;omega
    rw [this,List.take_append_drop]
  rw [h1,h2,←h3]
  simp only [List.append_assoc]
theorem kD (τ:Ty) (xs:List (El τ)) (i:Nat) (y:El τ) (hi:i<xs.length):Ua τ (xs.set i y)=wr (Ua τ xs) (i*sz τ) (cells τ y):=by
  have hz:=Pf τ
  refine List.ext_getElem? fun j=>?_
  have key:∀(zs:List (El τ)) (q r:Nat),r<sz τ→(Ua τ zs)[q*sz τ+r]? =(zs[q]?).bind fun z=>(cells τ z)[r]? :=fun zs q r hr=>by
    cases hq:zs[q]? with
    |none =>
     have:zs.length≤q:=List.getElem?_eq_none_iff.1 hq
     rw [List.getElem?_eq_none]
     ·rfl
     ·rw [Kb]
      have:=Nat.mul_le_mul_right (sz τ) this
      omega
    |some z =>
     have h1:=Ro τ zs q z hq
     have h2:(((Ua τ zs).drop (q*sz τ)).take (sz τ))[r]? =(cells τ z)[r]? :=by rw [h1]
     rw [List.getElem?_take,if_pos hr,List.getElem?_drop] at h2
     exact h2
  have hj:j=j / sz τ*sz τ+j % sz τ:=by rw [Nat.mul_comm];exact (Nat.div_add_mod j (sz τ)).symm
  have hm:=Nat.mod_lt j hz
  have hlen:(Ua τ xs).length=xs.length*sz τ:=Kb τ xs
  have hile:i*sz τ+sz τ≤xs.length*sz τ:=by rw [←Nat.succ_mul];exact Nat.mul_le_mul_right _ hi
  rw [hj,key _ _ _ hm,List.getElem?_set]
  generalize j / sz τ=q at *
  generalize j % sz τ=r at *
  unfold wr
  rw [Yi]
  have ht:((Ua τ xs).take (i*sz τ)).length=i*sz τ:=by rw [List.length_take];omega
  by_cases e:i=q
  ·subst e
   rw [if_pos rfl,if_pos hi,Option.bind_some]
   rw [List.getElem?_append_left (by rw [List.length_append,ht,Yi];omega),List.getElem?_append_right (by rw [ht];omega),ht]
   congr 1;omega
  ·rw [if_neg e]
   rw [←key xs q r hm]
   rcases Nat.lt_or_ge q i with hlt|hge
   ·have:q*sz τ+sz τ≤i*sz τ:=by rw [←Nat.succ_mul];exact Nat.mul_le_mul_right _ hlt
    rw [List.getElem?_append_left (by rw [List.length_append,ht];omega),List.getElem?_append_left (by rw [ht];omega),List.getElem?_take,if_pos (by omega)]
   ·have:i*sz τ+sz τ≤q*sz τ:=by rw [←Nat.succ_mul];exact Nat.mul_le_mul_right _ (by omega)
    rw [List.getElem?_append_right (by rw [List.length_append,ht,Yi];omega),List.length_append,ht,Yi,List.getElem?_drop]
    congr 1;omega
def Ig (τ:Ty) (p:Nat) (cs:List PV):Option Nat:=if p≤Yb τ then (match cs[Yb τ-p]? with|some (.own k2)=>some k2|_=>none) else none
def Ii (o:Option Nat) (k pos:Nat) (q:Nat×Nat):Option (Nat×(Nat×Nat)):=match o with
  |some k2=>if q.1=pos then (if q.2=0 then none else some (k2,(q.2-1,0))) else some (k,q)
  |none=>some (k,q)
theorem P4 {h:List Ca} {τ:Ty} {p:Nat} {cs:List PV} {v:PV} (hu:τ.u=true) (hA:Am h τ p cs=true) (hp:p≤Yb τ) (hv:cs[Yb τ-p]? =some v):LH h τ v=true:=by
  have hlt:=(List.getElem?_eq_some_iff.1 hv).1
  simp only [Am,hu,Bool.not_true,Bool.false_or,Bool.or_eq_true,hv] at hA
  rcases hA with h|h|h
  ·have:=Nat.le_of_ble_eq_true h;omega
  ·have:Yb τ+1≤p:=Nat.le_of_ble_eq_true h
   omega
  ·exact h
theorem kE {h0 h1:List Ca} {X E0:Nat→Prop} (H0:Pb w (Da h0 β) X h0 β) (H1:Pb w (Da h1 β) X h1 β) {t:TypeId} {τ:Ty} {xs:List (El τ)} {b c k j p:Nat} {us junk vs:List Value} {cs:List PV} (hk1:h1[k]? =some (.row t τ xs)) (hb:β[k]? =some (b,c)) (hc:0<c) (hh:w.heap[b]? =some (.cells (us++junk).toArray t (0,0))) (hul:us.length=xs.length*sz τ) (hj:j<xs.length)
    (hF:F2 (C1 w E0 X h0 β) cs vs) (hin:p+vs.length≤sz τ) (hu:τ.u=true) (hA:Am h0 τ p cs=true) (hk0:∃xs0:List (El τ),h0[k]? =some (.row t τ xs0)) (hdd:∀k2,.own k2∈cs→(∃t σ ys,h0[k2]? =some (.row t σ ys))→h1[k2]? =some .dead) (hw:w'.heap[b]? =some (.cells ((us.take (j*sz τ+p)++vs++us.drop (j*sz τ+p+vs.length))++junk).toArray t (0,0))) (hoth:∀i,i≠b→w'.heap[i]? =w.heap[i]?)
    {e:El τ} {q:Nat×Nat} {σ:Ty} {u:Value} {n:Nat} (ho:Va w' (h1.set k (.row t τ (xs.set j e))) β k q σ u) (hs:Jc u n):(Va w h1 β k q σ u∧((Ig τ p cs).isSome=true→q.1≠j*sz τ+Yb τ))∨(∃k2,Ig τ p cs=some k2∧.own k2∈cs∧q.1=j*sz τ+Yb τ∧(∃t σ ys,h0[k2]? =some (.row t σ ys))∧((q.2=0∧Da h0 β n∧n≠b∧Gg w σ u)∨(∃jj,q.2=jj+1∧Va w h0 β k2 (jj,0) σ u))):=by
  have hkl:k<h1.length:=(List.getElem?_eq_some_iff.1 hk1).1
  have hz:=Pf τ
  have hjz:j*sz τ+sz τ≤xs.length*sz τ:=by rw [←Nat.succ_mul];exact Nat.mul_le_mul_right _ hj
  obtain ⟨t2,τ2,ys2,b2,c2,us2,junk2,g1,g2,g3,g4,g5,g6⟩:=ho
  rw [List.getElem?_set,if_pos rfl,if_pos hkl] at g1
  injection g1 with g1
  injection g1 with e1 e2 e3
  subst e1 e2
  have e3:=eq_of_heq e3
  subst e3
  rw [hb] at g2
  injection g2 with g2;injection g2 with e1 e2
  subst e1 e2
  rw [hw] at g4
  injection g4 with g4;injection g4 with e1
  have e1:=congrArg Array.toList e1
  simp only [List.toList_toArray] at e1
  have hnl:(us.take (j*sz τ+p)++vs++us.drop (j*sz τ+p+vs.length)).length=us2.length:=by
    rw [g5,List.length_set]
    simp only [List.length_append,List.length_take,List.length_drop]
    omega
  have:=Qf e1 hnl
  subst this
  clear e1 hnl
  have cell:∀i x,i % sz τ=Yb τ→(us.take (j*sz τ+p)++vs++us.drop (j*sz τ+p+vs.length))[i]? =some x→(us[i]? =some x∧¬(j*sz τ+p≤i∧i<j*sz τ+p+vs.length))∨(i=j*sz τ+Yb τ∧p≤Yb τ∧vs[Yb τ-p]? =some x):=fun i x hm hx=>by
    rw [List.getElem?_append] at hx
    split at hx
    ·rename_i h1
     rw [List.getElem?_append] at hx
     split at hx
     ·rename_i h2
      rw [List.length_take] at h2
      rw [List.getElem?_take,if_pos (by omega)] at hx
      exact .inl ⟨hx,by omega⟩
     ·rename_i h2
      rw [List.length_take] at hx h2
      rw [List.length_append,List.length_take] at h1
      have hmin:min (j*sz τ+p) us.length=j*sz τ+p:=by omega
      rw [hmin] at hx h2 h1
      have hr:i=j*sz τ+(i-j*sz τ):=by omega
      have h5:i-j*sz τ<sz τ:=by omega
      have hmm:i % sz τ=i-j*sz τ:=by
        conv=>lhs;rw [hr,Nat.mul_comm,Nat.mul_add_mod]
        rw [Nat.mul_comm (sz τ) j]
        exact Nat.mod_eq_of_lt h5
      rw [hm] at hmm
      refine .inr ⟨by omega,by omega,?_⟩
      rw [show Yb τ-p=i-(j*sz τ+p) by omega]
      exact hx
    ·rename_i h1
     rw [List.length_append,List.length_take] at h1 hx
     have hmin:min (j*sz τ+p) us.length=j*sz τ+p:=by omega
     rw [hmin] at hx h1
     rw [List.getElem?_drop,show j*sz τ+p+vs.length+(i-(j*sz τ+p+vs.length))=i by omega] at hx
     exact .inl ⟨hx,by omega⟩
  have inside:∀x m,p≤Yb τ→vs[Yb τ-p]? =some x→Jc x m→∃k2,Ig τ p cs=some k2∧.own k2∈cs∧(∃t σ ys c,h0[k2]? =some (.row t σ ys)∧β[k2]? =some (m,c)∧0<c)∧Gg w (Fi τ) x∧(τ=.udb→∀o len c j u2,x=.slice (some ⟨m,o,none⟩) len c→j<len*3→j % 3=2→w.cell? ⟨m,o+j,none⟩=some u2→Va w h0 β k2 (j,0) .en u2):=fun x m hp hx hsx=>by
    have hl:Yb τ-p<cs.length:=by rw [←hF.1];exact (List.getElem?_eq_some_iff.1 hx).1
    have hv:=List.getElem?_eq_getElem hl
    obtain ⟨k2,q1,q2,q3,q4⟩:=L4 H0 (P4 hu hA hp hv) (hF.2 _ _ _ hv hx) hsx
    rw [q1] at hv
    exact ⟨k2,by unfold Ig;rw [if_pos hp,hv],List.mem_of_getElem? hv,q2,q3,q4⟩
  have notown:∀i,¬(j*sz τ+p≤i∧i<j*sz τ+p+vs.length)→(Ig τ p cs).isSome=true→i≠j*sz τ+Yb τ:=fun i hn ho e=>by
    unfold Ig at ho
    split at ho
    ·split at ho
     ·rename_i hv
      have:=(List.getElem?_eq_some_iff.1 hv).1
      rw [←hF.1] at this
      exact hn (by omega)
     ·cases ho
    ·cases ho
  have hbl:Da h1 β b:=⟨k,_,c,hk1,hc,hb⟩
  rcases g6 with ⟨_,g7,g8,g9,g10⟩|⟨rfl,rfl,b1,o1,len,c1,jj,g7,g8,g9,g11,g10⟩
  ·rcases cell _ _ g10 g8 with ⟨r1,r2⟩|⟨r1,r2,r3⟩
   ·exact .inl ⟨⟨t,τ,xs,b,c,us,junk,hk1,hb,hc,hh,hul,.inl ⟨hu,g7,r1,g9,g10⟩⟩,notown _ r2⟩
   ·obtain ⟨k2,q1,q2,⟨t3,σ3,ys3,c3,q3,q6,q7⟩,q5,_⟩:=inside u n r2 r3 hs
    have hne:n≠b:=by
      rintro rfl
      obtain ⟨xs0,hk0⟩:=hk0
      have:=H0.inj k2 k _ _ n c3 c q3 hk0 q7 hc q6 hb
      subst this
      rw [hdd k2 q2 ⟨_,_,_,q3⟩] at hk1
      cases hk1
    exact .inr ⟨k2,q1,q2,r1,⟨_,_,_,q3⟩,.inl ⟨g7,⟨k2,_,c3,q3,q7,q6⟩,hne,g9▸q5⟩⟩
  ·have hs1:Jc (.slice (some ⟨b1,o1,none⟩) len c1) b1:=⟨o1,len,c1,rfl,by omega⟩
   rcases cell _ _ (by simp [sz,Yb,Nat.mod_one]) g7 with ⟨r1,r2⟩|⟨r1,r2,r3⟩
   ·have hn:=De (p:=(q.1,0)) (σ:=.uls) H1.ok ⟨t,.udb,xs,b,c,us,junk,hk1,hb,hc,hh,hul,.inl ⟨rfl,rfl,r1,rfl,by simp [sz,Yb,Nat.mod_one]⟩⟩ hs1
    have hne:b1≠b:=by rintro rfl;exact hn.2 hbl
    exact .inl ⟨⟨t,.udb,xs,b,c,us,junk,hk1,hb,hc,hh,hul,.inr ⟨rfl,rfl,b1,o1,len,c1,jj,r1,g8,g9,g11,(World.cell?_of_block (a:=⟨b1,o1+jj,none⟩) (hoth b1 hne)).symm.trans g10⟩⟩,notown _ r2⟩
   ·obtain ⟨k2,q1,q2,⟨t3,σ3,ys3,c3,q3,q4,q7⟩,q5,q6⟩:=inside _ b1 r2 r3 hs1
    have hne:b1≠b:=by
      rintro rfl
      obtain ⟨xs0,hk0⟩:=hk0
      have:=H0.inj k2 k _ _ b1 c3 c q3 hk0 q7 hc q4 hb
      subst this
      rw [hdd k2 q2 ⟨_,_,_,q3⟩] at hk1
      cases hk1
    exact .inr ⟨k2,q1,q2,r1,⟨_,_,_,q3⟩,.inr ⟨jj,g8,q6 rfl o1 len c1 jj u rfl g9 g11 ((World.cell?_of_block (a:=⟨b1,o1+jj,none⟩) (hoth b1 hne)).symm.trans g10)⟩⟩
theorem kF (H:Qb P tab) {t t':TypeId} {i:TI} {k j z p:Nat} {x y:Operand} {v:PV} {τ:Ty} {xs:List (El τ)} {e:El τ} (ho:o.op=.store t x y) (hi:tab t=some i) (hx:Za st.t x=some (.ept k j z p)) (hy:Za st.t y=some v) (hv:(Ib v).all Te=true) (hl:(Ib v).length=i.size)
    (hin:p+i.size≤sz τ) (hdst:o.dst=none)
    (hk1:(Qc (Ib v) st (Ib v)).1.h[k]? =some (.row t' τ xs)) (hdec:Qx τ (wr (So (cells τ (Ba τ xs j))) p (Qc (Ib v) st (Ib v)).2)=some e) (hA:Am st.h τ p (Ib v)=true):Aj P false o st ⟨(Qc (Ib v) st (Ib v)).1.t,(Qc (Ib v) st (Ib v)).1.h.set k (.row t' τ (xs.set j e))⟩:=fun C a w β S0 hd K Q' hK=>by
  have T:=H t i hi
  obtain ⟨vs,h1,h2,h3⟩:=Mx (S0.op hy) hv
  obtain ⟨hk0,hkv,b,c,hb,ex,hrow⟩:=S0.op hx
  have hvl:vs.length=i.size:=by rw [h2.1,hl]
  have h20:=h2
  have hocc:∀(k:Nat) p n,Mb w (Qc (Ib v) st (Ib v)).1.h β k p n→Mb w st.h β k p n:=fun _ _ _ h=>Xj _ _ h
  have hdd:∀k2,.own k2∈Ib v→(∃t σ ys,st.h[k2]? =some (.row t σ ys))→(Qc (Ib v) st (Ib v)).1.h[k2]? =some .dead:=fun k2 hm hr=>Yj _ _ hm hr
  obtain ⟨S,h2,hs0⟩:=Wj (Ib v) S0 (Ib v) h2
  generalize Qc (Ib v) st (Ib v)=fz at *
  obtain ⟨st1,cs1⟩:=fz
  simp only at *
  obtain ⟨xs0,hk,hlen0⟩:=(hs0.hle.2.1 k t' τ xs hk0 hk1).resolve_right (by rw [hkv];simp)
  obtain ⟨rfl,hj⟩:=hrow t' τ xs0 hk
  rw [hlen0] at hj
  obtain ⟨b',c',hb',hc0,hcm,hh⟩:=S.heap.ok k _ hk1
  rw [hb] at hb'
  injection hb' with e1
  injection e1 with e1 e2
  subst e1 e2
  have hc:0<c:=by
    rcases Nat.eq_zero_or_pos c with e|e
    ·rw [hc0 e] at hj;simp at hj
    ·exact e
  obtain ⟨us,junk,hh,hr,h4,h5⟩:=hh hc
  have hul:=hr.1
  rw [Kb] at hul
  have hjz:j*sz τ+sz τ≤xs.length*sz τ:=by rw [←Nat.succ_mul];exact Nat.mul_le_mul_right _ hj
  have hF1:=hr.part (j*sz τ) (sz τ)
  rw [Ro τ xs j _ (To τ xs j hj)] at hF1
  have hF2:=F4 hdec ((CP hF1).wr h2 p)
  have hF3:=hr.wr hF2 (j*sz τ)
  rw [←kD τ xs j e hj] at hF3
  have hl2:(((us.drop (j*sz τ)).take (sz τ)).take p++vs++((us.drop (j*sz τ)).take (sz τ)).drop (p+vs.length)).length=sz τ:=by rw [hF2.1,Yi]
  rw [hl2,kC us vs (j*sz τ) (sz τ) p (by omega)] at hF3
  have hst:=run_storeCells_at (P:=P) b (j*sz τ+p) t' vs 0 (us++junk).toArray w hh (by simp;omega) h3
  have htk:((us++junk).take (j*sz τ+p)++vs++(us++junk).drop (j*sz τ+p+vs.length))=(us.take (j*sz τ+p)++vs++us.drop (j*sz τ+p+vs.length))++junk:=by
    rw [List.take_append_of_le_length (by omega),List.drop_append_of_le_length (by omega)]
    simp
  simp only [Nat.add_zero] at hst
  rw [htk] at hst
  generalize hN:us.take (j*sz τ+p)++vs++us.drop (j*sz τ+p+vs.length)=nu at *
  have hrun:(execOp a.eval o).run P w=.ok .skip (w.setRow b (nu++junk).toArray):=by
    simp [execOp,ho,ex,Instr.storeAt,Instr.sureAddr,storeVar,h1,T.sz,hvl,hst]
  have hobj:∀E':Nat→Prop,(∀b,b<w.heap.size→¬Da st1.h β b→¬E' b)→∀h',Cc st1.h h'→Vf (w.setRow b (nu++junk).toArray) E' C.X h' β k (.row t' τ (xs.set j e)):=fun E' hE h' hle=>⟨b,c,hb,fun h0=>by omega,hcm,fun _=>⟨nu,junk,setRow_heap w b _ _ _ _ hh,hF3.mono fun v u h=>h.keep (fun i hi hn=>setRow_other w b i _ (by rintro rfl;exact hn ⟨k,_,c,hk1,hc,hb⟩)) (by simp [World.setRow]) hE (fun _ _ _ h=>h),fun u hu=>by
      rw [←hN] at hu
      simp only [List.mem_append] at hu
      rcases hu with (hu|hu)|hu
      ·exact h4 u (List.mem_of_mem_take hu)
      ·exact h3 u hu
      ·exact h4 u (List.mem_of_mem_drop hu),by rw [List.length_append,←h5,List.length_append,hF3.1,Kb,List.length_set,hul]⟩⟩
  have hset:∀i,i≠b→(w.setRow b (nu++junk).toArray).heap[i]? =w.heap[i]? :=fun i hne=>setRow_other w b i _ hne
  obtain ⟨S1,hs⟩:Oa C ⟨st1.t,st1.h.set k (.row t' τ (xs.set j e))⟩ a (w.setRow b (nu++junk).toArray) β∧Gb w st.h β (w.setRow b (nu++junk).toArray) (st1.h.set k (.row t' τ (xs.set j e))) β:=by
    cases hu:τ.u with
    |false =>
     obtain ⟨q1,q2⟩:=S.turn (w':=w.setRow b (nu++junk).toArray) (o':=.row t' τ (xs.set j e)) hk1 hb hc (fun _ h=>h) (fun _ _ _ e=>by cases e;exact ⟨_,rfl,by simp⟩) (fun _ _ e=>by cases e) rfl rfl rfl (by simp [World.setRow]) (fun i _ hne=>setRow_other w b i _ hne) hobj (KH _ hu)
     exact ⟨q1,hs0.trans q2⟩
    |true =>
     have key:=fun {q:Nat×Nat} {σ:Ty} {u:Value} {n:Nat} (ho:Va (w.setRow b (nu++junk).toArray) (st1.h.set k (.row t' τ (xs.set j e))) β k q σ u) (hs:Jc u n)=>kE (p:=p) (vs:=vs) (cs:=Ib v) S0.heap S.heap hk1 hb hc hh hul hj h20 (by omega) hu hA ⟨_,hk⟩ hdd (by rw [hN];exact setRow_heap w b _ _ _ _ hh) hset ho hs
     refine Jb.turnU S0 hs0 hocc S (w':=w.setRow b (nu++junk).toArray) (o':=.row t' τ (xs.set j e)) hk1 hb hc (fun _ h=>h) (fun _ _ _ e=>by cases e;exact ⟨_,rfl,by simp⟩) (fun _ _ e=>by cases e) rfl rfl rfl (by simp [World.setRow]) (fun i _ hne=>setRow_other w b i _ hne) hobj (Ii (Ig τ p (Ib v)) k (j*sz τ+Yb τ)) (fun q n ⟨σ,u,ho,hs⟩=>?_) (fun q q' n ⟨σ,u,ho,hs⟩ ⟨σ',u',ho',hs'⟩ hq=>?_) (fun q σ u n ho hs=>?_)
     ·rcases key ho hs with ⟨r1,r2⟩|⟨k2,r1,r2,r3,r4,r5⟩
      ·have e:Ii (Ig τ p (Ib v)) k (j*sz τ+Yb τ) q=some (k,q):=by
         unfold Ii
         split
         ·rename_i he
          rw [if_neg (r2 (by rw [he];rfl))]
         ·rfl
       rw [e]
       refine ⟨fun k0 p0 h=>?_,fun h=>by cases h⟩
       injection h with h
       injection h with h1 h2
       subst h1 h2
       exact ⟨hocc k q n ⟨σ,u,r1,hs⟩,fun o h=>absurd rfl h⟩
      ·have hd:=hdd k2 r2 r4
       have e:Ii (Ig τ p (Ib v)) k (j*sz τ+Yb τ) q=if q.2=0 then none else some (k2,(q.2-1,0)):=by
         unfold Ii
         rw [r1]
         dsimp only
         rw [if_pos r3]
       rw [e]
       have hne:k≠k2:=by
         rintro rfl
         rw [hk1] at hd;cases hd
       rcases r5 with ⟨z1,z2,_,_⟩|⟨jj,z1,z2⟩
       ·rw [if_pos z1]
        exact ⟨fun _ _ h=>(by cases h),fun _=>z2⟩
       ·rw [if_neg (by omega)]
        refine ⟨fun k0 p0 h=>?_,fun h=>by cases h⟩
        injection h with h
        injection h with h1 h2
        subst h1 h2
        refine ⟨⟨σ,u,by rw [show q.2-1=jj by omega];exact z2,hs⟩,fun o _ h=>?_⟩
        rw [List.getElem?_set,if_neg hne,hd] at h
        injection h with h
        exact h.symm
     ·have inv:∀{q:Nat×Nat} {σ:Ty} {u:Value} {n:Nat},Va (w.setRow b (nu++junk).toArray) (st1.h.set k (.row t' τ (xs.set j e))) β k q σ u→Jc u n→(Ii (Ig τ p (Ib v)) k (j*sz τ+Yb τ) q=some (k,q))∨(q.1=j*sz τ+Yb τ∧∃k2,k2≠k∧Ig τ p (Ib v)=some k2∧Ii (Ig τ p (Ib v)) k (j*sz τ+Yb τ) q=if q.2=0 then none else some (k2,(q.2-1,0))):=fun {q σ u n} ho hs=>by
        rcases key ho hs with ⟨r1,r2⟩|⟨k2,r1,r2,r3,r4,r5⟩
        ·left
         unfold Ii
         split
         ·rename_i he
          rw [if_neg (r2 (by rw [he];rfl))]
         ·rfl
        ·right
         have hd:=hdd k2 r2 r4
         refine ⟨r3,k2,fun e=>(by rw [e,hk1] at hd;cases hd),r1,?_⟩
         unfold Ii
         rw [r1]
         dsimp only
         rw [if_pos r3]
      rcases inv ho hs with h1|⟨h1,k2,h2,h3,h4⟩<;>rcases inv ho' hs' with g1|⟨g1,k3,g2,g3,g4⟩
      ·rw [h1,g1] at hq
       injection hq with hq
       exact (Prod.mk.inj hq).2
      ·rw [h1,g4] at hq
       split at hq
       ·cases hq
       ·injection hq with hq
        exact absurd (Prod.mk.inj hq).1.symm g2
      ·rw [h4,g1] at hq
       split at hq
       ·cases hq
       ·injection hq with hq
        exact absurd (Prod.mk.inj hq).1 h2
      ·rw [h4,g4] at hq
       refine Prod.ext (h1.trans g1.symm) ?_
       split at hq<;>split at hq
       ·omega
       ·cases hq
       ·cases hq
       ·injection hq with hq
        have:=(Prod.mk.inj (Prod.mk.inj hq).2).1
        omega
     ·rcases key ho hs with ⟨r1,_⟩|⟨k2,r1,r2,r3,r4,r5⟩
      ·have h4:=De S.heap.ok r1 hs
       exact (S.heap.pl k q σ u n r1 hs).keep hs (hset n fun e=>h4.2 (e▸⟨k,_,c,hk1,hc,hb⟩))
      ·have hd:=hdd k2 r2 r4
       rcases r5 with ⟨z1,z2,z3,z4⟩|⟨jj,z1,z2⟩
       ·exact z4.keep hs (hset n z3)
       ·have h4:=De S0.heap.ok z2 hs
        exact (S0.heap.pl k2 _ σ u n z2 hs).keep hs (hset n fun e=>h4.2 (e▸⟨k,_,c,hk,hc,hb⟩))
  unfold Oper.wp
  rw [hrun]
  have hput:∀u,a.put o.dst u=a:=fun u=>by rw [hdst];rfl
  have:=hK undef _ _ (by rw [hput];exact S1) hs (fun h=>by cases h)
  exact this
end
end Go.Proofs.YtknkhdjhongklaaGreat
namespace Go.Proofs.YtknkhdjhongklaaGreat
open Go.RowKit
section
variable {P:Program} {st:St} {o:Oper} {tab:TypeId→Option TI} {C:Pc} {a:Act} {w w':World} {β β':List (Nat×Nat)}
theorem Q4 {t ty e:TypeId} {size:Nat} (hu:∀w:World,(underlying t).run P w=.ok (.slice e) w) (hs:∀w:World,(sizeOf e).run P w=.ok size w) (B A:Option Addr) (n c c':Nat) (hn:n≤c) (w:World) :
    (Builtin.append_ #[t,t] ty #[.slice B n c,.slice A 0 c']).run P w=.ok (.slice B n c) w:=by
  cases A<;>cases B<;>simp [Builtin.append_,hu,hs,Builtin.lenOf,Builtin.firstCells,hn,loadCells,storeCells,go_sem]
theorem kG {t ty e:TypeId} {inf:TypeInfo} {size:Nat} (hu:∀w:World,(underlying t).run P w=.ok (.slice e) w) (hs:∀w:World,(sizeOf e).run P w=.ok size w) (hi:P.info? e=some inf) (b:Addr) (A:Option Addr) (m c':Nat) (h0:0<m) (hb:m*inf.bytes≤2 ^ 48) (w:World) :
    (Builtin.append_ #[t,t] ty #[.slice (some b) 0 0,.slice A m c']).run P w=(Builtin.append_ #[t,t] ty #[.slice none 0 0,.slice A m c']).run P w:=by
  have h1:¬m=0:=by omega
  have h4:Builtin.nextslicecap m 0=m:=by simp [Builtin.nextslicecap,h0]
  have h3:¬(281474976710656<m*inf.bytes):=by omega
  simp [Builtin.append_,hu,hs,Builtin.lenOf,Builtin.firstCells,h1,h3,h4,loadCells,typeInfo,hi,go_sem]
theorem kH (τ:Ty) (x:El τ):(So (cells τ x)).all Te=true:=by cases τ<;>rfl
theorem Ji {E X:Nat→Prop} {τ:Ty} {xs:List (El τ)} {us:List Value} (hF:F2 (Ri w E X) (Ua τ xs) us):∀u∈us,u.oneCell'=true:=fun u hu=>by
  obtain ⟨i,hi⟩:=List.getElem?_of_mem hu
  have hl:i<(Ua τ xs).length:=by rw [←hF.1];exact (List.getElem?_eq_some_iff.1 hi).1
  have hx:=List.getElem?_eq_getElem hl
  have hR:=hF.2 i _ u hx hi
  have hm:=List.mem_of_getElem? hx
  generalize (Ua τ xs)[i]=x at *
  unfold Ua at hm
  obtain ⟨y,_,hy⟩:=List.mem_flatMap.1 hm
  have:=List.all_eq_true.1 (kH τ y) (.im x) (List.mem_map.2 ⟨x,hy,rfl⟩)
  exact C1.one (h:=[]) (β:=[]) (v:=.im x) hR this
def Yo (τ:Ty) (h:List Ca):PV→Option (List (El τ))
  | .own j=>match h[j]? with
    |some (.row _ σ ys)=>Ph σ τ ys
    |_=>none
  | .im (.sl _ σ ys)=>Ph σ τ ys
  | .im .nil=>some []
  |_=>none
def Qn (w:World) (E X:Nat→Prop) (τ:Ty) (ys:List (El τ)) (u:Value):Prop:=∃A c,u=.slice A ys.length c∧(0<ys.length→∃b p news,A=some ⟨b,p,none⟩∧(∀(j:Nat) v,news[j]? =some v→w.cell? ⟨b,p+j,none⟩=some v)∧F2 (Ri w E X) (Ua τ ys) news)
theorem R4 {E X:Nat→Prop} {h:List Ca} (hh:Pb w E X h β) {τ:Ty} {v:PV} {ys:List (El τ)} {u:Value} (hs:Yo τ h v=some ys) (hc:Cv w E X h β v u):Qn w E X τ ys u:=by
  unfold Yo at hs
  split at hs
  ·rename_i j
   split at hs
   ·rename_i t σ zs hj
    obtain ⟨e,he⟩:=Mn hs
    subst e
    subst he
    obtain ⟨_,_,_,h2⟩:=hc
    obtain ⟨b,c,A,h3,rfl,h5,h6⟩:=h2 _ _ _ hj
    refine ⟨A,c,rfl,fun hp=>?_⟩
    obtain ⟨b',c',h7,h8,h9,h10⟩:=hh.ok j _ hj
    rw [h3] at h7
    injection h7 with h7;injection h7 with e1 e2
    subst e1 e2
    have hc:0<c:=by
      rcases Nat.eq_zero_or_pos c with e|e
      ·have:=h8 e
       rw [this] at hp;simp at hp
      ·exact e
    obtain ⟨us,junk,q1,q2,q3,q4⟩:=h10 hc
    exact ⟨b,0,us,h5 hc,fun j v hv=>by rw [Nat.zero_add];exact Qg q1 hv,q2⟩
   ·cases hs
  ·obtain ⟨e,he⟩:=Mn hs
   subst e
   subst he
   cases hc with
   |sl _ _ _ A cap b p us hA hcap hl hcc hr=>exact ⟨A,cap,rfl,fun hp=>⟨b,p,us,(hA hp).1,hcc,hl,hr⟩⟩
  ·injection hs with hs
   subst hs
   cases hc with
   |nil A=>exact ⟨A,0,rfl,fun hp=>by simp at hp⟩
  ·cases hs
theorem MH {w:World} {base e size n:Nat} {v:Value} {us:List Value} (h:w.ownsRow base e size v n us) (hv:v≠.slice none 0 0):∃g c junk,v=.slice (some ⟨g,0,none⟩) n c∧w.heap[g]? =some (.cells (us++junk).toArray e (0,0))∧(us++junk).length=c*size∧c≤maxLen∧n≤c:=by
  rcases h.2 with ⟨h1,_⟩|⟨g,c,cur,h1,h2,h3,h4,h5,h6,h7⟩
  ·exact absurd h1 hv
  ·have e:us++cur.toList.drop (n*size)=cur.toList:=by rw [←h7,List.take_append_drop]
   exact ⟨g,c,cur.toList.drop (n*size),h1,by rw [e];simpa using h3,by rw [e];simpa using h6,h5,h4⟩
theorem TP {t e ty:TypeId} {i:TI} (T:Nb P t i) {τ σ:Ty} {bytes:Nat} (he:i.elem=some (e,σ,bytes)) (hsz:sz τ=sz σ) {A0:Option Addr} {ys:List (El τ)} {u:Value} (hx:Qn w (Da st.h β) C.X τ ys u) (hp:0<ys.length) (hb:ys.length≤33554432):∃g c2 junk news w',(Builtin.append_ #[t,t] ty #[.slice A0 0 0,u]).run P w=.ok (.slice (some ⟨g,0,none⟩) ys.length c2) w'∧w.heap.size≤g∧0<c2∧c2≤maxLen∧w'.heap[g]? =some (.cells (news++junk).toArray e (0,0))∧F2 (Ri w (Da st.h β) C.X) (Ua τ ys) news∧(news++junk).length=c2*sz τ∧Below w.heap.size w w'∧∀bx px n c',u=.slice (some ⟨bx,px,none⟩) n c'→∀(i:Nat) v,news[i]? =some v→w.cell? ⟨bx,px+i,none⟩=some v:=by
  obtain ⟨hund,⟨inf,z,g2,g3,g4,g5,g6⟩,hsm⟩:=T.el e σ bytes he
  obtain ⟨Ax,cx,rfl,hx⟩:=hx
  obtain ⟨bx,px,news,rfl,hcx,hrx⟩:=hx hp
  have h1x:=Ji hrx
  have hbytes:(0+ys.length)*bytes≤140737488355328:=by
    have:=Nat.mul_le_mul hb hsm
    rw [Nat.zero_add]
    omega
  have hnl:news.length=ys.length*sz σ:=by rw [hrx.1,Kb,hsz]
  obtain ⟨v',w',hrun,hown',hgr,hnil,hor⟩:=run_append_own_at (P:=P) (w:=w) 0 t ty e inf z (sz σ) bytes hund g2 g3 g4 g5 g6 (Pf σ) _ 0 [] (World.ownsRow_nil w 0 e (sz σ)) ⟨bx,px,none⟩ ys.length cx news hnl (fun j u hu=>by rw [Rk];exact hcx j u hu) h1x (by unfold maxLen;omega) hbytes (Nat.zero_le _)
  obtain ⟨g,c2,junk,rfl,hh,hl,hmx,hle⟩:=MH hown' (fun e=>by have:=(hnil.1 e).2;omega)
  rw [List.nil_append] at hh hl
  simp only [Nat.zero_add] at *
  have hg:w.heap.size≤g:=by
    rcases hor with e|e
    ·simp [Value.ownBlock] at e
    ·simp [Value.ownBlock] at e;omega
  refine ⟨g,c2,junk,news,w',?_,hg,by omega,hmx,hh,hrx,by rw [hl,hsz],iH hgr,fun bx' px' n' c' e' i v hv=>by
    injection e' with e'
    injection e' with e'
    injection e' with e1 e2
    subst e1 e2
    exact hcx i v hv⟩
  cases A0 with
  |none=>exact hrun
  |some b0 =>
   rw [kG (size:=sz σ) (fun w=>Zi T he w) (fun w=>Tj T he w) g2 b0 _ _ _ hp (by rw [g5];have:=Nat.mul_le_mul hb hsm;omega)]
   exact hrun
theorem S4 (j:Nat) (_:Oa C st a w β):Gb w st.h β w (frz j st).h β:=by
  unfold frz
  split
  ·exact ⟨rfl,rfl,rfl,Nat.le_refl _,fun _ _ _=>rfl,fun b _=>Wo,fun _ _ h=>h,Rx _,fun j p n _ h=>.inl ⟨j,p,Xo h⟩⟩
  ·exact Gb.refl _ _ _
theorem T4 {h0 h':List Ca} {X E0:Nat→Prop} (H0:Pb w (Da h0 β) X h0 β) {t tj:TypeId} {τ:Ty} {xs ys:List (El τ)} {k j K g c2:Nat} {us news junk2:List Value} {ux:Value} (hk0:us=[]∨∃b c junk0,h0[k]? =some (.row t τ xs)∧β[k]? =some (b,c)∧0<c∧w.heap[b]? =some (.cells (us++junk0).toArray t (0,0))) (hul:us.length=xs.length*sz τ)
    (hj0:h0[j]? =some (.row tj τ ys)) (hux:C1 w E0 X h0 β (.own j) ux) (hnl:news.length=ys.length*sz τ) (hnc:∀bx px n c',ux=.slice (some ⟨bx,px,none⟩) n c'→∀(i:Nat) v,news[i]? =some v→w.cell? ⟨bx,px+i,none⟩=some v)
    (hK:h'[K]? =some (.row t τ (xs++ys))) (hβK:β'[K]? =some (g,c2)) (hg:w'.heap[g]? =some (.cells (us++news++junk2).toArray t (0,0))) (hot:∀i,i<w.heap.size→¬Da h0 β i→w'.heap[i]? =w.heap[i]?)
    {q:Nat×Nat} {σ:Ty} {u:Value} (ho:Va w' h' β' K q σ u):(q.1<xs.length*sz τ∧Va w h0 β k q σ u)∨(xs.length*sz τ≤q.1∧Va w h0 β j (q.1-xs.length*sz τ,q.2) σ u):=by
  obtain ⟨t2,τ2,ys2,b2,c3,us2,junk3,g1,g2,g3,g4,g5,g6⟩:=ho
  rw [hK] at g1
  injection g1 with g1
  injection g1 with e1 e2 e3
  subst e1 e2
  have e3:=eq_of_heq e3
  subst e3
  rw [hβK] at g2
  injection g2 with g2;injection g2 with e1 e2
  subst e1 e2
  rw [hg] at g4
  injection g4 with g4;injection g4 with e1
  have e1:=congrArg Array.toList e1
  simp only [List.toList_toArray] at e1
  have hl2:(us++news).length=us2.length:=by rw [g5,List.length_append,List.length_append,hul,hnl,Nat.add_mul]
  have:=Qf e1 hl2
  subst this
  obtain ⟨_,_,_,hx⟩:=hux
  obtain ⟨bj,cj,A,q1,rfl,q2,_⟩:=hx _ _ _ hj0
  obtain ⟨bj',cj',q3,q4,q5,q6⟩:=H0.ok j _ hj0
  rw [q1] at q3
  injection q3 with q3;injection q3 with e1 e2
  subst e1 e2
  have src:∀(i:Nat) v,news[i]? =some v→∃(usj junkj:List Value),0<cj∧w.heap[bj]? =some (.cells (usj++junkj).toArray tj (0,0))∧usj.length=ys.length*sz τ∧usj[i]? =some v:=fun i v hv=>by
    have hlt:=(List.getElem?_eq_some_iff.1 hv).1
    have hc:0<cj:=by
      rcases Nat.eq_zero_or_pos cj with e|e
      ·have h0:=q4 e
       rw [hnl,h0,List.length_nil,Nat.zero_mul] at hlt
       omega
      ·exact e
    obtain ⟨usj,junkj,r1,r2,_,_⟩:=q6 hc
    have hlj:usj.length=ys.length*sz τ:=by rw [r2.1,Kb]
    have h1:=hnc bj 0 _ _ (by rw [q2 hc]) i v hv
    have h2:=Qg r1 (List.getElem?_eq_getElem (show i<usj.length by omega))
    rw [Nat.zero_add,h2] at h1
    exact ⟨usj,junkj,hc,r1,hlj,by rw [List.getElem?_eq_getElem (show i<usj.length by omega)];exact h1⟩
  have md:∀i,xs.length*sz τ≤i→(i-xs.length*sz τ) % sz τ=i % sz τ:=fun i hi=>by
    obtain ⟨d,rfl⟩:=Nat.le.dest hi
    rw [Nat.add_sub_cancel_left,Nat.mul_comm xs.length (sz τ),Nat.mul_add_mod]
  have cell:∀x,(us++news)[q.1]? =some x→(q.1<xs.length*sz τ∧us[q.1]? =some x)∨(xs.length*sz τ≤q.1∧news[q.1-xs.length*sz τ]? =some x):=fun x hx=>by
    rw [List.getElem?_append,hul] at hx
    split at hx
    ·rename_i h;exact .inl ⟨h,hx⟩
    ·rename_i h;exact .inr ⟨by omega,hx⟩
  have old:∀x,us[q.1]? =some x→∃b c junk0,h0[k]? =some (.row t τ xs)∧β[k]? =some (b,c)∧0<c∧w.heap[b]? =some (.cells (us++junk0).toArray t (0,0)):=fun x hx=>hk0.resolve_left (by rintro rfl;simp at hx)
  rcases g6 with ⟨hu,g7,g8,g9,g10⟩|⟨rfl,rfl,b1,o1,len,c1,jj,g7,g8,g9,g11,g10⟩
  ·rcases cell _ g8 with ⟨z1,z2⟩|⟨z1,z2⟩
   ·obtain ⟨b,c,junk0,y1,y2,y3,y4⟩:=old _ z2
    exact .inl ⟨z1,t,τ,xs,b,c,us,junk0,y1,y2,y3,y4,hul,.inl ⟨hu,g7,z2,g9,g10⟩⟩
   ·obtain ⟨usj,junkj,y1,y2,y3,y4⟩:=src _ _ z2
    exact .inr ⟨z1,tj,τ,ys,bj,cj,usj,junkj,hj0,q1,y1,y2,y3,.inl ⟨hu,g7,y4,g9,by rw [md _ z1];exact g10⟩⟩
  ·have hs1:Jc (.slice (some ⟨b1,o1,none⟩) len c1) b1:=⟨o1,len,c1,rfl,by omega⟩
   rcases cell _ g7 with ⟨z1,z2⟩|⟨z1,z2⟩
   ·obtain ⟨b,c,junk0,y1,y2,y3,y4⟩:=old _ z2
    have hn:=De (p:=(q.1,0)) (σ:=.uls) H0.ok ⟨t,.udb,xs,b,c,us,junk0,y1,y2,y3,y4,hul,.inl ⟨rfl,rfl,z2,rfl,by simp [sz,Yb,Nat.mod_one]⟩⟩ hs1
    exact .inl ⟨z1,t,.udb,xs,b,c,us,junk0,y1,y2,y3,y4,hul,.inr ⟨rfl,rfl,b1,o1,len,c1,jj,z2,g8,g9,g11,(World.cell?_of_block (a:=⟨b1,o1+jj,none⟩) (hot b1 hn.1 hn.2)).symm.trans g10⟩⟩
   ·obtain ⟨usj,junkj,y1,y2,y3,y4⟩:=src _ _ z2
    have hn:=De (p:=(q.1-xs.length*sz .udb,0)) (σ:=.uls) H0.ok ⟨tj,.udb,ys,bj,cj,usj,junkj,hj0,q1,y1,y2,y3,.inl ⟨rfl,rfl,y4,rfl,by simp [sz,Yb,Nat.mod_one]⟩⟩ hs1
    exact .inr ⟨z1,tj,.udb,ys,bj,cj,usj,junkj,hj0,q1,y1,y2,y3,.inr ⟨rfl,rfl,b1,o1,len,c1,jj,y4,g8,g9,g11,(World.cell?_of_block (a:=⟨b1,o1+jj,none⟩) (hot b1 hn.1 hn.2)).symm.trans g10⟩⟩
def UP (k j L:Nat) (q:Nat×Nat):Option (Nat×(Nat×Nat)):=if q.1<L then some (k,q) else some (j,(q.1-L,q.2))
def U4 (w:World) (X:Nat→Prop) (h0 h:List Ca) (β:List (Nat×Nat)) (τ:Ty) (k:Nat) (kx:Option (TypeId×List (El τ))) (ys:List (El τ)) (ux:Value):Prop:=τ.u=false∨∃j tj,h0[j]? =some (.row tj τ ys)∧h[j]? =some .dead∧C1 w (Da h0 β) X h0 β (.own j) ux∧∀t xs,kx=some (t,xs)→h0[k]? =some (.row t τ xs)
theorem V4 (H:Qb P tab) {t e:TypeId} {i:TI} {k:Nat} {s x:Operand} {τ σ:Ty} {bytes:Nat} {xs ys:List (El τ)} (ho:o.op=.call { callee:=.builtin .append,args:= #[s,x],argTypes:= #[t,t] }) (hi:tab t=some i) (he:i.elem=some (e,σ,bytes)) (hsz:sz τ=sz σ)
    (hk:st.h[k]? =some (.row e τ xs)) (hb:xs.length+ys.length≤33554432) {st0:St} (S0:Oa C st0 a w β) (h0:Gb w st0.h β w st.h β) (hocc:∀(k:Nat) p n,Mb w st.h β k p n→Mb w st0.h β k p n) (S:Oa C st a w β) (hop:Cv w (Da st.h β) C.X st.h β (.own k) (a.eval s)) (hsrc:Qn w (Da st.h β) C.X τ ys (a.eval x)) (hSU:U4 w C.X st0.h st.h β τ k (some (e,xs)) ys (a.eval x)) (hd:∀i,o.dst=some i→i<C.N) {KK:Act→World→Prop} {Q':Exit→Act→World→Prop} (hKK:∀u w' β',Oa C (St.put ⟨st.t,st.h.set k .dead++[.row e τ (xs++ys)]⟩ o.dst (.own st.h.length)) (a.put o.dst u) w' β'→Gb w st0.h β w' (St.put ⟨st.t,st.h.set k .dead++[.row e τ (xs++ys)]⟩ o.dst (.own st.h.length)).h β'→(∀b,b<w.heap.size→(∀c,0<c→β[k]?≠some (b,c))→w'.heap[b]? =w.heap[b]?)→KK (a.put o.dst u) w'):o.wp P a w KK Q':=by
  have T:=H t i hi
  obtain ⟨hund,⟨inf,z,g2,g3,g4,g5,g6⟩,hsm⟩:=T.el e σ bytes he
  obtain ⟨_,_,_,hop⟩:=hop
  obtain ⟨b,c,A,hb1,es,hA,hA0⟩:=hop _ _ _ hk
  obtain ⟨b',c',hb1',hc0,hcm,hrow⟩:=S.heap.ok k _ hk
  rw [hb1] at hb1'
  injection hb1' with q
  injection q with e1 e2
  subst e1 e2
  have hlen:xs.length≤c:=by
    rcases Nat.eq_zero_or_pos c with e|e
    ·rw [hc0 e];exact Nat.zero_le _
    ·obtain ⟨us,junk,h1,h2,h3,h4⟩:=hrow e
     have:xs.length*sz τ≤c*sz τ:=by rw [←h4,←Kb,←h2.1];simp
     exact Nat.le_of_mul_le_mul_right this (Pf τ)
  have app':∀{w':World} {b' c':Nat} {o':Ca},o'=.row e τ (xs++ys)→w'.os=w.os→w'.tape=w.tape→w'.output=w.output→w.heap.size≤w'.heap.size→(∀i,i<w.heap.size→(i=b∧Bc (.row e τ xs) c)∨w'.heap[i]? =w.heap[i]?)→(Bc (.row e τ xs) c∧b'=b∨w.heap.size≤b')→(∀E':Nat→Prop,(∀b,b<w.heap.size→¬Da st.h β b→¬E' b)→∀h' β',Cc st.h h'→(∀(k:Nat) p,β[k]? =some p→β'[k]? =some p)→β'[st.h.length]? =some (b',c')→Vf w' E' C.X h' β' st.h.length o') →
      (0<c'→∃us news junk2,w'.heap[b']? =some (.cells (us++news++junk2).toArray e (0,0))∧us.length=xs.length*sz τ∧(us=[]∨∃junk0,0<c∧w.heap[b]? =some (.cells (us++junk0).toArray e (0,0)))∧news.length=ys.length*sz τ∧∀bx px n c'',a.eval x=.slice (some ⟨bx,px,none⟩) n c''→∀(i:Nat) v,news[i]? =some v→w.cell? ⟨bx,px+i,none⟩=some v) →
      Oa C ⟨st.t,st.h.set k .dead++[o']⟩ a w' (β++[(b',c')])∧Gb w st0.h β w' (st.h.set k .dead++[o']) (β++[(b',c')]):=fun {w' b' c' o'} ho' q1 q2 q3 q4 q5 q6 q7 q8=>by
    subst ho'
    rcases hSU with hu|⟨j,tj,hj0,hjd,hux,hk0⟩
    ·obtain ⟨z1,z2⟩:=S.app hk hb1 q1 q2 q3 q4 q5 q6 q7 (KH _ hu)
     exact ⟨z1,h0.trans z2⟩
    ·have hk0:=hk0 _ _ rfl
     have hkl:k<st.h.length:=(List.getElem?_eq_some_iff.1 hk).1
     have hK:(st.h.set k .dead++[Ca.row e τ (xs++ys)])[st.h.length]? =some (.row e τ (xs++ys)):=by rw [List.getElem?_append_right (by simp),List.length_set,Nat.sub_self];rfl
     have hβK:(β++[(b',c')])[st.h.length]? =some (b',c'):=Bm S.heap _
     have hgk:∀o1,(st.h.set k .dead++[Ca.row e τ (xs++ys)])[k]? =some o1→o1=.dead:=fun o1 h=>by
       rw [List.getElem?_append_left (by simpa using hkl),List.getElem?_set,if_pos rfl,if_pos hkl] at h
       injection h with h;exact h.symm
     have hgj:∀o1,(st.h.set k .dead++[Ca.row e τ (xs++ys)])[j]? =some o1→o1=.dead:=fun o1 h=>by
       have hkj:k≠j:=by
         rintro rfl
         rw [hk] at hjd
         cases hjd
       rw [List.getElem?_append_left (by simpa using (List.getElem?_eq_some_iff.1 hjd).1),List.getElem?_set,if_neg hkj,hjd] at h
       injection h with h;exact h.symm
     have hot:∀i,i<w.heap.size→¬Da st0.h β i→w'.heap[i]? =w.heap[i]? :=fun i hi hn=>(q5 i hi).resolve_left fun ⟨e1,e2⟩=>hn (e1▸⟨k,_,c,hk0,e2,hb1⟩)
     have key:∀{q:Nat×Nat} {σ':Ty} {u:Value},Va w' (st.h.set k .dead++[Ca.row e τ (xs++ys)]) (β++[(b',c')]) st.h.length q σ' u→(q.1<xs.length*sz τ∧Va w st0.h β k q σ' u)∨(xs.length*sz τ≤q.1∧Va w st0.h β j (q.1-xs.length*sz τ,q.2) σ' u):=fun {q σ' u} ho=>by
       have hc':0<c':=by
         obtain ⟨_,_,_,b2,c2,_,_,_,g2,g3,_⟩:=ho
         rw [hβK] at g2
         injection g2 with g2;injection g2 with _ e2
         omega
       obtain ⟨us,news,junk2,y1,y2,y3,y4,y5⟩:=q8 hc'
       exact T4 S0.heap (y3.imp id fun ⟨junk0,y6,y7⟩=>⟨b,c,junk0,hk0,hb1,y6,y7⟩) y2 hj0 hux y4 y5 hK hβK y1 hot ho
     refine Jb.appU S0 h0 hocc S hk hb1 q1 q2 q3 q4 q5 q6 q7 (UP k j (xs.length*sz τ)) (fun q n ⟨σ',u,ho,hs⟩=>?_) (fun q q' n ⟨σ',u,ho,hs⟩ ⟨σ2,u',ho',hs'⟩ hq=>?_) (fun q σ' u n ho hs=>?_)
     ·unfold UP
      rcases key ho with ⟨z1,z2⟩|⟨z1,z2⟩
      ·rw [if_pos z1]
       refine ⟨fun k0 p0 h=>?_,fun h=>by cases h⟩
       injection h with h
       obtain ⟨rfl,rfl⟩:=Prod.mk.inj h
       exact ⟨⟨σ',u,z2,hs⟩,fun o1 _ h=>hgk o1 h⟩
      ·rw [if_neg (by omega)]
       refine ⟨fun k0 p0 h=>?_,fun h=>by cases h⟩
       injection h with h
       obtain ⟨rfl,rfl⟩:=Prod.mk.inj h
       exact ⟨⟨σ',u,z2,hs⟩,fun o1 _ h=>hgj o1 h⟩
     ·have hkj:k≠j:=by
        rintro rfl
        rw [hk] at hjd
        cases hjd
      unfold UP at hq
      split at hq<;>split at hq
      ·injection hq with hq;exact (Prod.mk.inj hq).2
      ·injection hq with hq;exact absurd (Prod.mk.inj hq).1 hkj
      ·injection hq with hq;exact absurd (Prod.mk.inj hq).1.symm hkj
      ·injection hq with hq
       obtain ⟨h1,h2⟩:=Prod.mk.inj (Prod.mk.inj hq).2
       exact Prod.ext (by omega) h2
     ·rcases key ho with ⟨_,z2⟩|⟨_,z2⟩
      ·have h4:=De S0.heap.ok z2 hs
       exact (S0.heap.pl _ _ _ u n z2 hs).keep hs (hot n h4.1 h4.2)
      ·have h4:=De S0.heap.ok z2 hs
       exact (S0.heap.pl _ _ _ u n z2 hs).keep hs (hot n h4.1 h4.2)
  have Ee:∀(g c2:Nat) (A':Option Addr) (w':World),(Builtin.append_ #[t,t] o.type #[a.eval s,a.eval x]).run P w=.ok (.slice A' (xs++ys).length c2) w'→(0<c2→A'=some ⟨g,0,none⟩)→(c2=0→TG w' (Da (st.h.set k .dead++[.row e τ (xs++ys)]) (β++[(g,c2)])) C.X e A')→(∀b,b<w.heap.size→(∀c,0<c→β[k]?≠some (b,c))→w'.heap[b]? =w.heap[b]?) →
      (Oa C ⟨st.t,st.h.set k .dead++[.row e τ (xs++ys)]⟩ a w' (β++[(g,c2)])∧Gb w st0.h β w' (st.h.set k .dead++[.row e τ (xs++ys)]) (β++[(g,c2)]))→o.wp P a w KK Q':=fun g c2 A' w' hrun h1 h2 hot ⟨S1,hst⟩=>by
    have hrun2:(execOp a.eval o).run P w=.ok (.value (.slice A' (xs++ys).length c2)) w':=by
      simp only [execOp,ho,resolve,invoke,builtin,Sem.run_bind,Sem.run_pure,Result.andThen_ok,List.map_toArray,List.map_cons,List.map_nil,hrun]
    have hlast:(st.h.set k .dead++[Ca.row e τ (xs++ys)])[st.h.length]? =some (.row e τ (xs++ys)):=by
      rw [List.getElem?_append_right (by simp),List.length_set,Nat.sub_self];rfl
    unfold Oper.wp
    rw [hrun2]
    refine hKK _ _ _ (S1.putL hd (v:=.own st.h.length) ⟨by simp,by simp [Vb],⟨_,_,_,rfl⟩,fun t' τ' zs hz=>?_⟩) (by rw [Cf];exact hst) hot
    have hz:(st.h.set k .dead++[Ca.row e τ (xs++ys)])[st.h.length]? =some (.row t' τ' zs):=hz
    rw [hlast] at hz
    injection hz with hz
    cases hz
    exact ⟨g,c2,A',Bm S.heap _,rfl,h1,h2⟩
  rcases Nat.eq_zero_or_pos ys.length with h0|hp
  · -- nothing comes
   have hy:ys=[]:=List.length_eq_zero_iff.1 h0
   subst hy
   obtain ⟨Ax,cx,ex,_⟩:=hsrc
   have hnn:xs++[]=xs:=List.append_nil xs
   have hr:=Q4 (P:=P) (ty:=o.type) (fun w=>Zi T he w) (fun w=>Tj T he w) A Ax _ _ cx hlen w
   rcases Nat.eq_zero_or_pos c with hc|hc
   ·subst hc
    refine Ee w.heap.size 0 A w (by rw [es,ex,hnn];exact hr) (fun h=>by omega) (fun _=>trivial) (fun _ _ _=>rfl) (app' (w':=w) (o':=.row e τ (xs++[])) rfl rfl rfl rfl (Nat.le_refl _) (fun _ _=>.inr rfl) (.inr (Nat.le_refl _)) (fun E' hE h' β' hle hβ hl=>⟨_,0,hl,fun _=>by rw [hc0 rfl];rfl,hcm,fun h=>by omega⟩) (fun h=>absurd h (Nat.lt_irrefl 0)))
   ·refine Ee b c A w (by rw [es,ex,hnn];exact hr) hA (fun h=>by omega) (fun _ _ _=>rfl) (app' (w':=w) (o':=.row e τ (xs++[])) rfl rfl rfl rfl (Nat.le_refl _) (fun _ _=>.inr rfl) (.inl ⟨hc,rfl⟩) (fun E' hE h' β' hle hβ hl=>⟨b,c,hl,fun h=>by omega,hcm,fun _=>?_⟩) (fun _=>?_))
    ·obtain ⟨us,junk,h1,h2,h3,h4⟩:=hrow hc
     exact ⟨us,junk,h1,by rw [hnn];exact h2.mono fun v u h=>h.keep (fun _ _ _=>rfl) (Nat.le_refl _) hE (fun _ _ _ h=>h),h3,h4⟩
    ·obtain ⟨us,junk,h1,h2,h3,h4⟩:=hrow hc
     exact ⟨us,[],junk,by rw [List.append_nil];exact h1,by rw [h2.1,Kb],.inr ⟨junk,hc,h1⟩,by simp,fun _ _ _ _ _ i v hv=>by simp at hv⟩
  ·rcases Nat.eq_zero_or_pos c with hc|hc
   · -- there was no room
    subst hc
    have hx0:=hc0 rfl
    subst hx0
    obtain ⟨g,c2,junk,news,w',hrun,hg,hcp,hcm2,hh,hF,hl,hbw,hnc⟩:=TP T he hsz (A0:=A) (ty:=o.type) hsrc hp (by simpa using hb)
    refine Ee g c2 _ w' (by rw [es];exact hrun) (fun _=>rfl) (fun h=>by omega) (fun i hi _=>hbw.block i hi) (app' (w':=w') (o':=.row e τ ([]++ys)) rfl hbw.os hbw.tape hbw.output hbw.size (fun i hi=>.inr (hbw.block i hi)) (.inr hg) (fun E' hE h' β' hle hβ hl'=>⟨g,c2,hl',fun h=>by omega,hcm2,fun _=>⟨news,junk,hh,hF.mono fun v u h=>h.keep (fun i hi _=>hbw.block i hi) hbw.size hE (fun _ _ _ h=>h),Ji hF,hl⟩⟩) (fun _=>⟨[],news,junk,hh,by simp,.inl rfl,by rw [hF.1,Kb],hnc⟩))
   ·obtain ⟨us,junk,q1,q2,q3,q4⟩:=hrow hc
    obtain ⟨Ax,cx,ex,hx⟩:=hsrc
    obtain ⟨bx,px,news,rfl,hcx,hrx⟩:=hx hp
    have h1x:=Ji hrx
    have hbytes:(xs.length+ys.length)*bytes≤140737488355328:=by
      have:=Nat.mul_le_mul hb hsm
      omega
    have hAA:=hA hc
    subst hAA
    have hown:w.ownsRow 0 e (sz σ) (.slice (some ⟨b,0,none⟩) xs.length c) xs.length us:=⟨by rw [q2.1,Kb,hsz],.inr ⟨b,c,(us++junk).toArray,rfl,Nat.zero_le _,q1,hlen,hcm,by rw [←hsz];simpa using q4,by rw [←hsz,←Kb,←q2.1];simp⟩⟩
    obtain ⟨v',w',hrun,hown',hgr,hnil,hor⟩:=run_append_own_at (P:=P) (w:=w) 0 t o.type e inf z (sz σ) bytes hund g2 g3 g4 g5 g6 (Pf σ) _ xs.length us hown ⟨bx,px,none⟩ ys.length cx news (by rw [hrx.1,Kb,hsz]) (fun j u hu=>by rw [Rk];exact hcx j u hu) h1x (by unfold maxLen;omega) hbytes (Nat.zero_le _)
    obtain ⟨g,c2,junk2,rfl,hh,hl,hmx,hle2⟩:=MH hown' (fun e=>by have:=(hnil.1 e).1;cases this)
    have hg:g=b∨w.heap.size≤g:=by
      rcases hor with e|e
      ·simp [Value.ownBlock] at e;exact .inl e
      ·simp [Value.ownBlock] at e;exact .inr (by omega)
    have hoth:∀i,i<w.heap.size→i≠b→w'.heap[i]? =w.heap[i]? :=fun i hi hne=>hgr.block i hi (by simpa [Value.ownBlock] using hne)
    have hF:F2 (Ri w (Da st.h β) C.X) (Ua τ (xs++ys)) (us++news):=by rw [Qo];exact q2.app hrx
    have hlb:Da st.h β b:=⟨k,_,c,hk,hc,hb1⟩
    have hlen2:(xs++ys).length=xs.length+ys.length:=List.length_append
    refine Ee g c2 _ w' (by rw [es,ex,hlen2];exact hrun) (fun _=>rfl) (fun h=>by omega) (fun i hi hn=>hoth i hi (by rintro rfl;exact hn c hc hb1)) (app' (w':=w') (o':=.row e τ (xs++ys)) rfl hgr.os hgr.tape hgr.output hgr.size (fun i hi=>by
      by_cases hib:i=b
      ·exact .inl ⟨hib,hc⟩
      ·exact .inr (hoth i hi hib)) (hg.imp (fun h=>⟨hc,h⟩) id) (fun E' hE h' β' hle hβ hl'=>⟨g,c2,hl',fun h=>by omega,hmx,fun _=>⟨us++news,junk2,hh,hF.mono fun v u h=>h.keep (fun i hi hn=>hoth i hi (by rintro rfl;exact hn hlb)) hgr.size hE (fun _ _ _ h=>h),Ji hF,by rw [hl,hsz]⟩⟩) (fun _=>⟨us,news,junk2,hh,by rw [q2.1,Kb],.inr ⟨junk,hc,q1⟩,by rw [hrx.1,Kb],fun bx' px' n' c'' e' i v hv=>by
      rw [ex] at e'
      injection e' with e'
      injection e' with e'
      injection e' with e1 e2
      subst e1 e2
      exact hcx i v hv⟩))
theorem W4 (H:Qb P tab) {t e:TypeId} {i:TI} {k:Nat} {s x:Operand} {τ σ:Ty} {bytes:Nat} {v:PV} {xs ys:List (El τ)} (ho:o.op=.call { callee:=.builtin .append,args:= #[s,x],argTypes:= #[t,t] }) (hi:tab t=some i) (he:i.elem=some (e,σ,bytes)) (hsz:sz τ=sz σ)
    (hs:Za st.t s=some (.own k)) (hk:st.h[k]? =some (.row e τ xs)) (hx:Za st.t x=some v) (hv:Yo τ st.h v=some ys) (hb:xs.length+ys.length≤33554432) (hu:τ.u=false):∀C a w β,Oa C st a w β→(∀i,o.dst=some i→i<C.N)→∀(K:Act→World→Prop) (Q:Exit→Act→World→Prop),(∀u w' β',Oa C (St.put ⟨st.t,st.h.set k .dead++[.row e τ (xs++ys)]⟩ o.dst (.own st.h.length)) (a.put o.dst u) w' β'→Gb w st.h β w' (St.put ⟨st.t,st.h.set k .dead++[.row e τ (xs++ys)]⟩ o.dst (.own st.h.length)).h β'→(∀b,b<w.heap.size→(∀c,0<c→β[k]?≠some (b,c))→w'.heap[b]? =w.heap[b]?)→K (a.put o.dst u) w')→o.wp P a w K Q:=fun C a w β S hd KK Q' hKK =>
  V4 H ho hi he hsz hk hb S (Gb.refl _ _ _) (fun _ _ _ h=>h) S (S.op hs) (R4 S.heap hv (S.op hx)) (.inl hu) hd hKK
theorem X4 (H:Qb P tab) {t e:TypeId} {i:TI} {k j:Nat} {s x:Operand} {τ σ:Ty} {bytes:Nat} {tj:TypeId} {xs ys:List (El τ)} (ho:o.op=.call { callee:=.builtin .append,args:= #[s,x],argTypes:= #[t,t] }) (hi:tab t=some i) (he:i.elem=some (e,σ,bytes)) (hsz:sz τ=sz σ)
    (hs:Za st.t s=some (.own k)) (hk:st.h[k]? =some (.row e τ xs)) (hx:Za st.t x=some (.own j)) (hj:st.h[j]? =some (.row tj τ ys)) (hkj:k≠j) (hb:xs.length+ys.length≤33554432):∀C a w β,Oa C st a w β→(∀i,o.dst=some i→i<C.N)→∀(K:Act→World→Prop) (Q:Exit→Act→World→Prop),(∀u w' β',Oa C (St.put ⟨(frz j st).t,(frz j st).h.set k .dead++[.row e τ (xs++ys)]⟩ o.dst (.own (frz j st).h.length)) (a.put o.dst u) w' β'→Gb w st.h β w' (St.put ⟨(frz j st).t,(frz j st).h.set k .dead++[.row e τ (xs++ys)]⟩ o.dst (.own (frz j st).h.length)).h β'→(∀b,b<w.heap.size→(∀c,0<c→β[k]?≠some (b,c))→w'.heap[b]? =w.heap[b]?)→K (a.put o.dst u) w')→o.wp P a w K Q:=fun C a w β S hd KK Q' hKK=>by
  have S1:=S.frz j
  have e1:(frz j st).h=Md j τ ys j st.h:=by unfold frz;rw [hj]
  have hst:Gb w st.h β w (frz j st).h β:=(S4 j S)
  have hk1:(frz j st).h[k]? =some (.row e τ xs):=by rw [e1,Pn,if_neg hkj,hk];rfl
  have hjd:(frz j st).h[j]? =some .dead:=by rw [e1,Pn,if_pos rfl,hj];rfl
  have hsk:Cv w (Da (frz j st).h β) C.X (frz j st).h β (.own k) (a.eval s):=by
    have h1:=JH S.heap hj (v:=.own k) (u:=a.eval s) (S.op hs)
    have e2:Vk j τ ys (.own k)=.own k:=by simp only [Vk];rw [show Nat.beq k j=false from Uk hkj];rfl
    rw [e2,←e1] at h1
    exact h1
  have hxs:Ri w (Da (frz j st).h β) C.X (.sl true τ ys) (a.eval x):=by
    refine PP S.heap hj (fun b hn hl=>hn (by rw [e1] at hl;exact Wo hl)) (fun b c h1 h2 ⟨j',o',c',h3,h4,h5⟩=>?_) (S.op hx)
    rw [e1] at h3
    rcases Xk h3 with ⟨_,rfl⟩|⟨hne,o2,h6,rfl⟩
    ·exact h4
    ·exact hne (S.heap.inj j' j o2 _ b c' c h6 hj (Wu.1 h4) h2 h5 h1)
  have hsrc:Qn w (Da (frz j st).h β) C.X τ ys (a.eval x):=by
    generalize a.eval x=ux at hxs
    cases hxs with
    |sl _ _ _ A cap b p us hA hcap hl hcc hr=>exact ⟨A,cap,rfl,fun hp=>⟨b,p,us,(hA hp).1,hcc,hl,hr⟩⟩
  exact V4 H ho hi he hsz hk1 hb S hst (fun _ _ _ h=>QP h) S1 hsk hsrc (.inr ⟨j,tj,hj,hjd,S.op hx,fun t xs' h=>by injection h with h;obtain ⟨rfl,rfl⟩:=Prod.mk.inj h;exact hk⟩) hd hKK
theorem kI (H:Qb P tab) {t e:TypeId} {i:TI} {k:Nat} {s x:Operand} {τ σ:Ty} {bytes:Nat} {v:PV} {xs ys:List (El τ)} (ho:o.op=.call { callee:=.builtin .append,args:= #[s,x],argTypes:= #[t,t] }) (hi:tab t=some i) (he:i.elem=some (e,σ,bytes)) (hsz:sz τ=sz σ)
    (hs:Za st.t s=some (.own k)) (hk:st.h[k]? =some (.row e τ xs)) (hx:Za st.t x=some v) (hv:Yo τ st.h v=some ys) (hb:xs.length+ys.length≤33554432) (hu:τ.u=false):Aj P false o st (St.put ⟨st.t,st.h.set k .dead++[.row e τ (xs++ys)]⟩ o.dst (.own st.h.length)):=fun C a w β S hd K Q' hK =>
  W4 H ho hi he hsz hs hk hx hv hb hu C a w β S hd K Q' fun u w' β' h1 h2 _=>hK u w' β' h1 h2 fun h=>by cases h
theorem Z4 (H:Qb P tab) {t e:TypeId} {i:TI} {s x:Operand} {τ:Ty} {bytes:Nat} {ys:List (El τ)} (ho:o.op=.call { callee:=.builtin .append,args:= #[s,x],argTypes:= #[t,t] }) (hi:tab t=some i) (he:i.elem=some (e,τ,bytes))
    (hb:ys.length≤33554432) {st0:St} (S0:Oa C st0 a w β) (h0:Gb w st0.h β w st.h β) (hocc:∀(k:Nat) p n,Mb w st.h β k p n→Mb w st0.h β k p n) (S:Oa C st a w β) (hs:Cv w (Da st.h β) C.X st.h β (.im .nil) (a.eval s)) (hsrc:Qn w (Da st.h β) C.X τ ys (a.eval x)) (hSU:U4 w C.X st0.h st.h β τ 0 none ys (a.eval x)) (hd:∀i,o.dst=some i→i<C.N) {KK:Act→World→Prop} {Q':Exit→Act→World→Prop} (hKK:∀u w' β',Oa C (St.put ⟨st.t,st.h++[.row e τ ys]⟩ o.dst (.own st.h.length)) (a.put o.dst u) w' β'→Gb w st0.h β w' (St.put ⟨st.t,st.h++[.row e τ ys]⟩ o.dst (.own st.h.length)).h β'→(true=true→Below w.heap.size w w')→KK (a.put o.dst u) w'):o.wp P a w KK Q':=by
  have T:=H t i hi
  obtain ⟨A0,es⟩:∃A0,a.eval s=.slice A0 0 0:=by
    have:=hs
    generalize a.eval s=us at *
    cases this;exact ⟨_,rfl⟩
  have hlast:(st.h++[Ca.row e τ ys])[st.h.length]? =some (.row e τ ys):=by
    rw [List.getElem?_append_right (Nat.le_refl _),Nat.sub_self];rfl
  have Ee:∀(g c2:Nat) (A':Option Addr) (w':World),(Builtin.append_ #[t,t] o.type #[a.eval s,a.eval x]).run P w=.ok (.slice A' ys.length c2) w'→(0<c2→A'=some ⟨g,0,none⟩)→Below w.heap.size w w' →
      (Oa C ⟨st.t,st.h++[.row e τ ys]⟩ a w' (β++[(g,c2)])∧Gb w st0.h β w' (st.h++[.row e τ ys]) (β++[(g,c2)]))→o.wp P a w KK Q':=fun g c2 A' w' hrun h1 hbw ⟨S1,hst⟩=>by
    have hrun2:(execOp a.eval o).run P w=.ok (.value (.slice A' ys.length c2)) w':=by
      simp only [execOp,ho,resolve,invoke,builtin,Sem.run_bind,Sem.run_pure,Result.andThen_ok,List.map_toArray,List.map_cons,List.map_nil,hrun]
    unfold Oper.wp
    rw [hrun2]
    refine hKK _ _ _ (S1.putL hd (v:=.own st.h.length) ⟨by simp,by simp [Vb],⟨_,_,_,rfl⟩,fun t' τ' zs hz=>?_⟩) (by rw [Cf];exact hst) (fun _=>hbw)
    have hz:(st.h++[Ca.row e τ ys])[st.h.length]? =some (.row t' τ' zs):=hz
    rw [hlast] at hz
    injection hz with hz
    cases hz
    exact ⟨g,c2,A',Bm S.heap _,rfl,h1,fun _=>trivial⟩
  rcases Nat.eq_zero_or_pos ys.length with hy0|hp
  ·have hy:ys=[]:=List.length_eq_zero_iff.1 hy0
   subst hy
   obtain ⟨Ax,cx,ex,_⟩:=hsrc
   refine Ee w.heap.size 0 A0 w (by rw [es,ex];exact Q4 (fun w=>Zi T he w) (fun w=>Tj T he w) A0 Ax _ _ _ (Nat.le_refl _) w) (fun h=>by omega) (Below.refl _ _) ((S.new (o:=.row e τ []) (Below.refl _ _) (fun h=>absurd h (Nat.lt_irrefl 0)) (fun E' hE h' β' hle hβ hl=>⟨_,0,hl,fun _=>rfl,Nat.zero_le _,fun h=>by omega⟩) RP).imp id fun h=>h0.trans h)
  ·obtain ⟨g,c2,junk,news,w',hrun,hg,hcp,hcm2,hh,hF,hl,hbw,hnc⟩:=TP T he rfl (A0:=A0) (ty:=o.type) hsrc hp hb
   refine Ee g c2 _ w' (by rw [es];exact hrun) (fun _=>rfl) hbw ?_
   have hobj:∀E':Nat→Prop,(∀b,b<w.heap.size→¬Da st.h β b→¬E' b)→∀h' β',Cc st.h h'→(∀(k:Nat) p,β[k]? =some p→β'[k]? =some p)→β'[st.h.length]? =some (g,c2)→Vf w' E' C.X h' β' st.h.length (.row e τ ys):=fun E' hE h' β' hle hβ hl'=>⟨g,c2,hl',fun h=>by omega,hcm2,fun _=>⟨news,junk,hh,hF.mono fun v u h=>h.keep (fun i hi _=>hbw.block i hi) hbw.size hE (fun _ _ _ h=>h),Ji hF,hl⟩⟩
   rcases hSU with hu|⟨j,tj,hj0,hjd,hux,_⟩
   ·exact (S.new (o:=.row e τ ys) hbw (fun _=>hg) hobj (KH _ hu)).imp id fun h=>h0.trans h
   ·have hβK:(β++[(g,c2)])[st.h.length]? =some (g,c2):=Bm S.heap _
    have key:∀{q:Nat×Nat} {σ':Ty} {u:Value},Va w' (st.h++[Ca.row e τ ys]) (β++[(g,c2)]) st.h.length q σ' u→Va w st0.h β j q σ' u:=fun {q σ' u} ho=>by
      have:=T4 (xs:=([]:List (El τ))) (us:=[]) (k:=0) S0.heap (.inl rfl) (by simp) hj0 hux (by rw [hF.1,Kb]) hnc hlast hβK (by rw [List.nil_append];exact hh) (fun i hi _=>hbw.block i hi) ho
      rcases this with ⟨z,_⟩|⟨_,z⟩
      ·simp at z
      ·simpa using z
    refine Jb.newU S0 h0 hocc S (o:=.row e τ ys) hbw (fun _=>hg) hobj (fun q=>some (j,q)) (fun q n ⟨σ',u,ho,hs⟩=>⟨fun k0 p0 h=>?_,fun h=>by cases h⟩) (fun q q' n _ _ hq=>?_) (fun q σ' u n ho hs=>?_)
    ·injection h with h
     obtain ⟨rfl,rfl⟩:=Prod.mk.inj h
     refine ⟨⟨σ',u,key ho,hs⟩,fun o1 _ h=>?_⟩
     rw [List.getElem?_append_left (List.getElem?_eq_some_iff.1 hjd).1,hjd] at h
     injection h with h;exact h.symm
    ·injection hq with hq;exact (Prod.mk.inj hq).2
    ·have h4:=De S0.heap.ok (key ho) hs
     exact (S0.heap.pl _ _ _ u n (key ho) hs).keep hs (hbw.block n h4.1)
theorem kJ (H:Qb P tab) {t e:TypeId} {i:TI} {s x:Operand} {τ:Ty} {bytes:Nat} {v:PV} {ys:List (El τ)} (ho:o.op=.call { callee:=.builtin .append,args:= #[s,x],argTypes:= #[t,t] }) (hi:tab t=some i) (he:i.elem=some (e,τ,bytes))
    (hs:Za st.t s=some (.im .nil)) (hx:Za st.t x=some v) (hv:Yo τ st.h v=some ys) (hb:ys.length≤33554432) (hu:τ.u=false):Aj P true o st (St.put ⟨st.t,st.h++[.row e τ ys]⟩ o.dst (.own st.h.length)):=fun C a w β S hd KK Q' hKK =>
  Z4 H ho hi he hb S (Gb.refl _ _ _) (fun _ _ _ h=>h) S (S.op hs) (R4 S.heap hv (S.op hx)) (.inl hu) hd hKK
theorem kK (S:Oa C st a w β) {j:Nat} {tj:TypeId} {τ:Ty} {ys:List (El τ)} {ux:Value} (hj:st.h[j]? =some (.row tj τ ys)) (hx:Cv w (Da st.h β) C.X st.h β (.own j) ux):Qn w (Da (frz j st).h β) C.X τ ys ux∧(frz j st).h[j]? =some .dead:=by
  have e1:(frz j st).h=Md j τ ys j st.h:=by unfold frz;rw [hj]
  have hxs:Ri w (Da (frz j st).h β) C.X (.sl true τ ys) ux:=by
    refine PP S.heap hj (fun b hn hl=>hn (by rw [e1] at hl;exact Wo hl)) (fun b c h1 h2 ⟨j',o',c',h3,h4,h5⟩=>?_) hx
    rw [e1] at h3
    rcases Xk h3 with ⟨_,rfl⟩|⟨hne,o2,h6,rfl⟩
    ·exact h4
    ·exact hne (S.heap.inj j' j o2 _ b c' c h6 hj (Wu.1 h4) h2 h5 h1)
  refine ⟨?_,by rw [e1,Pn,if_pos rfl,hj];rfl⟩
  cases hxs with
  |sl _ _ _ A cap b p us hA hcap hl hcc hr=>exact ⟨A,cap,rfl,fun hp=>⟨b,p,us,(hA hp).1,hcc,hl,hr⟩⟩
theorem kL (H:Qb P tab) {t e:TypeId} {i:TI} {j:Nat} {s x:Operand} {τ:Ty} {bytes:Nat} {tj:TypeId} {ys:List (El τ)} (ho:o.op=.call { callee:=.builtin .append,args:= #[s,x],argTypes:= #[t,t] }) (hi:tab t=some i) (he:i.elem=some (e,τ,bytes))
    (hs:Za st.t s=some (.im .nil)) (hx:Za st.t x=some (.own j)) (hj:st.h[j]? =some (.row tj τ ys)) (hb:ys.length≤33554432):Aj P true o st (St.put ⟨(frz j st).t,(frz j st).h++[.row e τ ys]⟩ o.dst (.own (frz j st).h.length)):=fun C a w β S hd KK Q' hKK=>by
  have e1:(frz j st).h=Md j τ ys j st.h:=by unfold frz;rw [hj]
  obtain ⟨h1,h2⟩:=kK S hj (S.op hx)
  have hsn:Cv w (Da (frz j st).h β) C.X (frz j st).h β (.im .nil) (a.eval s):=by
    have:=S.op hs
    generalize a.eval s=us at *
    cases this;exact Ri.nil _
  exact Z4 H ho hi he hb S (S4 j S) (fun _ _ _ h=>QP h) (S.frz j) hsn h1 (.inr ⟨j,tj,hj,h2,S.op hx,fun t xs' h=>by cases h⟩) hd hKK
def VP:PV→Bool
  | .im (.sl _ _ _)| .im .nil| .own _=>true
  |_=>false
theorem kM (H:Qb P tab) {t e:TypeId} {i:TI} {x y:Operand} {l m:Option Operand} {τ:Ty} {bytes:Nat} {v:PV} (ho:o.op=.slice t x l m (some y)) (hi:tab t=some i) (he:i.elem=some (e,τ,bytes)) (hx:Za st.t x=some v) (hv:VP v=true) (hl:Uj st.t l 0=some 0) (hm:Uj st.t m 1=some 0) (hy:Za st.t y=some (.im (.s (.int .i64 0)))):Aj P true o st (St.put ⟨st.t,st.h++[.row e τ []]⟩ o.dst (.own st.h.length)):=fun C a w β S hd KK Q' hKK=>by
  have T:=H t i hi
  have ey:a.eval y=.int .i64 0:=S.ev hy
  obtain ⟨A,n,cap,eu⟩:∃A n cap,a.eval x=.slice A n cap:=by
    have:=S.op hx
    generalize a.eval x=us at *
    cases v with
    |im z =>
     cases z with
     |s z=>cases hv
     |nil=>cases this;exact ⟨_,_,_,rfl⟩
     |sl g τ xs=>cases this;exact ⟨_,_,_,rfl⟩
    |own k=>obtain ⟨_,_,h,_⟩:=this;exact h
    |_=>cases hv
  obtain ⟨A',hrun⟩:∃A',(execOp a.eval o).run P w=.ok (.value (.slice A' 0 0)) w:=by
    rcases AH S hl with ⟨rfl,_⟩|⟨y1,rfl,e1⟩<;>rcases AH S hm with ⟨_,h⟩|⟨y2,rfl,e2⟩<;>first
      |(cases h;done)
      |(refine ⟨A,?_⟩;simp [execOp,ho,Instr.sliceAt,Instr.slice,Zi T he,Instr.sliceBounds,Instr.sliceBound,asIntOf,Tj T he, *];done)
      |(refine ⟨A.map (·.add 0),?_⟩;simp [execOp,ho,Instr.sliceAt,Instr.slice,Zi T he,Instr.sliceBounds,Instr.sliceBound,asIntOf,Tj T he, *];done)
      |(refine ⟨if cap=0 then A else A.map (·.add 0),?_⟩;simp [execOp,ho,Instr.sliceAt,Instr.slice,Zi T he,Instr.sliceBounds,Instr.sliceBound,asIntOf,Tj T he, *])
  have hlast:(st.h++[Ca.row e τ []])[st.h.length]? =some (.row e τ []):=by
    rw [List.getElem?_append_right (Nat.le_refl _),Nat.sub_self];rfl
  obtain ⟨S1,hst⟩:=S.new (w':=w) (B:=w.heap.size) (c:=0) (o:=.row e τ []) (Below.refl w.heap.size w) (fun h=>absurd h (Nat.lt_irrefl 0)) (fun E' hE h' β' hle hβ hl=>⟨_,0,hl,fun _=>rfl,Nat.zero_le _,fun h=>by omega⟩) RP
  unfold Oper.wp
  rw [hrun]
  refine hKK _ _ _ (S1.putL hd (v:=.own st.h.length) ⟨by simp,by simp [Vb],⟨_,_,_,rfl⟩,fun t' τ' zs hz=>?_⟩) (by rw [Cf];exact hst) (fun _=>Below.refl _ _)
  have hz:(st.h++[Ca.row e τ []])[st.h.length]? =some (.row t' τ' zs):=hz
  rw [hlast] at hz
  injection hz with hz
  cases hz
  exact ⟨w.heap.size,0,A',Bm S.heap _,rfl,fun h=>absurd h (Nat.lt_irrefl 0),fun _=>trivial⟩
end
end Go.Proofs.YtknkhdjhongklaaGreat
namespace Go.Proofs.YtknkhdjhongklaaGreat
open Go.RowKit
theorem kN {α:Type} (enc:α→List Value) (z:α) (zc:Array Value) (hz:zc.toList=enc z) (h0:0<zc.size) (n:Nat):(madeCells zc (n*zc.size)).toList=(List.replicate n z).flatMap enc:=by
  have hl:∀x:α,x=z→(enc x).length=zc.size:=by rintro x rfl;rw [←hz];simp
  have hlen:((List.replicate n z).flatMap enc).length=n*zc.size:=by
    induction n with
    |zero=>simp
    |succ n ih=>rw [List.replicate_succ,List.flatMap_cons,List.length_append,ih,hl z rfl,Nat.succ_mul];omega
  refine List.ext_getElem? fun j=>?_
  rcases Nat.lt_or_ge j (n*zc.size) with hj|hj
  ·have e1:(madeCells zc (n*zc.size)).toList[j]? =some zc[j % zc.size]! :=by
     simp [madeCells,hj]
   have hm:=Nat.mod_lt j h0
   have e2:((List.replicate n z).flatMap enc)[j]? =(enc z)[j % zc.size]? :=by
     clear e1 hlen hl
     induction n generalizing j with
     |zero=>omega
     |succ n ih =>
      rw [List.replicate_succ,List.flatMap_cons]
      have hez:(enc z).length=zc.size:=by rw [←hz];simp
      rcases Nat.lt_or_ge j zc.size with h|h
      ·rw [List.getElem?_append_left (by omega),Nat.mod_eq_of_lt h]
      ·rw [List.getElem?_append_right (by omega),hez,ih (j-zc.size) (by rw [Nat.succ_mul] at hj;omega) (Nat.mod_lt _ h0),Nat.mod_eq_sub_mod h]
   rw [e1,e2,←hz]
   simp [hm]
  ·rw [List.getElem?_eq_none (by simp [madeCells];omega),List.getElem?_eq_none (by omega)]
section
variable {P:Program} {st:St} {o:Oper} {tab:TypeId→Option TI} {C:Pc} {a:Act} {w w':World} {β β':List (Nat×Nat)}
theorem kO {w:World} {E X:Nat→Prop} (τ:Ty):F2 (Ri w E X) (cells τ (Oh τ)) (Xl τ):=by
  cases τ<;>(first
    |exact F2.cons (Ri.s _) F2.nil
    |exact F2.cons (Nn _) F2.nil
    |exact F2.cons (Ri.s _) (F2.cons (Ri.s _) F2.nil)
    |exact F2.cons (Ri.s _) (F2.cons (Nn _) F2.nil)
    |exact F2.cons (Ri.s _) (F2.cons (Ri.s _) (F2.cons (Ri.s _) F2.nil))
    |exact F2.cons (Ri.s _) (F2.cons (Ri.s _) (F2.cons (Nn _) F2.nil))
    |exact F2.cons (Ri.s _) (F2.cons (Ri.s _) (F2.cons (Ri.s _) (F2.cons (Nn _) F2.nil))))
theorem WP {w:World} {E X:Nat→Prop} (τ:Ty):∀n:Nat,F2 (Ri w E X) (Ua τ (List.replicate n (Oh τ))) ((List.replicate n (Xl τ)).flatten)
  |0=>F2.nil
  |n+1=>by
   rw [List.replicate_succ,In,List.replicate_succ,List.flatten_cons]
   exact (kO τ).app (WP τ n)
theorem B5 {w0:World} {E0 E X:Nat→Prop} {h:List Ca} (hh:Pb w0 E0 X h β) {t:TypeId} {τ:Ty} {xs:List (El τ)} {B c n:Nat} {A:Option Addr} (hn:xs.length=n) (hA:0<c→A=some ⟨B,0,none⟩) (h0:c=0→TG w' E X t A):C1 w' E X (h++[.row t τ xs]) (β++[(B,c)]) (.own h.length) (.slice A n c):=by
  refine ⟨by simp,by simp [Vb],⟨_,_,_,rfl⟩,fun t' τ' zs hz=>?_⟩
  rw [List.getElem?_append_right (Nat.le_refl _),Nat.sub_self] at hz
  injection hz with hz
  cases hz
  exact ⟨B,c,A,Bm hh _,by rw [hn],hA,h0⟩
theorem D5 {X:Nat→Prop} {h:List Ca} (hh:Pb w (Da h β) X h β) (hX:∀b,X b→b<w.heap.size) {t:TypeId} {τ:Ty} {xs:List (El τ)} {us:List Value} {c:Nat} (hc:c=0) (hu:us=[])   : TG (w.alloc (.cells us.toArray t)) (Da (h++[.row t τ xs]) (β++[(w.heap.size,c)])) X t (some ⟨w.heap.size,0,none⟩):=trivial
theorem kP (H:Qb P tab) {t e:TypeId} {i:TI} {kl kc:IntKind} {x y:Operand} {τ:Ty} {bytes n:Nat} (ho:o.op=.makeSlice t x y) (hi:tab t=some i) (he:i.elem=some (e,τ,bytes)) (hx:Za st.t x=some (.im (.s (.int kl (n:Int))))) (hy:Za st.t y=some (.im (.s (.int kc (n:Int)))))
    (hn:n≤16777216):Aj P true o st (St.put ⟨st.t,st.h++[.row e τ (List.replicate n (Oh τ))]⟩ o.dst (.own st.h.length)):=fun C a w β S hd K Q' hK=>by
  have T:=H t i hi
  obtain ⟨hund,⟨inf,z,h1,h2,h3,h4,h5⟩,hsm⟩:=T.el e τ bytes he
  have hz:=T.elz e τ bytes inf z he h1 h2
  have hb:inf.bytes*n≤281474976710656:=by
    have:=Nat.mul_le_mul hsm hn
    rw [h4];omega
  have hb2:(inf.bytes:Int)*(n:Int)≤281474976710656:=by
    have:((inf.bytes*n:Nat):Int)≤281474976710656:=by omega
    simpa using this
  have hrun:=run_make (P:=P) (w:=w) t e inf z hund h1 h2 kl kc n n (by omega) (Int.le_refl _) hb2 (by omega)
  simp only [Int.toNat_natCast,h3] at hrun
  have hcs:(madeCells z.cells (n*sz τ)).toList=(List.replicate n (Xl τ)).flatten:=by
    have:=kN (fun _:Unit=>Xl τ) () z.cells hz (by rw [h5];exact Pf τ) n
    rw [h5] at this
    rw [this,List.flatMap_def]
    simp
  obtain ⟨S1,hs,hb⟩:=N4 S (t:=e) (τ:=τ) (n:=n) (by simp) (WP τ n) (Ji (WP (w:=w) (E:=fun _=>False) (X:=fun _=>False) τ n)) (by unfold maxLen;omega) (jW τ n)
  have hr:(execOp a.eval o).run P w=.ok (.value (.slice (some ⟨w.heap.size,0,none⟩) n n)) (w.alloc (.cells ((List.replicate n (Xl τ)).flatten).toArray e)):=by
    have e1:madeCells z.cells (n*sz τ)=((List.replicate n (Xl τ)).flatten).toArray:=by rw [←hcs]
    simp only [execOp,ho,S.ev hx,S.ev hy,Sem.run_bind,hrun,e1,Result.andThen_ok]
    simp
  unfold Oper.wp
  rw [hr]
  exact hK _ _ _ (S1.putL hd (v:=.own st.h.length) (B5 S.heap (by simp) (fun _=>rfl) (fun h=>D5 S.heap S.xlt h (by subst h;rfl)))) (by rw [Cf];exact hs) fun _=>hb
def Xu:Nat→List (Nat×Operand)→Option (List Operand)
  |_,[]=>some []
  |k,(i,x)::r=>bif Nat.beq i k then (match Xu (k+1) r with|some l=>some (x::l)|none=>none) else none
def Yu (t:List (Nat×PV)) (s:Nat):List Operand→Option (List PV)
  |[]=>some []
  |x::r=>match Za t x,Yu t s r with
   |some v,some l=>bif Nat.beq (Ib v).length s&&(Ib v).all Te then some (Ib v++l) else none
   |_,_=>none
def Zu (τ:Ty):Nat→List PV→Option (List (El τ))
  |0,[]=>some []
  |0,_::_=>none
  |n+1,cs=>match Qx τ (cs.take (sz τ)),Zu τ n (cs.drop (sz τ)) with|some x,some l=>some (x::l)|_,_=>none
theorem E5 {E X:Nat→Prop} {h:List Ca} {τ:Ty}:∀{n:Nat} {cs:List PV} {xs:List (El τ)} {us:List Value},Zu τ n cs=some xs→F2 (C1 w E X h β) cs us→xs.length=n∧F2 (Ri w E X) (Ua τ xs) us
  |0,[],xs,us,hd,hF=>by
   simp only [Zu,Option.some.injEq] at hd
   subst hd
   rw [hF.nil_inv]
   exact ⟨rfl,F2.nil⟩
  |n+1,cs,xs,us,hd,hF=>by
   unfold Zu at hd
   split at hd
   ·rename_i x l h1 h2
    injection hd with hd
    subst hd
    have q1:=F4 h1 (hF.part 0 (sz τ))
    have e:(cs.drop (sz τ)).length=us.length-sz τ:=by rw [List.length_drop,hF.1]
    have q2:=hF.part (sz τ) (us.length-sz τ)
    rw [List.take_of_length_le (by rw [e];exact Nat.le_refl _),List.take_of_length_le (by simp)] at q2
    obtain ⟨q3,q4⟩:=E5 h2 q2
    refine ⟨by simp [q3],?_⟩
    rw [In,←List.take_append_drop (sz τ) us]
    simp only [List.drop_zero] at q1
    exact q1.app q4
   ·cases hd
def Zo (a:Act):Nat→List Operand→List (Nat×Value)
  |_,[]=>[]
  |k,x::r=>(k,a.eval x)::Zo a (k+1) r
theorem XP {a:Act}:∀{k:Nat} {l:List (Nat×Operand)} {xs:List Operand},Xu k l=some xs→l.map (fun q=>(q.1,a.eval q.2))=Zo a k xs∧xs.length=l.length
  |k,[],xs,h=>by
   simp only [Xu,Option.some.injEq] at h
   subst h
   exact ⟨rfl,rfl⟩
  |k,(i,x)::r,xs,h=>by
   unfold Xu at h
   cases hb:Nat.beq i k with
   |false=>rw [hb] at h;cases h
   |true =>
    rw [hb] at h
    have:=Nat.eq_of_beq_eq_true hb
    subst this
    simp only [cond_true] at h
    split at h
    ·rename_i l hl
     injection h with h
     subst h
     obtain ⟨h1,h2⟩:=XP (a:=a) hl
     exact ⟨by simp only [List.map_cons,Zo,h1],by simp [h2]⟩
    ·cases h
theorem F5 (S:Oa C st a w β) {s:Nat} (h0:0<s):∀{xs:List Operand} {cs:List PV},Yu st.t s xs=some cs→∃us,F2 (C1 w (Da st.h β) C.X st.h β) cs us∧us.length=xs.length*s∧∀k (pre rest:List Value),pre.length=k*s→rest.length=xs.length*s→Instr.fill (fun i=>some (i*s,s)) (pre++rest).toArray (Zo a k xs)=some (pre++us).toArray
  |[],cs,h=>by
   simp only [Yu,Option.some.injEq] at h
   subst h
   exact ⟨[],F2.nil,by simp,fun k pre rest _ hr=>by
     have:rest=[]:=List.length_eq_zero_iff.1 (by simpa using hr)
     subst this
     rfl⟩
  |x::r,cs,h=>by
   unfold Yu at h
   split at h
   ·rename_i v l hv hl
    cases hq:(Nat.beq (Ib v).length s&&(Ib v).all Te) with
    |false=>rw [hq] at h;cases h
    |true =>
     rw [hq] at h
     injection h with h
     subst h
     simp only [Bool.and_eq_true] at hq
     obtain ⟨q1,q2⟩:=hq
     have q1:=Nat.eq_of_beq_eq_true q1
     obtain ⟨us,h1,h2,h3⟩:=Mx (S.op hv) q2
     obtain ⟨us',h4,h5,h6⟩:=F5 S h0 hl
     have hul:us.length=s:=by rw [h2.1,q1]
     refine ⟨us++us',h2.app h4,by rw [List.length_append,hul,h5,List.length_cons,Nat.succ_mul];omega,fun k pre rest hp hr=>?_⟩
     rw [List.length_cons,Nat.succ_mul] at hr
     have:=T3 (place:=fun i=>some (i*s,s)) (cells:=(pre++rest).toArray) (i:=k) (off:=k*s) (size:=s) (v:=a.eval x) (us:=us) (rest:=Zo a (k+1) r) rfl h1 hul (by simp;omega)
     rw [Zo,this]
     have e:(pre++rest).toArray.toList.take (k*s)++us++(pre++rest).toArray.toList.drop (k*s+s)=(pre++us)++rest.drop s:=by
       rw [←hp,List.take_left,List.drop_append,List.drop_of_length_le (by omega),List.nil_append,Nat.add_sub_cancel_left]
     rw [e,h6 (k+1) (pre++us) (rest.drop s) (by rw [List.length_append,hp,hul,Nat.succ_mul]) (by rw [List.length_drop];omega)]
     rw [List.append_assoc]
   ·cases h
theorem kQ (H:Qb P tab) {t e:TypeId} {i:TI} {n:Nat} {parts:Array (Nat×Operand)} {xs:List Operand} {cs:List PV} {τ:Ty} {bytes:Nat} {ys:List (El τ)} (ho:o.op=.buildSlice t n parts) (hi:tab t=some i) (he:i.elem=some (e,τ,bytes)) (hc:Xu 0 parts.toList=some xs) (hn:xs.length=n) (hs:n*sz τ≤16777216)
    (hcs:Yu st.t (sz τ) xs=some cs) (hd:Zu τ n (Qc cs st cs).2=some ys) (hA:(!τ.u||(Nat.beq n 0||(Nat.beq n 1&&Am st.h τ 0 cs)))=true):Aj P true o st (St.put ⟨(Qc cs st cs).1.t,(Qc cs st cs).1.h++[.row e τ ys]⟩ o.dst (.own (Qc cs st cs).1.h.length)):=fun C a w β S0 hdst K Q' hK=>by
  have T:=H t i hi
  obtain ⟨hund,⟨inf,z,h1,h2,h3,h4,h5⟩,hsm⟩:=T.el e τ bytes he
  obtain ⟨us,hF,hul,hfill⟩:=F5 S0 (Pf τ) hcs
  have h20:=hF
  have hocc:∀(k:Nat) p n,Mb w (Qc cs st cs).1.h β k p n→Mb w st.h β k p n:=fun _ _ _ h=>Xj _ _ h
  have hdd:∀k2,.own k2∈cs→(∃t σ ys,st.h[k2]? =some (.row t σ ys))→(Qc cs st cs).1.h[k2]? =some .dead:=fun k2 hm hr=>Yj _ _ hm hr
  obtain ⟨S,hF,hst0⟩:=Wj cs S0 cs hF
  generalize Qc cs st cs=fz at *
  obtain ⟨st1,cs1⟩:=fz
  simp only at *
  obtain ⟨hyl,hF⟩:=E5 hd hF
  have hsz:=Pf τ
  have hbl:Below w.heap.size w (w.alloc (.cells us.toArray e)):=(Below.refl _ _).alloc (Nat.le_refl _) _
  obtain ⟨S1,hst,hb⟩:Oa C ⟨st1.t,st1.h++[.row e τ ys]⟩ a (w.alloc (.cells us.toArray e)) (β++[(w.heap.size,n)])∧Gb w st.h β (w.alloc (.cells us.toArray e)) (st1.h++[.row e τ ys]) (β++[(w.heap.size,n)])∧Below w.heap.size w (w.alloc (.cells us.toArray e)):=by
    have hmx:n≤maxLen:=by unfold maxLen;have:n*1≤n*sz τ:=Nat.mul_le_mul_left _ hsz;omega
    have plain:(Ca.row e τ ys).nu=true→Oa C ⟨st1.t,st1.h++[.row e τ ys]⟩ a (w.alloc (.cells us.toArray e)) (β++[(w.heap.size,n)])∧Gb w st.h β (w.alloc (.cells us.toArray e)) (st1.h++[.row e τ ys]) (β++[(w.heap.size,n)])∧Below w.heap.size w (w.alloc (.cells us.toArray e)):=fun hN=>by
      obtain ⟨q1,q2,q3⟩:=N4 S (t:=e) (τ:=τ) (n:=n) hyl hF (Ji hF) hmx hN
      exact ⟨q1,hst0.trans q2,q3⟩
    cases hu:τ.u with
    |false=>exact plain (KH _ hu)
    |true =>
     simp only [hu,Bool.not_true,Bool.false_or,Bool.or_eq_true,Bool.and_eq_true] at hA
     rcases hA with hA|⟨hn1,hA⟩
     ·have:=Nat.eq_of_beq_eq_true hA
      subst this
      have:=List.length_eq_zero_iff.1 hyl
      subst this
      exact plain RP
     ·have:=Nat.eq_of_beq_eq_true hn1
      subst this
      have hl:=S.heap.len
      have hlast:(β++[(w.heap.size,1)])[st1.h.length]? =some (w.heap.size,1):=Bm S.heap _
      have hO:(st1.h++[Ca.row e τ ys])[st1.h.length]? =some (.row e τ ys):=by rw [List.getElem?_append_right (Nat.le_refl _),Nat.sub_self];rfl
      have hnew:(w.alloc (.cells us.toArray e)).heap[w.heap.size]? =some (.cells us.toArray e (0,0)):=heap_alloc_new w _
      have hlus:us.length=sz τ:=by rw [hul,hn];omega
      have key:∀(q:Nat×Nat) (σ:Ty) (u:Value) (n:Nat),Va (w.alloc (.cells us.toArray e)) (st1.h++[.row e τ ys]) (β++[(w.heap.size,1)]) st1.h.length q σ u→Jc u n→q.1=Yb τ∧∃k2,.own k2∈cs∧Ig τ 0 cs=some k2∧(∃t σ ys,st.h[k2]? =some (.row t σ ys))∧((q.2=0∧Da st.h β n∧Gg w σ u)∨∃jj,q.2=jj+1∧Va w st.h β k2 (jj,0) σ u):=fun q σ u m ho hs=>by
        obtain ⟨t2,τ2,ys2,b2,c2,us2,junk2,g1,g2,g3,g4,g5,g6⟩:=ho
        rw [hO] at g1
        injection g1 with g1
        injection g1 with e1 e2 e3
        subst e1 e2
        have e3:=eq_of_heq e3
        subst e3
        rw [hlast] at g2
        injection g2 with g2;injection g2 with e1 e2
        subst e1 e2
        rw [hnew] at g4
        injection g4 with g4;injection g4 with e1
        have e1:=congrArg Array.toList e1
        simp only [List.toList_toArray] at e1
        have hl2:us2.length=us.length:=by rw [g5,hyl,Nat.one_mul,hlus]
        have e2:us++[]=us2++junk2:=by rw [List.append_nil];exact e1
        have:=Qf e2 hl2.symm
        subst this
        have inside:∀x m,us[Yb τ]? =some x→Jc x m→∃k2,.own k2∈cs∧Ig τ 0 cs=some k2∧(∃t σ ys c,st.h[k2]? =some (.row t σ ys)∧β[k2]? =some (m,c)∧0<c)∧Gg w (Fi τ) x∧(τ=.udb→∀o len c j u2,x=.slice (some ⟨m,o,none⟩) len c→j<len*3→j % 3=2→w.cell? ⟨m,o+j,none⟩=some u2→Va w st.h β k2 (j,0) .en u2):=fun x m hx hsx=>by
          have hl:Yb τ-0<cs.length:=by rw [←h20.1];exact (List.getElem?_eq_some_iff.1 hx).1
          have hv:=List.getElem?_eq_getElem hl
          obtain ⟨k2,q1,q2,q3,q4⟩:=L4 S0.heap (P4 hu hA (Nat.zero_le _) hv) (h20.2 _ _ _ hv hx) hsx
          rw [q1] at hv
          exact ⟨k2,List.mem_of_getElem? hv,by unfold Ig;rw [if_pos (Nat.zero_le _),hv],q2,q3,q4⟩
        rcases g6 with ⟨_,g7,g8,g9,g10⟩|⟨rfl,rfl,b1,o1,len,c1,jj,g7,g8,g9,g11,g10⟩
        ·have hlt:=(List.getElem?_eq_some_iff.1 g8).1
         rw [Nat.mod_eq_of_lt (by omega)] at g10
         rw [g10] at g8
         obtain ⟨k2,q1,q2,⟨t3,σ3,ys3,c3,q3,q6,q7⟩,q5,_⟩:=inside u m g8 hs
         exact ⟨g10,k2,q1,q2,⟨_,_,_,q3⟩,.inl ⟨g7,⟨k2,_,c3,q3,q7,q6⟩,g9▸q5⟩⟩
        ·have hlt:=(List.getElem?_eq_some_iff.1 g7).1
         have h1:q.1=0:=by simp only [sz] at hlus;omega
         rw [h1] at g7
         obtain ⟨k2,q1,q2,⟨t3,σ3,ys3,c3,q3,q6,q7⟩,q5,q8⟩:=inside _ b1 g7 ⟨o1,len,c1,rfl,by omega⟩
         have hlb:b1<w.heap.size:=Da.lt S0.heap ⟨k2,_,c3,q3,q7,q6⟩
         exact ⟨h1,k2,q1,q2,⟨_,_,_,q3⟩,.inr ⟨jj,g8,q8 rfl o1 len c1 jj u rfl g9 g11 ((World.cell?_of_block (a:=⟨b1,o1+jj,none⟩) (hbl.block b1 hlb)).symm.trans g10)⟩⟩
      refine (Jb.newU S0 hst0 hocc S (w':=w.alloc (.cells us.toArray e)) (o:=.row e τ ys) (B:=w.heap.size) (c:=1) hbl (fun _=>Nat.le_refl _) (fun E' hE h' β' hle hβ hl=>⟨_,_,hl,fun h0=>List.length_eq_zero_iff.1 (hyl.trans h0),hmx,fun _=>⟨us,[],by rw [List.append_nil];exact heap_alloc_new w _,hF.mono fun v u h=>h.keep (fun b hb' _=>hbl.block b hb') hbl.size hE (fun _ _ _ h=>h),Ji hF,by rw [List.append_nil,hF.1,Kb,hyl]⟩⟩) (Ii (Ig τ 0 cs) st1.h.length (Yb τ)) (fun q n ⟨σ,u,ho,hs⟩=>?_) (fun q q' n ⟨σ,u,ho,hs⟩ ⟨σ',u',ho',hs'⟩ hq=>?_) (fun q σ u n ho hs=>?_)).imp id fun h=>⟨h,hbl⟩
      ·obtain ⟨r1,k2,r2,r3,r4,r5⟩:=key q σ u n ho hs
       have hd:=hdd k2 r2 r4
       have e:Ii (Ig τ 0 cs) st1.h.length (Yb τ) q=if q.2=0 then none else some (k2,(q.2-1,0)):=by
         unfold Ii
         rw [r3]
         dsimp only
         rw [if_pos r1]
       rw [e]
       rcases r5 with ⟨z1,z2,_⟩|⟨jj,z1,z2⟩
       ·rw [if_pos z1]
        exact ⟨fun _ _ h=>(by cases h),fun _=>z2⟩
       ·rw [if_neg (by omega)]
        refine ⟨fun k0 p0 h=>?_,fun h=>by cases h⟩
        injection h with h
        injection h with h1 h2
        subst h1 h2
        refine ⟨⟨σ,u,by rw [show q.2-1=jj by omega];exact z2,hs⟩,fun o _ h=>?_⟩
        rw [List.getElem?_append_left (List.getElem?_eq_some_iff.1 hd).1,hd] at h
        injection h with h
        exact h.symm
      ·obtain ⟨r1,k2,r2,r3,r4,r5⟩:=key q σ u n ho hs
       obtain ⟨z1,k3,z2,z3,z4,z5⟩:=key q' σ' u' n ho' hs'
       refine Prod.ext (r1.trans z1.symm) ?_
       unfold Ii at hq
       rw [r3] at hq
       dsimp only at hq
       rw [if_pos r1,if_pos z1] at hq
       split at hq<;>split at hq
       ·omega
       ·cases hq
       ·cases hq
       ·injection hq with hq
        have:=(Prod.mk.inj (Prod.mk.inj hq).2).1
        omega
      ·obtain ⟨r1,k2,r2,r3,r4,r5⟩:=key q σ u n ho hs
       rcases r5 with ⟨z1,z2,z3⟩|⟨jj,z1,z2⟩
       ·exact z3.keep hs (hbl.block n (Da.lt S0.heap z2))
       ·have h4:=De S0.heap.ok z2 hs
        exact (S0.heap.pl k2 _ σ u n z2 hs).keep hs (hbl.block n h4.1)
  have hm:(parts.map fun (i,x)=>(i,a.eval x)).toList=Zo a 0 xs:=by
    rw [←(XP (a:=a) hc).1];simp
  have hr:(execOp a.eval o).run P w=.ok (.value (.slice (some ⟨w.heap.size,0,none⟩) n n)) (w.alloc (.cells us.toArray e)):=by
    rcases Nat.eq_zero_or_pos n with h0|hpos
    ·subst h0
     have hus:us=[]:=List.length_eq_zero_iff.1 (by rw [hul,hn,Nat.zero_mul])
     have hxs:xs=[]:=List.length_eq_zero_iff.1 hn
     have hparts:parts= #[]:=by
       have:=(XP (a:=a) hc).2
       rw [hxs] at this
       have h0:parts.toList=[]:=List.length_eq_zero_iff.1 this.symm
       exact Tk h0
     subst hus hparts
     simp [execOp,ho,Instr.buildSlice,Zi T he,Tj T he,Instr.fill,newRow,Array.range_zero']
    ·have hnp:0<n*sz τ:=Nat.mul_pos hpos hsz
     have hf:=hfill 0 [] ((Array.range (n*inf.size)).map (z.cells[· % z.cells.size]!)).toList (by simp) (by simp [h3,hn])
     simp only [List.nil_append,Array.toArray_toList] at hf
     have:=run_buildSlice (P:=P) w t e n (parts.map fun (i,x)=>(i,a.eval x)) us.toArray inf z hund h1 h2 (by rw [h3];omega) (by rw [h3];omega) (by rw [hm,h3];rw [h3] at hf;exact hf)
     simp [execOp,ho,this]
  unfold Oper.wp
  rw [hr]
  refine hK _ _ _ (S1.putL hdst (v:=.own st1.h.length) (B5 S.heap hyl (fun _=>rfl) (fun h=>D5 S.heap S.xlt h ?_))) (by rw [Cf];exact hst) fun _=>hb
  exact List.length_eq_zero_iff.1 (by rw [hul,hn,h,Nat.zero_mul])
def NH (st:St) (i:TI) (v:PV):PV→Option St
  | .ptr k p=>match st.h[k]? with
    |some (.box t' cs)=>bif (Ib v).all Te&&(Nat.beq (Ib v).length i.size&&Nat.ble (p+i.size) cs.length) then some ⟨st.t,st.h.set k (.box t' (wr cs p (Ib v)))⟩ else none
    |_=>none
  | .ept k j _ p=>match (Qc (Ib v) st (Ib v)).1.h[k]? with
    |some (.row t' τ xs)=>(match Qx τ (wr (So (cells τ (Ba τ xs j))) p (Qc (Ib v) st (Ib v)).2) with
     |some e=>bif (Ib v).all Te&&(Nat.beq (Ib v).length i.size&&Nat.ble (p+i.size) (sz τ))&&Am st.h τ p (Ib v) then some ⟨(Qc (Ib v) st (Ib v)).1.t,(Qc (Ib v) st (Ib v)).1.h.set k (.row t' τ (xs.set j e))⟩ else none
     |none=>none)
    |_=>none
  |_=>none
def G5 (st:St) (e:TypeId) (τ:Ty) (n:Nat) (parts:List (Nat×Operand)):Option (St×PV):=match Xu 0 parts with
  |some xs=>(match Yu st.t (sz τ) xs with
   |some cs=>(match Zu τ n (Qc cs st cs).2 with
    |some ys=>bif Nat.beq xs.length n&&Nat.ble (n*sz τ) 16777216&&(!τ.u||(Nat.beq n 0||(Nat.beq n 1&&Am st.h τ 0 cs))) then some (⟨(Qc cs st cs).1.t,(Qc cs st cs).1.h++[.row e τ ys]⟩,.own (Qc cs st cs).1.h.length) else none
    |none=>none)
   |none=>none)
  |none=>none
def OH (h:List Ca) (τ:Ty):PV→Option (Nat×List (El τ))
  | .own j=>match h[j]? with
    |some (.row _ σ ys)=>(match Ph σ τ ys with|some zs=>some (j,zs)|none=>none)
    |_=>none
  |_=>none
theorem YP {h:List Ca} {τ:Ty} {v:PV} {j:Nat} {ys:List (El τ)} (hr:OH h τ v=some (j,ys)):v=.own j∧∃t,h[j]? =some (.row t τ ys):=by
  unfold OH at hr
  split at hr
  ·split at hr
   ·rename_i hj
    split at hr
    ·rename_i zs hz
     injection hr with hr
     obtain ⟨rfl,rfl⟩:=Prod.mk.inj hr
     obtain ⟨e,he⟩:=Mn hz
     subst e
     subst he
     exact ⟨rfl,_,hj⟩
    ·cases hr
   ·cases hr
  ·cases hr
def ZP (st:St) (e:TypeId) (σ:Ty) (v:PV):PV→Option (Bool×Bool×St×Option PV)
  | .own k=>match st.h[k]? with
    |some (.row t' τ xs)=>(match OH st.h τ v with
     |some (j,ys)=>bif Nat.beq t' e&&Nat.beq (sz τ) (sz σ)&&!(Nat.beq k j) then some (decide (xs.length+ys.length≤33554432),false,⟨(frz j st).t,(frz j st).h.set k .dead++[.row t' τ (xs++ys)]⟩,some (.own (frz j st).h.length)) else none
     |none=>none)
    |_=>none
  | .im .nil=>match OH st.h σ v with
    |some (j,ys)=>some (decide (ys.length≤33554432),true,⟨(frz j st).t,(frz j st).h++[.row e σ ys]⟩,some (.own (frz j st).h.length))
    |none=>none
  |_=>none
def BQ (st:St) (e:TypeId) (σ:Ty) (v:PV):PV→Option (Bool×Bool×St×Option PV)
  | .own k=>match st.h[k]? with
    |some (.row t' τ xs)=>(match Yo τ st.h v with
     |some ys=>bif Nat.beq t' e&&Nat.beq (sz τ) (sz σ)&&!τ.u then some (decide (xs.length+ys.length≤33554432),false,⟨st.t,st.h.set k .dead++[.row t' τ (xs++ys)]⟩,some (.own st.h.length)) else none
     |none=>none)
    |_=>none
  | .im .nil=>match Yo σ st.h v with
    |some ys=>some (decide (ys.length≤33554432),true,⟨st.t,st.h++[.row e σ ys]⟩,some (.own st.h.length))
    |none=>none
  |_=>none
def Zk (tab:TypeId→Option TI) (st:St) (op:Op) (d:Option Nat):Option (Bool×Bool×St×Option PV):=match op with
  | .box t x=>match Za st.t x with|some v=>(bif (Ib v).all Te then some (true,true,⟨st.t,st.h++[.box t (Ib v)]⟩,some (.ptr st.h.length 0)) else none)|none=>none
  | .alloc t=>match tab t with|some i=>(match i.zero with|some zs=>some (true,true,⟨st.t,st.h++[.box t (zs.map Vl)]⟩,some (.ptr st.h.length 0))|none=>none)|none=>none
  | .store t x y=>match d,Za st.t x,Za st.t y,tab t with
    |none,some q,some v,some i=>(match NH st i v q with|some st'=>some (true,false,st',none)|none=>none)
    |_,_,_,_=>none
  | .makeSlice t x y=>match Za st.t x,Za st.t y,tab t with
    |some (.im (.s (.int _ a))),some (.im (.s (.int _ b))),some i=>(match i.elem with
     |some (e,τ,_)=>some (decide (a=b)&&(decide (0≤a)&&decide (a≤16777216)),true,⟨st.t,st.h++[.row e τ (List.replicate a.toNat (Oh τ))]⟩,some (.own st.h.length))
     |none=>none)
    |_,_,_=>none
  | .buildSlice t n parts=>match tab t with
    |some i=>(match i.elem with
     |some (e,τ,_)=>(match G5 st e τ n parts.toList with|some (st',v)=>some (true,true,st',some v)|none=>none)
     |none=>none)
    |none=>none
  | .call c=>match c.callee with
    | .builtin .append=>match c.args.toList,c.argTypes.toList with
      |[s,x],[t,t']=>(match Za st.t s,Za st.t x,tab t with
       |some u,some v,some i=>(match i.elem with
        |some (e,σ,_)=>bif Nat.beq t t' then (bif σ.u then ZP st e σ v u else BQ st e σ v u) else none
        |none=>none)
       |_,_,_=>none)
      |_,_=>none
    |_=>none
  | .slice t x l m (some y)=>match Za st.t x,tab t,Uj st.t l 0,Uj st.t m 1,Za st.t y with
    |some v,some i,some lo,some mo,some (.im (.s (.int .i64 z)))=>(match i.elem with
     |some (e,τ,_)=>bif VP v&&(decide (lo=0)&&(decide (mo=0)&&decide (z=0))) then some (true,true,⟨st.t,st.h++[.row e τ []]⟩,some (.own st.h.length)) else none
     |none=>none)
    |_,_,_,_,_=>none
  |_=>none
def Ee (st':St) (d:Option Nat):Option PV→St
  |some v=>st'.put d v
  |none=>st'
theorem I5 (H:Qb P tab) {c bl:Bool} {st':St} {v:Option PV} (h:Zk tab st o.op o.dst=some (c,bl,st',v)) (hc:c=true):Aj P bl o st (Ee st' o.dst v):=by
  unfold Zk at h
  split at h
  ·rename_i t x ho
   split at h
   ·rename_i v' hv
    cases hq:(Ib v').all Te with
    |false=>rw [hq] at h;cases h
    |true =>
     rw [hq] at h
     simp only [cond_true,Option.some.injEq,Prod.mk.injEq] at h
     obtain ⟨_,rfl,rfl,rfl⟩:=h
     exact jZ ho hv hq
   ·cases h
  ·rename_i t ho
   split at h
   ·rename_i i hi
    split at h
    ·rename_i zs hz
     simp only [Option.some.injEq,Prod.mk.injEq] at h
     obtain ⟨_,rfl,rfl,rfl⟩:=h
     exact kA H ho hi hz
    ·cases h
   ·cases h
  ·rename_i t x y ho
   split at h
   ·rename_i q v' i hd hx hy hi
    split at h
    ·rename_i st1 hs
     simp only [Option.some.injEq,Prod.mk.injEq] at h
     obtain ⟨_,rfl,rfl,rfl⟩:=h
     unfold NH at hs
     split at hs
     ·rename_i k p
      split at hs
      ·rename_i t' cs hk
       cases hq:((Ib v').all Te&&(Nat.beq (Ib v').length i.size&&Nat.ble (p+i.size) cs.length)) with
       |false=>rw [hq] at hs;cases hs
       |true =>
        rw [hq] at hs
        injection hs with hs
        subst hs
        simp only [Bool.and_eq_true] at hq
        exact kB H ho hi hx hy hq.1 (Nat.eq_of_beq_eq_true hq.2.1) hk (Nat.le_of_ble_eq_true hq.2.2) hd
      ·cases hs
     ·rename_i k j z p
      split at hs
      ·rename_i t' τ xs hk
       split at hs
       ·rename_i e hdec
        cases hq:((Ib v').all Te&&(Nat.beq (Ib v').length i.size&&Nat.ble (p+i.size) (sz τ))&&Am st.h τ p (Ib v')) with
        |false=>rw [hq] at hs;cases hs
        |true =>
         rw [hq] at hs
         injection hs with hs
         subst hs
         simp only [Bool.and_eq_true] at hq
         exact kF H ho hi hx hy hq.1.1 (Nat.eq_of_beq_eq_true hq.1.2.1) (Nat.le_of_ble_eq_true hq.1.2.2) hd hk hdec hq.2
       ·cases hs
      ·cases hs
     ·cases hs
    ·cases h
   ·cases h
  ·rename_i t x y ho
   split at h
   ·rename_i kl p kc q i hx hy hi
    split at h
    ·rename_i e τ bytes he
     simp only [Option.some.injEq,Prod.mk.injEq] at h
     obtain ⟨h1,rfl,rfl,rfl⟩:=h
     subst h1
     simp only [Bool.and_eq_true,decide_eq_true_eq] at hc
     obtain ⟨rfl,h0,h1⟩:=hc
     have hp:((p.toNat:Nat):Int)=p:=Int.toNat_of_nonneg h0
     exact kP H ho hi he (by rw [hp];exact hx) (by rw [hp];exact hy) (by omega)
    ·cases h
   ·cases h
  ·rename_i t n parts ho
   split at h
   ·rename_i i hi
    split at h
    ·rename_i e τ bytes he
     split at h
     ·rename_i st1 v1 hb
      simp only [Option.some.injEq,Prod.mk.injEq] at h
      obtain ⟨h1,rfl,rfl,rfl⟩:=h
      unfold G5 at hb
      split at hb
      ·rename_i xs hxs
       split at hb
       ·rename_i cs hcs
        split at hb
        ·rename_i ys We
         cases hq:(Nat.beq xs.length n&&Nat.ble (n*sz τ) 16777216&&(!τ.u||(Nat.beq n 0||(Nat.beq n 1&&Am st.h τ 0 cs)))) with
         |false=>rw [hq] at hb;cases hb
         |true =>
          rw [hq] at hb
          simp only [cond_true,Option.some.injEq,Prod.mk.injEq] at hb
          obtain ⟨rfl,rfl⟩:=hb
          rw [Bool.and_eq_true,Bool.and_eq_true] at hq
          exact kQ H ho hi he hxs (Nat.eq_of_beq_eq_true hq.1.1) (Nat.le_of_ble_eq_true hq.1.2) hcs We hq.2
        ·cases hb
       ·cases hb
      ·cases hb
     ·cases h
    ·cases h
   ·cases h
  ·rename_i cl ho
   split at h
   ·rename_i hcal
    obtain ⟨callee,args,argTypes⟩:=cl
    simp only at hcal h
    subst hcal
    split at h
    ·rename_i s x t t' h1 h2
     have h1:=Tk h1
     have h2:=Tk h2
     subst h1 h2
     split at h
     ·rename_i u v' i h3 h4 hi
      split at h
      ·rename_i e σ bytes he
       cases hq:Nat.beq t t' with
       |false=>rw [hq] at h;cases h
       |true =>
        rw [hq] at h
        have:=Nat.eq_of_beq_eq_true hq
        subst this
        simp only [cond_true] at h
        cases hsu:σ.u with
        |true =>
         rw [hsu] at h
         simp only [cond_true] at h
         unfold ZP at h
         split at h
         ·rename_i k
          split at h
          ·rename_i t2 τ xs hk
           split at h
           ·rename_i j ys We
            obtain ⟨rfl,tj,hj⟩:=YP We
            cases hq2:(Nat.beq t2 e&&Nat.beq (sz τ) (sz σ)&&!(Nat.beq k j)) with
            |false=>rw [hq2] at h;cases h
            |true =>
             rw [hq2] at h
             simp only [cond_true,Option.some.injEq,Prod.mk.injEq] at h
             obtain ⟨h5,rfl,rfl,rfl⟩:=h
             subst h5
             simp only [Bool.and_eq_true,Bool.not_eq_true'] at hq2
             have:=Nat.eq_of_beq_eq_true hq2.1.1
             subst this
             exact fun C a w β S hd K Q' hK=>X4 H ho hi he (Nat.eq_of_beq_eq_true hq2.1.2) h3 hk h4 hj (fun e=>by have h9:=hq2.2;rw [e,Nat.beq_refl] at h9;cases h9) (oT hc) C a w β S hd K Q' fun u w' β' z1 z2 _=>hK u w' β' z1 z2 fun h=>by cases h
           ·cases h
          ·cases h
         ·split at h
          ·rename_i j ys We
           obtain ⟨rfl,tj,hj⟩:=YP We
           simp only [Option.some.injEq,Prod.mk.injEq] at h
           obtain ⟨h5,rfl,rfl,rfl⟩:=h
           subst h5
           exact kL H ho hi he h3 h4 hj (oT hc)
          ·cases h
         ·cases h
        |false =>
        rw [hsu] at h
        simp only [cond_false] at h
        unfold BQ at h
        split at h
        ·rename_i k
         split at h
         ·rename_i t2 τ xs hk
          split at h
          ·rename_i ys We
           cases hq2:(Nat.beq t2 e&&Nat.beq (sz τ) (sz σ)&&!τ.u) with
           |false=>rw [hq2] at h;cases h
           |true =>
            rw [hq2] at h
            simp only [cond_true,Option.some.injEq,Prod.mk.injEq] at h
            obtain ⟨h5,rfl,rfl,rfl⟩:=h
            subst h5
            simp only [Bool.and_eq_true,Bool.not_eq_true'] at hq2
            have:=Nat.eq_of_beq_eq_true hq2.1.1
            subst this
            exact kI H ho hi he (Nat.eq_of_beq_eq_true hq2.1.2) h3 hk h4 We (oT hc) hq2.2
          ·cases h
         ·cases h
        ·split at h
         ·rename_i ys We
          simp only [Option.some.injEq,Prod.mk.injEq] at h
          obtain ⟨h5,rfl,rfl,rfl⟩:=h
          subst h5
          exact kJ H ho hi he h3 h4 We (oT hc) hsu
         ·cases h
        ·cases h
      ·cases h
     ·cases h
    ·cases h
   ·cases h
  ·rename_i t x l m y ho
   split at h
   ·rename_i v' i lo mo z hx hi hl hm hy
    split at h
    ·rename_i e τ bytes he
     cases hq:(VP v'&&(decide (lo=0)&&(decide (mo=0)&&decide (z=0)))) with
     |false=>rw [hq] at h;cases h
     |true =>
      rw [hq] at h
      simp only [cond_true,Option.some.injEq,Prod.mk.injEq] at h
      obtain ⟨_,rfl,rfl,rfl⟩:=h
      simp only [Bool.and_eq_true,decide_eq_true_eq] at hq
      obtain ⟨q1,rfl,rfl,rfl⟩:=hq
      exact kM H ho hi he hx q1 hl hm hy
    ·cases h
   ·cases h
  ·cases h
end
end Go.Proofs.YtknkhdjhongklaaGreat
namespace Go.Proofs.YtknkhdjhongklaaGreat
open Go.RowKit
inductive Ho where
  |int|bool|str
  |ls (τ:Ty)
abbrev kR:Ho→Type
  | .int=>Int
  | .bool=>Bool
  | .str=>ByteArray
  | .ls τ=>List (El τ)
abbrev HL:List Ho→Type
  |[]=>Unit
  |h::r=>kR h×HL r
inductive Hv where
  |int (x:Int)
  |bool (b:Bool)
  |str (s:ByteArray)
  |ls (τ:Ty) (xs:List (El τ))
def up:(hs:List Ho)→HL hs→List Hv
  |[],_=>[]
  | .int::r,s=>.int s.1::up r s.2
  | .bool::r,s=>.bool s.1::up r s.2
  | .str::r,s=>.str s.1::up r s.2
  | .ls τ::r,s=>.ls τ s.1::up r s.2
def Ef:(hs:List Ho)→List Hv→Option (HL hs)
  |[],[]=>some ()
  | .int::r,.int x::l=>match Ef r l with|some s=>some (x,s)|none=>none
  | .bool::r,.bool x::l=>match Ef r l with|some s=>some (x,s)|none=>none
  | .str::r,.str x::l=>match Ef r l with|some s=>some (x,s)|none=>none
  | .ls τ::r,.ls σ x::l=>match Ph σ τ x,Ef r l with|some x,some s=>some (x,s)|_,_=>none
  |_,_=>none
theorem Rn:∀{hs:List Ho} {l:List Hv} {s:HL hs},Ef hs l=some s→up hs s=l
  |[],[],s,h=>rfl
  | .int::r,.int x::l,s,h=>by
    simp only [Ef] at h
    split at h
    ·rename_i s' hs;injection h with h;subst h;simp only [up,Rn hs]
    ·cases h
  | .bool::r,.bool x::l,s,h=>by
    simp only [Ef] at h
    split at h
    ·rename_i s' hs;injection h with h;subst h;simp only [up,Rn hs]
    ·cases h
  | .str::r,.str x::l,s,h=>by
    simp only [Ef] at h
    split at h
    ·rename_i s' hs;injection h with h;subst h;simp only [up,Rn hs]
    ·cases h
  | .ls τ::r,.ls σ x::l,s,h=>by
    simp only [Ef] at h
    split at h
    ·rename_i x' s' hx hs
     injection h with h;subst h
     obtain ⟨e,he⟩:=Mn hx
     subst e
     subst he
     simp only [up,Rn hs]
    ·cases h
inductive T0 where
  |int (k:IntKind)
  |bool|str
  |sl (g:Bool) (τ:Ty)
inductive T1 where
  |b (t:T0)
  |own (k:Nat)
  |ptr (k o:Nat)
  |at_ (ts:List T0) (o:Nat)
inductive T2 where
  |one (t:T1)
  |agg (ts:List T1)
  |fn (f:FuncId) (ts:List T1)
inductive Tm where
  |c (t:T2)
  |tup (ts:List T2)
inductive OT where
  |dead
  |row (t:TypeId) (τ:Ty)
  |box (t:TypeId) (ts:List T1)
def Rg:T0→List Hv→Option (IV×List Hv)
  | .int k,.int x::r=>some (.s (.int k x),r)
  | .bool,.bool x::r=>some (.s (.bool x),r)
  | .str,.str x::r=>some (.s (.string x),r)
  | .sl g τ,.ls σ xs::r=>match Ph σ τ xs with|some ys=>some (.sl g τ ys,r)|none=>none
  |_,_=>none
def Xf {α β:Type} (f:α→List Hv→Option (β×List Hv)):List α→List Hv→Option (List β×List Hv)
  |[],r=>some ([],r)
  |t::ts,r=>match f t r with
   |some (x,r1)=>(match Xf f ts r1 with|some (xs,r2)=>some (x::xs,r2)|none=>none)
   |none=>none
def Lf:T1→List Hv→Option (PV×List Hv)
  | .b t,r=>match Rg t r with|some (x,r)=>some (.im x,r)|none=>none
  | .own k,r=>some (.own k,r)
  | .ptr k o,r=>some (.ptr k o,r)
  | .at_ ts o,r=>match Xf Rg ts r with|some (xs,r)=>some (.at_ xs o,r)|none=>none
def Ah:T2→List Hv→Option (PV×List Hv)
  | .one t,r=>Lf t r
  | .agg ts,r=>match Xf Lf ts r with|some (xs,r)=>some (.agg xs,r)|none=>none
  | .fn f ts,r=>match Xf Lf ts r with|some (xs,r)=>some (.fn f xs,r)|none=>none
def Bj:Tm→List Hv→Option (PV×List Hv)
  | .c t,r=>Ah t r
  | .tup ts,r=>match Xf Ah ts r with|some (xs,r)=>some (.tup xs,r)|none=>none
def Cm:OT→List Hv→Option (Ca×List Hv)
  | .dead,r=>some (.dead,r)
  | .row t τ,.ls σ xs::r=>match Ph σ τ xs with|some ys=>some (.row t τ ys,r)|none=>none
  | .row _ _,_=>none
  | .box t ts,r=>match Xf Lf ts r with|some (xs,r)=>some (.box t xs,r)|none=>none
def Av:T0→IV→Option (List Hv)
  | .int k,.s (.int k' x)=>bif Kn k' k then some [.int x] else none
  | .bool,.s (.bool x)=>some [.bool x]
  | .str,.s (.string x)=>some [.str x]
  | .sl g τ,.sl g' σ xs=>bif !g||g' then (match Ph σ τ xs with|some ys=>some [.ls τ ys]|none=>none) else none
  | .sl _ τ,.nil=>some [.ls τ []]
  |_,_=>none
def Jg {α β:Type} (f:α→β→Option (List Hv)):List α→List β→Option (List Hv)
  |[],[]=>some []
  |t::ts,x::xs=>match f t x,Jg f ts xs with|some l,some r=>some (l++r)|_,_=>none
  |_,_=>none
def Kg:List Nat→Nat→Bool
  |[],_=>true
  |k::r,j=>bif Nat.beq k j then false else Kg r j
def CQ:(σ τ:Ty)→List (El σ)→Option (List (El τ))
  | .uls,.ls,x=>some x
  | .udb,.db,x=>some x
  | .upk,.pk,x=>some x
  |σ,τ,x=>Ph σ τ x
theorem Bv (τ:Ty) (xs:List (El τ)):Ph τ τ xs=some xs:=by cases τ<;>rfl
theorem DQ {w:World} {E X:Nat→Prop} {g:Bool} {σ τ:Ty} {xs:List (El σ)} {ys:List (El τ)} {u:Value} (h:CQ σ τ xs=some ys) (hr:Ri w E X (.sl g σ xs) u):Ri w E X (.sl g τ ys) u:=by
  unfold CQ at h
  split at h
  ·injection h with h;subst h
   cases hr with
   |sl _ _ _ A cap b o us hA hcap hl hc hr=>exact .sl g .ls _ A cap b o us hA hcap hl hc hr
  ·injection h with h;subst h
   cases hr with
   |sl _ _ _ A cap b o us hA hcap hl hc hr=>exact .sl g .db _ A cap b o us hA hcap hl hc hr
  ·injection h with h;subst h
   cases hr with
   |sl _ _ _ A cap b o us hA hcap hl hc hr=>exact .sl g .pk _ A cap b o us hA hcap hl hc hr
  ·obtain ⟨e,he⟩:=Mn h
   subst e
   subst he
   exact hr
def Dm (gv:Bool) (ρ:List Nat) (h:List Ca):T0→PV→Option (List Hv)
  |t,.im x=>Av t x
  | .sl g τ,.own j=>match h[j]? with
    |some (.row _ σ xs)=>bif (!g||gv)&&Kg ρ j then (match CQ σ τ xs with|some ys=>some [.ls τ ys]|none=>none) else none
    |_=>none
  |_,_=>none
def Dv:List Ca→Nat→Bool
  |h,j=>match h[j]? with|some (.row _ _ _)=>true|_=>false
def Cj (gv:Bool) (ρ:List Nat) (h:List Ca):T1→PV→Option (List Hv)
  | .b t,v=>Dm gv ρ h t v
  | .own k,.own j=>match ρ[k]? with|some i=>bif Nat.beq i j&&Dv h j then some [] else none|none=>none
  | .own k,.im .nil=>match ρ[k]? with|some i=>bif Vb h i then some [] else none|none=>none
  | .ptr k o,.ptr j p=>match ρ[k]? with|some i=>bif Nat.beq i j&&Nat.beq o p then some [] else none|none=>none
  | .at_ ts o,.at_ cs p=>bif Nat.beq o p then Jg Av ts cs else none
  | .at_ ts o,.ptr j p=>match h[j]? with
    |some (.box _ cs)=>bif Nat.beq o p&&Kg ρ j then Jg (Dm gv ρ h) ts cs else none
    |_=>none
  |_,_=>none
def Sn (gv:Bool) (ρ:List Nat) (h:List Ca):T2→PV→Option (List Hv)
  | .agg ts,.agg cs=>Jg (Cj gv ρ h) ts cs
  | .fn f ts,.fn f' cs=>bif Nat.beq f f' then Jg (Cj gv ρ h) ts cs else none
  | .one t,v=>Cj gv ρ h t v
  |_,_=>none
def Sx (gv:Bool) (ρ:List Nat) (h:List Ca):Tm→PV→Option (List Hv)
  | .tup ts,.tup cs=>Jg (Sn gv ρ h) ts cs
  | .c t,v=>Sn gv ρ h t v
  |_,_=>none
def Tx (gv:Bool) (ρ:List Nat) (h:List Ca):OT→Nat→Option (List Hv)
  | .dead,_=>some []
  | .row t τ,j=>match h[j]? with
    |some (.row t' σ xs)=>bif Nat.beq t t' then (match Ph σ τ xs with|some ys=>some [.ls τ ys]|none=>none) else none
    |some (.vrow t' _)=>bif Nat.beq t t' then some [.ls τ []] else none
    |_=>none
  | .box t ts,j=>match h[j]? with
    |some (.box t' cs)=>bif Nat.beq t t' then Jg (Cj gv ρ h) ts cs else none
    |_=>none
structure Zc where
  vs:List Tm
  os:List OT
def Zc.find (S:Zc) (gv:Bool) (ρ:List Nat) (h:List Ca) (vs:List PV):Option (List Hv):=match Jg (Sx gv ρ h) S.vs vs,Jg (Tx gv ρ h) S.os ρ with|some l,some r=>some (l++r)|_,_=>none
def Zc.fill (S:Zc) (l:List Hv):Option (List PV×List Ca):=match Xf Bj S.vs l with
  |some (vs,r)=>(match Xf Cm S.os r with|some (os,[])=>some (vs,os)|_=>none)
  |none=>none
end Go.Proofs.YtknkhdjhongklaaGreat
namespace Go.Proofs.YtknkhdjhongklaaGreat
open Go.RowKit
theorem Tn {α β γ:Type} {f:α→β→Option (List Hv)} {g:α→List Hv→Option (γ×List Hv)} {R:β→Value→Prop} {R':γ→Value→Prop} (H:∀t x l u,f t x=some l→R x u→∃y,(∀r,g t (l++r)=some (y,r))∧R' y u):∀{ts:List α} {xs:List β} {l:List Hv} {us:List Value},Jg f ts xs=some l→F2 R xs us→∃ys,(∀r,Xf g ts (l++r)=some (ys,r))∧F2 R' ys us
  |[],[],l,us,h,hF=>by
   simp only [Jg,Option.some.injEq] at h
   subst h
   rw [hF.nil_inv]
   exact ⟨[],fun r=>rfl,F2.nil⟩
  |[],_::_,l,us,h,hF=>by cases h
  |_::_,[],l,us,h,hF=>by cases h
  |t::ts,x::xs,l,us,h,hF=>by
   simp only [Jg] at h
   split at h
   ·rename_i l1 l2 h1 h2
    injection h with h
    subst h
    obtain ⟨u,us',rfl,hR,hF⟩:=hF.cons_inv
    obtain ⟨y,h3,h4⟩:=H t x l1 u h1 hR
    obtain ⟨ys,h5,h6⟩:=Tn H h2 hF
    exact ⟨y::ys,fun r=>by rw [List.append_assoc,Xf,h3];simp only [h5],F2.cons h4 h6⟩
   ·cases h
theorem Zj {α β γ:Type} {f:α→β→Option (List Hv)} {g:α→List Hv→Option (γ×List Hv)} (H:∀t x l,f t x=some l→∃y,∀r,g t (l++r)=some (y,r)):∀{ts:List α} {xs:List β} {l:List Hv},Jg f ts xs=some l→xs.length=ts.length∧∃ys,(∀r,Xf g ts (l++r)=some (ys,r))∧ys.length=ts.length∧∀(k:Nat) y,ys[k]? =some y→∃t x lk,ts[k]? =some t∧xs[k]? =some x∧f t x=some lk∧∀r,g t (lk++r)=some (y,r)
  |[],[],l,h=>by
   simp only [Jg,Option.some.injEq] at h
   subst h
   exact ⟨rfl,[],fun r=>rfl,rfl,fun k y h=>by simp at h⟩
  |[],_::_,l,h=>by cases h
  |_::_,[],l,h=>by cases h
  |t::ts,x::xs,l,h=>by
   simp only [Jg] at h
   split at h
   ·rename_i l1 l2 h1 h2
    injection h with h
    subst h
    obtain ⟨y,h3⟩:=H t x l1 h1
    obtain ⟨h0,ys,h5,h6,h7⟩:=Zj H h2
    refine ⟨by simp [h0],y::ys,fun r=>by rw [List.append_assoc,Xf,h3];simp only [h5],by simp [h6],fun k z hk=>?_⟩
    cases k with
    |zero=>simp at hk;subst hk;exact ⟨t,x,l1,rfl,rfl,h1,h3⟩
    |succ k=>simpa using h7 k z (by simpa using hk)
   ·cases h
theorem PH:∀{ρ:List Nat} {j:Nat},Kg ρ j=true→∀k:Nat,ρ[k]?≠some j
  |[],j,_,k=>by simp
  |i::r,j,h,k=>by
   simp only [Kg] at h
   cases hb:Nat.beq i j with
   |true=>rw [hb] at h;cases h
   |false =>
    rw [hb] at h
    cases k with
    |zero =>
     intro e
     simp at e
     subst e
     rw [Nat.beq_refl] at hb
     cases hb
    |succ k=>simpa using PH h k
structure Ki (gv:Bool) (ρ:List Nat) (w:World) (E X:Nat→Prop) (h:List Ca) (β:List (Nat×Nat)) (E' X':Nat→Prop) (h':List Ca) (β':List (Nat×Nat)):Prop where
  ok:Pb w E X h β
  hE:∀b,¬E b→¬E' b
  hX:∀b,¬E b→¬X b→¬X' b
  hβ:∀(k j:Nat) p,ρ[k]? =some j→β[j]? =some p→β'[k]? =some p
  hrow:∀(k j:Nat) (t:TypeId) (τ:Ty) (xs':List (El τ)),ρ[k]? =some j→h'[k]? =some (.row t τ xs')→(∃xs:List (El τ),h[j]? =some (.row t τ xs)∧xs.length=xs'.length)∨(Vb h j=true∧xs'=[])
  hlen:∀(k j:Nat),ρ[k]? =some j→k<h'.length∧Vb h' k=false
  hview:∀(j:Nat) (o:Ca) (b c:Nat),h[j]? =some o→Bc o c→β[j]? =some (b,c)→(∀k:Nat,ρ[k]?≠some j)→¬E' b∧(gv=true→¬X' b)
section
variable {gv:Bool} {ρ:List Nat} {w:World} {E X E' X':Nat→Prop} {h h':List Ca} {β β':List (Nat×Nat)}
theorem Ki.ri (M:Ki gv ρ w E X h β E' X' h' β') {x:IV} {u:Value} (hc:Ri w E X x u):Ri w E' X' x u:=hc.keep (fun _ _ _=>rfl) (Nat.le_refl _) (fun b _=>M.hE b) (fun b _=>M.hX b)
theorem J5 (H:∀x u,Ri w E X x u→Ri w E' X' x u) {t:T0} {x:IV} {l:List Hv} {u:Value} (hf:Av t x=some l) (hc:Ri w E X x u):∃y,(∀r,Rg t (l++r)=some (y,r))∧Ri w E' X' y u:=by
  replace hc:=H _ _ hc
  unfold Av at hf
  split at hf
  ·rename_i k k' x
   cases hb:Kn k' k with
   |false=>rw [hb] at hf;cases hf
   |true =>
    rw [hb] at hf
    injection hf with hf;subst hf
    have:=OO hb
    subst this
    exact ⟨_,fun r=>rfl,hc⟩
  ·injection hf with hf;subst hf;exact ⟨_,fun r=>rfl,hc⟩
  ·injection hf with hf;subst hf;exact ⟨_,fun r=>rfl,hc⟩
  ·rename_i g τ g' σ xs
   cases hb:(!g||g') with
   |false=>rw [hb] at hf;cases hf
   |true =>
    rw [hb] at hf
    simp only [cond_true] at hf
    split at hf
    ·rename_i ys hy
     obtain ⟨e,he⟩:=Mn hy
     subst e
     subst he
     injection hf with hf;subst hf
     have hcc:Ph σ σ xs=some xs:=by cases σ<;>rfl
     refine ⟨.sl g σ xs,fun r=>by simp only [List.cons_append,List.nil_append,Rg,hcc],?_⟩
     cases hc with
     |sl _ _ _ A cap b o us hA hcap hl hcc hr=>exact .sl g σ xs A cap b o us (fun h=>⟨(hA h).1,(hA h).2.1,(hA h).2.2.1,fun hg=>(hA h).2.2.2 (by subst hg;simpa using hb)⟩) hcap hl hcc hr
    ·cases hf
  ·rename_i g τ
   injection hf with hf;subst hf
   have hcc:Ph τ τ []=some []:=by cases τ<;>rfl
   refine ⟨.sl g τ [],fun r=>by simp only [List.cons_append,List.nil_append,Rg,hcc],?_⟩
   cases hc
   exact Nn τ
  ·cases hf
theorem Ki.view (M:Ki gv ρ w E X h β E' X' h' β') {j:Nat} {t:TypeId} {σ:Ty} {xs:List (El σ)} {g:Bool} {u:Value} (hj:h[j]? =some (.row t σ xs)) (hn:∀k:Nat,ρ[k]?≠some j) (hg:(!g||gv)=true) (hc:C1 w E X h β (.own j) u):Ri w E' X' (.sl g σ xs) u:=by
  obtain ⟨_,_,_,h2⟩:=hc
  obtain ⟨b,c,A,h3,rfl,h4,h5⟩:=h2 t σ xs hj
  obtain ⟨b',c',h6,h7,h8,h9⟩:=M.ok.ok j _ hj
  rw [h3] at h6
  injection h6 with h6;injection h6 with e1 e2
  subst e1 e2
  rcases Nat.eq_zero_or_pos c with hc|hc
  ·have hx:=h7 hc
   subst hx hc
   exact .sl g σ [] A 0 0 0 [] (fun h=>by simp at h) ⟨Nat.le_refl _,Nat.zero_le _⟩ rfl (fun j u hu=>by simp at hu) (fun j x u hx=>by simp [Ua] at hx)
  ·obtain ⟨us,junk,q1,q2,q3,q4⟩:=h9 hc
   have hlen:xs.length≤c:=by
     have:xs.length*sz σ≤c*sz σ:=by rw [←q4,←Kb,←q2.1];simp
     exact Nat.le_of_mul_le_mul_right this (Pf σ)
   obtain ⟨v1,v2⟩:=M.hview j _ b c hj hc h3 hn
   exact .sl g σ xs A c b 0 us (fun _=>⟨h4 hc,(Array.getElem?_eq_some_iff.1 q1).1,v1,fun hg'=>v2 (by subst hg';simpa using hg)⟩) ⟨hlen,h8⟩ q2.1 (fun j u hu=>by rw [Nat.zero_add];exact Qg q1 hu) (fun j x u hx hu=>M.ri (q2.2 j x u hx hu))
theorem K5 (M:Ki gv ρ w E X h β E' X' h' β') {t:T0} {v:PV} {l:List Hv} {u:Value} (hf:Dm gv ρ h t v=some l) (hc:C1 w E X h β v u):∃y,(∀r,Rg t (l++r)=some (y,r))∧Ri w E' X' y u:=by
  unfold Dm at hf
  split at hf
  ·exact J5 (fun _ _=>M.ri) hf hc
  ·rename_i g τ j
   split at hf
   ·rename_i t' σ xs hj
    cases hb:((!g||gv)&&Kg ρ j) with
    |false=>rw [hb] at hf;cases hf
    |true =>
     rw [hb] at hf
     simp only [cond_true] at hf
     simp only [Bool.and_eq_true] at hb
     split at hf
     ·rename_i ys hy
      injection hf with hf;subst hf
      exact ⟨.sl g τ ys,fun r=>by simp only [List.cons_append,List.nil_append,Rg,Bv],DQ hy (M.view hj (PH hb.2) hb.1 hc)⟩
     ·cases hf
   ·cases hf
  ·cases hf
theorem kS {j:Nat} (hj:Dv h j=true):∃t τ,∃xs:List (El τ),h[j]? =some (.row t τ xs):=by
  cases e:h[j]? with
  |none=>simp [Dv,e] at hj
  |some o=>cases o<;>first|exact ⟨_,_,_,rfl⟩|simp [Dv,e] at hj
theorem QH {j:Nat} (hj:Vb h j=true):∃t τ,h[j]? =some (.vrow t τ):=by
  cases e:h[j]? with
  |none=>simp [Vb,e] at hj
  |some o=>cases o<;>first|exact ⟨_,_,rfl⟩|simp [Vb,e] at hj
theorem RH (M:Ki gv ρ w E X h β E' X' h' β') {t:T1} {v:PV} {l:List Hv} {u:Value} (hf:Cj gv ρ h t v=some l) (hc:C1 w E X h β v u):∃y,(∀r,Lf t (l++r)=some (y,r))∧C1 w E' X' h' β' y u:=by
  unfold Cj at hf
  split at hf
  ·obtain ⟨y,h1,h2⟩:=K5 M hf hc
   exact ⟨.im y,fun r=>by simp only [Lf,h1],h2⟩
  ·rename_i k j
   split at hf
   ·rename_i i hi
    cases hb:(Nat.beq i j&&Dv h j) with
    |false=>rw [hb] at hf;cases hf
    |true =>
     rw [hb] at hf
     injection hf with hf;subst hf
     simp only [Bool.and_eq_true] at hb
     have e:=Nat.eq_of_beq_eq_true hb.1
     subst e
     obtain ⟨t0,τ0,xs0,hr⟩:=kS hb.2
     refine ⟨.own k,fun r=>rfl,(M.hlen k i hi).1,(M.hlen k i hi).2,hc.2.2.1,fun t τ xs' hk=>?_⟩
     rcases M.hrow k i t τ xs' hi hk with ⟨xs,h1,h2⟩|⟨h1,_⟩
     ·obtain ⟨b,c,A,h3,h4,h5,h6⟩:=hc.2.2.2 t τ xs h1
      exact ⟨b,c,A,M.hβ k i _ hi h3,by rw [←h2];exact h4,h5,fun _=>trivial⟩
     ·obtain ⟨_,_,h2⟩:=QH h1
      rw [hr] at h2;cases h2
   ·cases hf
  ·rename_i k
   split at hf
   ·rename_i i hi
    cases hb:Vb h i with
    |false=>rw [hb] at hf;cases hf
    |true =>
     rw [hb] at hf
     injection hf with hf;subst hf
     have hc:Ri w E X .nil u:=hc
     obtain ⟨A0,rfl⟩:∃A0,u=.slice A0 0 0:=by cases hc with|nil A0=>exact ⟨A0,rfl⟩
     obtain ⟨t0,τ0,hv⟩:=QH hb
     obtain ⟨B,hB⟩:=M.ok.ok i _ hv
     refine ⟨.own k,fun r=>rfl,(M.hlen k i hi).1,(M.hlen k i hi).2,⟨_,_,_,rfl⟩,fun t τ xs' hk=>?_⟩
     rcases M.hrow k i t τ xs' hi hk with ⟨xs,h1,h2⟩|⟨_,h2⟩
     ·rw [hv] at h1;cases h1
     ·subst h2
      exact ⟨B,0,A0,M.hβ k i _ hi hB,rfl,fun h=>by omega,fun _=>trivial⟩
   ·cases hf
  ·rename_i k o j p
   split at hf
   ·rename_i i hi
    cases hb:(Nat.beq i j&&Nat.beq o p) with
    |false=>rw [hb] at hf;cases hf
    |true =>
     rw [hb] at hf
     injection hf with hf;subst hf
     simp only [Bool.and_eq_true] at hb
     have e:=Nat.eq_of_beq_eq_true hb.1
     have e2:=Nat.eq_of_beq_eq_true hb.2
     subst e e2
     obtain ⟨b,c,h1,h2⟩:=hc
     exact ⟨.ptr k o,fun r=>rfl,b,c,M.hβ k i _ hi h1,h2⟩
   ·cases hf
  ·rename_i ts o cs p
   cases hb:Nat.beq o p with
   |false=>rw [hb] at hf;cases hf
   |true =>
    rw [hb] at hf
    simp only [cond_true] at hf
    have e:=Nat.eq_of_beq_eq_true hb
    subst e
    obtain ⟨b,p,us,h1,h2,h3,h4,h5⟩:=hc
    obtain ⟨ys,h6,h7⟩:=Tn (R:=Ri w E X) (R':=Ri w E' X') (fun t x l u h hc=>J5 (fun _ _=>M.ri) h hc) hf h5
    exact ⟨.at_ ys o,fun r=>by simp only [Lf,h6],b,p,us,h1,M.hE b h2,h3,h4,h7⟩
  ·rename_i ts o j p
   split at hf
   ·rename_i t' cs hj
    cases hb:(Nat.beq o p&&Kg ρ j) with
    |false=>rw [hb] at hf;cases hf
    |true =>
     rw [hb] at hf
     simp only [cond_true] at hf
     simp only [Bool.and_eq_true] at hb
     have e:=Nat.eq_of_beq_eq_true hb.1
     subst e
     obtain ⟨b,c,h1,rfl⟩:=hc
     obtain ⟨b',c',us,h2,h3,h4,h5⟩:=M.ok.ok j _ hj
     rw [h1] at h2
     injection h2 with h2;injection h2 with e1 e2
     subst e1 e2
     obtain ⟨ys,h6,h7⟩:=Tn (R:=C1 w E X h β) (R':=Ri w E' X') (fun t x l u h hc=>K5 M h hc) hf h4
     refine ⟨.at_ ys o,fun r=>by simp only [Lf,h6],b,0,us,by rw [Nat.zero_add],(M.hview j _ b c hj trivial h1 (PH hb.2)).1,(Array.getElem?_eq_some_iff.1 h3).1,fun i v hv=>by rw [Nat.zero_add];exact Qg (junk:=[]) (by simpa using h3) hv,h7⟩
   ·cases hf
  ·cases hf
theorem L5 (M:Ki gv ρ w E X h β E' X' h' β') {t:T2} {v:PV} {l:List Hv} {u:Value} (hf:Sn gv ρ h t v=some l) (hc:C2 w E X h β v u):∃y,(∀r,Ah t (l++r)=some (y,r))∧C2 w E' X' h' β' y u:=by
  unfold Sn at hf
  split at hf
  ·obtain ⟨us,rfl,h1⟩:=hc
   obtain ⟨ys,h2,h3⟩:=Tn (R:=C1 w E X h β) (R':=C1 w E' X' h' β') (fun t x l u h hc=>RH M h hc) hf h1
   exact ⟨.agg ys,fun r=>by simp only [Ah,h2],us,rfl,h3⟩
  ·rename_i f ts f' cs
   cases hb:Nat.beq f f' with
   |false=>rw [hb] at hf;cases hf
   |true =>
    rw [hb] at hf
    simp only [cond_true] at hf
    have e:=Nat.eq_of_beq_eq_true hb
    subst e
    obtain ⟨us,rfl,h1⟩:=hc
    obtain ⟨ys,h2,h3⟩:=Tn (R:=C1 w E X h β) (R':=C1 w E' X' h' β') (fun t x l u h hc=>RH M h hc) hf h1
    exact ⟨.fn f ys,fun r=>by simp only [Ah,h2],us,rfl,h3⟩
  ·rename_i t
   have hc1:C1 w E X h β v u:=by
     cases v<;>first|exact hc|(simp [Cj,Dm] at hf;done)|(cases t<;>simp [Cj,Dm] at hf)
   obtain ⟨y,h1,h2⟩:=RH M hf hc1
   exact ⟨y,fun r=>by simp only [Ah,h1],h2.c2⟩
  ·cases hf
theorem C2.cv {v:PV} {u:Value} (hc:C2 w E X h β v u):Cv w E X h β v u:=by cases v<;>first|exact hc|exact hc.elim
theorem kT (M:Ki gv ρ w E X h β E' X' h' β') {t:Tm} {v:PV} {l:List Hv} {u:Value} (hf:Sx gv ρ h t v=some l) (hc:Cv w E X h β v u):∃y,(∀r,Bj t (l++r)=some (y,r))∧Cv w E' X' h' β' y u:=by
  unfold Sx at hf
  split at hf
  ·obtain ⟨us,rfl,h1⟩:=hc
   obtain ⟨ys,h2,h3⟩:=Tn (R:=C2 w E X h β) (R':=C2 w E' X' h' β') (fun t x l u h hc=>L5 M h hc) hf h1
   exact ⟨.tup ys,fun r=>by simp only [Bj,h2],us,rfl,h3⟩
  ·rename_i t
   have hc1:C2 w E X h β v u:=by
     cases v<;>first|exact hc|(cases t<;>(simp [Sn] at hf;try (rename_i t1;cases t1<;>simp [Cj,Dm] at hf)))
   obtain ⟨y,h1,h2⟩:=L5 M hf hc1
   exact ⟨y,fun r=>by simp only [Bj,h1],h2.cv⟩
  ·cases hf
end
end Go.Proofs.YtknkhdjhongklaaGreat
namespace Go.Proofs.YtknkhdjhongklaaGreat
open Go.RowKit
section
variable {gv:Bool} {ρ:List Nat} {h:List Ca}
theorem M5 {t:T0} {x:IV} {l:List Hv} (hf:Av t x=some l):∃y,∀r,Rg t (l++r)=some (y,r):=by
  unfold Av at hf
  split at hf
  ·rename_i k k' x
   cases hb:Kn k' k with
   |false=>rw [hb] at hf;cases hf
   |true=>rw [hb] at hf;injection hf with hf;subst hf;exact ⟨_,fun r=>rfl⟩
  ·injection hf with hf;subst hf;exact ⟨_,fun r=>rfl⟩
  ·injection hf with hf;subst hf;exact ⟨_,fun r=>rfl⟩
  ·rename_i g τ g' σ xs
   cases hb:(!g||g') with
   |false=>rw [hb] at hf;cases hf
   |true =>
    rw [hb] at hf
    simp only [cond_true] at hf
    split at hf
    ·rename_i ys hy
     injection hf with hf;subst hf
     exact ⟨.sl g τ ys,fun r=>by simp only [List.cons_append,List.nil_append,Rg,Bv]⟩
    ·cases hf
  ·rename_i g τ
   injection hf with hf;subst hf;exact ⟨.sl g τ [],fun r=>by simp only [List.cons_append,List.nil_append,Rg,Bv]⟩
  ·cases hf
theorem N5 {t:T0} {v:PV} {l:List Hv} (hf:Dm gv ρ h t v=some l):∃y,∀r,Rg t (l++r)=some (y,r):=by
  unfold Dm at hf
  split at hf
  ·exact M5 hf
  ·rename_i g τ j
   split at hf
   ·rename_i t' σ xs hj
    cases hb:((!g||gv)&&Kg ρ j) with
    |false=>rw [hb] at hf;cases hf
    |true =>
     rw [hb] at hf
     simp only [cond_true] at hf
     split at hf
     ·rename_i ys hy
      injection hf with hf;subst hf
      exact ⟨.sl g τ ys,fun r=>by simp only [List.cons_append,List.nil_append,Rg,Bv]⟩
     ·cases hf
   ·cases hf
  ·cases hf
theorem Ap {t:T1} {v:PV} {l:List Hv} (hf:Cj gv ρ h t v=some l):∃y,∀r,Lf t (l++r)=some (y,r):=by
  unfold Cj at hf
  split at hf
  ·obtain ⟨y,h1⟩:=N5 hf
   exact ⟨.im y,fun r=>by simp only [Lf,h1]⟩
  ·rename_i k j
   split at hf
   ·rename_i i hi
    cases hb:(Nat.beq i j&&Dv h j) with
    |false=>rw [hb] at hf;cases hf
    |true=>rw [hb] at hf;injection hf with hf;subst hf;exact ⟨.own k,fun r=>rfl⟩
   ·cases hf
  ·rename_i k
   split at hf
   ·rename_i i hi
    cases hb:Vb h i with
    |false=>rw [hb] at hf;cases hf
    |true=>rw [hb] at hf;injection hf with hf;subst hf;exact ⟨.own k,fun r=>rfl⟩
   ·cases hf
  ·rename_i k o j p
   split at hf
   ·rename_i i hi
    cases hb:(Nat.beq i j&&Nat.beq o p) with
    |false=>rw [hb] at hf;cases hf
    |true=>rw [hb] at hf;injection hf with hf;subst hf;exact ⟨.ptr k o,fun r=>rfl⟩
   ·cases hf
  ·rename_i ts o cs p
   cases hb:Nat.beq o p with
   |false=>rw [hb] at hf;cases hf
   |true =>
    rw [hb] at hf
    obtain ⟨_,ys,h6,_⟩:=Zj (g:=Rg) (fun t x l h=>M5 h) hf
    exact ⟨.at_ ys o,fun r=>by simp only [Lf,h6]⟩
  ·rename_i ts o j p
   split at hf
   ·cases hb:(Nat.beq o p&&Kg ρ j) with
    |false=>rw [hb] at hf;cases hf
    |true =>
     rw [hb] at hf
     obtain ⟨_,ys,h6,_⟩:=Zj (g:=Rg) (fun t x l h=>N5 h) hf
     exact ⟨.at_ ys o,fun r=>by simp only [Lf,h6]⟩
   ·cases hf
  ·cases hf
inductive Bh (gv:Bool) (ρ:List Nat) (h:List Ca) (j:Nat):Ca→Prop
  |dead:Bh gv ρ h j .dead
  |row (t:TypeId) (τ:Ty) (xs:List (El τ)) (hj:h[j]? =some (.row t τ xs)):Bh gv ρ h j (.row t τ xs)
  |nil (t:TypeId) (τ:Ty) (hj:Vb h j=true):Bh gv ρ h j (.row t τ [])
  |box (t:TypeId) (cs cs':List PV) (ts:List T1) (lk:List Hv) (hj:h[j]? =some (.box t cs)) (hf:Jg (Cj gv ρ h) ts cs=some lk) (hg:∀r,Xf Lf ts (lk++r)=some (cs',r)):Bh gv ρ h j (.box t cs')
theorem O5 {T:OT} {j:Nat} {l:List Hv} (hf:Tx gv ρ h T j=some l):∃y,(∀r,Cm T (l++r)=some (y,r))∧Bh gv ρ h j y:=by
  unfold Tx at hf
  split at hf
  ·injection hf with hf;subst hf;exact ⟨.dead,fun r=>rfl,.dead⟩
  ·rename_i t τ
   split at hf
   ·rename_i t' σ xs hj
    cases hb:Nat.beq t t' with
    |false=>rw [hb] at hf;cases hf
    |true =>
     rw [hb] at hf
     have e:=Nat.eq_of_beq_eq_true hb
     subst e
     simp only [cond_true] at hf
     split at hf
     ·rename_i ys hy
      obtain ⟨e,he⟩:=Mn hy
      subst e
      subst he
      injection hf with hf;subst hf
      exact ⟨_,fun r=>by simp only [List.cons_append,List.nil_append,Cm,Bv],.row t σ xs hj⟩
     ·cases hf
   ·rename_i t' σ hj
    cases hb:Nat.beq t t' with
    |false=>rw [hb] at hf;cases hf
    |true =>
     rw [hb] at hf
     injection hf with hf;subst hf
     exact ⟨_,fun r=>by simp only [List.cons_append,List.nil_append,Cm,Bv],.nil t τ (by simp [Vb,hj])⟩
   ·cases hf
  ·rename_i t ts
   split at hf
   ·rename_i t' cs hj
    cases hb:Nat.beq t t' with
    |false=>rw [hb] at hf;cases hf
    |true =>
     rw [hb] at hf
     have e:=Nat.eq_of_beq_eq_true hb
     subst e
     simp only [cond_true] at hf
     obtain ⟨_,ys,h6,_⟩:=Zj (g:=Lf) (fun t x l h=>Ap h) hf
     exact ⟨.box t ys,fun r=>by simp only [Cm,h6],.box t cs ys ts l hj hf h6⟩
   ·cases hf
theorem kU {os:List OT} {l:List Hv} (hf:Jg (Tx gv ρ h) os ρ=some l):∃os',(∀r,Xf Cm os (l++r)=some (os',r))∧os'.length=ρ.length∧∀(k:Nat) o',os'[k]? =some o'→∃j,ρ[k]? =some j∧Bh gv ρ h j o':=by
  obtain ⟨h0,os',h1,h2,h3⟩:=Zj (f:=Tx gv ρ h) (g:=Cm) (fun T j l h=>by obtain ⟨y,h1,_⟩:=O5 h;exact ⟨y,h1⟩) hf
  refine ⟨os',h1,by rw [h2,h0],fun k o' hk=>?_⟩
  obtain ⟨T,j,lk,q1,q2,q3,q4⟩:=h3 k o' hk
  obtain ⟨y,q5,q6⟩:=O5 q3
  have:=(q4 []).symm.trans (q5 [])
  injection this with this
  injection this with this
  subst this
  exact ⟨j,q2,q6⟩
end
def Wc (ρ:List Nat) (β:List (Nat×Nat)):List (Nat×Nat):=ρ.map fun j=>β.getD j (0,0)
section
variable {gv:Bool} {ρ:List Nat} {w:World} {E X E' X':Nat→Prop} {h os:List Ca} {β:List (Nat×Nat)}
theorem EQ {k j:Nat} {p:Nat×Nat} (h1:ρ[k]? =some j) (h2:β[j]? =some p):(Wc ρ β)[k]? =some p:=by
  unfold Wc
  rw [List.getElem?_map,h1];simp [List.getD,h2]
theorem P5 {k j:Nat} {p:Nat×Nat} (hj:j<β.length) (h1:ρ[k]? =some j) (h2:(Wc ρ β)[k]? =some p):β[j]? =some p:=by
  unfold Wc at h2
  rw [List.getElem?_map,h1] at h2
  simpa [List.getD,List.getElem?_eq_getElem hj] using h2
theorem kV {j c:Nat} {o':Ca} (hw:Bh gv ρ h j o') (hl:Bc o' c) (hc:∀b,Vb h j=true→β[j]? =some (b,c)→c=0) {b:Nat} (hβ:β[j]? =some (b,c)):∃o,h[j]? =some o∧Bc o c:=by
  cases hw with
  |dead=>exact hl.elim
  |row t τ xs hj=>exact ⟨_,hj,hl⟩
  |nil t τ hj=>have:=hc b hj hβ;subst this;exact absurd hl (Nat.lt_irrefl 0)
  |box t cs cs' ts lk hj hf hg=>exact ⟨_,hj,trivial⟩
theorem kW (hh:Pb w E X h β) {j b c:Nat} (hv:Vb h j=true) (hβ:β[j]? =some (b,c)):c=0:=by
  obtain ⟨t,τ,e⟩:=QH hv
  obtain ⟨B,hB⟩:=hh.ok j _ e
  rw [hβ] at hB
  injection hB with hB;injection hB
theorem Fv (hh:Pb w E X h β) (hlt:∀j∈ρ,j<h.length) (hos:∀(k:Nat) o',os[k]? =some o'→∃j,ρ[k]? =some j∧Bh gv ρ h j o') {k b c:Nat} {o':Ca} (h1:os[k]? =some o') (h2:Bc o' c) (h3:(Wc ρ β)[k]? =some (b,c)):∃j o,ρ[k]? =some j∧h[j]? =some o∧Bc o c∧β[j]? =some (b,c):=by
  obtain ⟨j,hj,hw⟩:=hos k o' h1
  have hβ:=P5 (by rw [hh.len];exact hlt j (List.mem_of_getElem? hj)) hj h3
  obtain ⟨o,h4,h5⟩:=kV hw h2 (fun b hv hb=>kW hh hv hb) hβ
  exact ⟨j,o,hj,h4,h5,hβ⟩
theorem FQ (hh:Pb w E X h β) (hlt:∀j∈ρ,j<h.length) (hos:∀(k:Nat) o',os[k]? =some o'→∃j,ρ[k]? =some j∧Bh gv ρ h j o') {b:Nat} (hl:Da os (Wc ρ β) b):Da h β b:=by
  obtain ⟨k,o',c,h1,h2,h3⟩:=hl
  obtain ⟨j,o,_,h4,h5,h6⟩:=Fv hh hlt hos h1 h2 h3
  exact ⟨j,o,c,h4,h5,h6⟩
theorem GQ (hos:∀(k:Nat) o',os[k]? =some o'→∃j,ρ[k]? =some j∧Bh gv ρ h j o') (k:Nat):Vb os k=false:=by
  cases e:os[k]? with
  |none=>simp [Vb,e]
  |some o =>
   obtain ⟨j,_,hw⟩:=hos k o e
   cases hw<;>simp [Vb,e]
theorem Q5 (hh:Pb w (Da h β) X h β) (hlt:∀j∈ρ,j<h.length) (hlen:os.length=ρ.length) (hos:∀(k:Nat) o',os[k]? =some o'→∃j,ρ[k]? =some j∧Bh gv ρ h j o')
    (hX:∀b,¬Da h β b→¬X b→¬X' b) (hg:∀b,gv=true→Da h β b→¬Da os (Wc ρ β) b→¬X' b):Ki gv ρ w (Da h β) X h β (Da os (Wc ρ β)) X' os (Wc ρ β):=by
  refine ⟨hh,fun b hn hl=>hn (FQ hh hlt hos hl),hX,fun k j p h1 h2=>EQ h1 h2,fun k j t τ xs' h1 h2=>?_,fun k j h1=>⟨by rw [hlen];exact (List.getElem?_eq_some_iff.1 h1).1,GQ hos k⟩,fun j o b c h1 h2 h3 h4=>?_⟩
  ·obtain ⟨j',h3,hw⟩:=hos k _ h2
   rw [h1] at h3
   injection h3 with h3
   subst h3
   cases hw with
   |row _ _ _ hj=>exact .inl ⟨xs',hj,rfl⟩
   |nil _ _ hj=>exact .inr ⟨hj,rfl⟩
  ·have hno:¬Da os (Wc ρ β) b:=fun ⟨k,o',c',q1,q2,q3⟩=>by
     obtain ⟨j',o2,q4,q5,q6,q7⟩:=Fv hh hlt hos q1 q2 q3
     have:=hh.inj j j' o o2 b c c' h1 q5 h2 q6 h3 q7
     subst this
     exact h4 k q4
   exact ⟨hno,fun hgv=>hg b hgv ⟨j,o,c,h1,h2,h3⟩ hno⟩
theorem Ki.obj (M:Ki gv ρ w E X h β E' X' os (Wc ρ β)) {k j:Nat} {o':Ca} (hk:ρ[k]? =some j) (hw:Bh gv ρ h j o'):Vf w E' X' os (Wc ρ β) k o':=by
  cases hw with
  |dead=>trivial
  |row t τ xs hj =>
   obtain ⟨b,c,h1,h2,h3,h4⟩:=M.ok.ok j _ hj
   refine ⟨b,c,M.hβ k j _ hk h1,h2,h3,fun hc=>?_⟩
   obtain ⟨us,junk,h5,h6,h7⟩:=h4 hc
   exact ⟨us,junk,h5,h6.mono fun x u h=>M.ri h,h7⟩
  |nil t τ hj =>
   obtain ⟨t',τ',e⟩:=QH hj
   obtain ⟨B,hB⟩:=M.ok.ok j _ e
   exact ⟨B,0,M.hβ k j _ hk hB,fun _=>rfl,Nat.zero_le _,fun h=>by omega⟩
  |box t cs cs' ts lk hj hf hg =>
   obtain ⟨b,c,us,h1,h2,h3,h4⟩:=M.ok.ok j _ hj
   obtain ⟨ys,h5,h6⟩:=Tn (R:=C1 w E X h β) (R':=C1 w E' X' os (Wc ρ β)) (fun t x l u h hc=>RH M h hc) hf h3
   have:=(hg []).symm.trans (h5 [])
   injection this with this
   injection this with this
   subst this
   exact ⟨b,c,us,M.hβ k j _ hk h1,h2,h6,h4⟩
theorem Ux (hh:Pb w E X h β) (hlt:∀j∈ρ,j<h.length) (hos:∀(k:Nat) o',os[k]? =some o'→∃j,ρ[k]? =some j∧Bh gv ρ h j o') {k:Nat} {p:Nat×Nat} {σ:Ty} {u:Value} (ho:Va w os (Wc ρ β) k p σ u):∃j,ρ[k]? =some j∧Va w h β j p σ u:=by
  obtain ⟨t,τ,xs,b,c,us,junk,h1,h2,h3,h4,h5,h6⟩:=ho
  obtain ⟨j,hj,hw⟩:=hos k _ h1
  have hβ:=P5 (by rw [hh.len];exact hlt j (List.mem_of_getElem? hj)) hj h2
  refine ⟨j,hj,?_⟩
  cases hw with
  |row _ _ _ hr=>exact ⟨t,τ,xs,b,c,us,junk,hr,hβ,h3,h4,h5,h6⟩
  |nil _ _ hv =>
   have:us=[]:=List.length_eq_zero_iff.1 (by rw [h5];simp)
   subst this
   rcases h6 with ⟨_,_,g,_⟩|⟨_,_,_,_,_,_,_,g,_⟩<;>simp at g
theorem R5 (hh:Pb w (Da h β) X h β) (M:Ki gv ρ w (Da h β) X h β (Da os (Wc ρ β)) X' os (Wc ρ β)) (hlt:∀j∈ρ,j<h.length) (hnd:ρ.Nodup) (hlen:os.length=ρ.length) (hos:∀(k:Nat) o',os[k]? =some o'→∃j,ρ[k]? =some j∧Bh gv ρ h j o')
    (hnx:∀b,Da os (Wc ρ β) b→¬X' b):Pb w (Da os (Wc ρ β)) X' os (Wc ρ β):=by
  refine ⟨by unfold Wc;rw [List.length_map,hlen],fun _ h=>h,hnx,fun k o' hk=>?_,fun i j o o' b c c' hi hj li lj bi bj=>?_,fun k p k' p' n ⟨σ,u,h1,h2⟩ ⟨σ',u',h3,h4⟩=>?_,fun k p σ u n h1 h2=>?_⟩
  case refine_3 =>
    obtain ⟨j,g1,g2⟩:=Ux hh hlt hos h1
    obtain ⟨j',g3,g4⟩:=Ux hh hlt hos h3
    obtain ⟨e1,e2⟩:=hh.uq j p j' p' n ⟨σ,u,g2,h2⟩ ⟨σ',u',g4,h4⟩
    subst e1
    exact ⟨(List.getElem?_inj (List.getElem?_eq_some_iff.1 g1).1 hnd).1 (g1.trans g3.symm),e2⟩
  case refine_4 =>
    obtain ⟨j,_,g2⟩:=Ux hh hlt hos h1
    exact hh.pl j p σ u n g2 h2
  ·obtain ⟨j,h1,h2⟩:=hos k o' hk
   exact M.obj h1 h2
  ·obtain ⟨i',oi,h1,h2,h3,h4⟩:=Fv hh hlt hos hi li bi
   obtain ⟨j',oj,h5,h6,h7,h8⟩:=Fv hh hlt hos hj lj bj
   have:=hh.inj i' j' oi oj b c c' h2 h6 h3 h7 h4 h8
   subst this
   exact (List.getElem?_inj (List.getElem?_eq_some_iff.1 h1).1 hnd).1 (h1.trans h5.symm)
end
def Un:List Ca→Bool
  |[]=>true
  | .vrow _ _::r=>Un r
  |_::_=>false
theorem Jb.virt {C:Pc} {a:Act} {w:World}:∀(vs:List Ca) {st:St} {β:List (Nat×Nat)},Un vs=true→Oa C st a w β→∃β',Oa C ⟨st.t,st.h++vs⟩ a w β'∧Gb w st.h β w (st.h++vs) β'
  |[],st,β,_,S=>⟨β,by rw [List.append_nil];exact S,by rw [List.append_nil];exact Gb.refl _ _ _⟩
  | .vrow t τ::r,st,β,hv,S=>by
    obtain ⟨S1,hs⟩:=S.new (w':=w) (o:=.vrow t τ) (B:=w.heap.size) (c:=0) (Below.refl _ _) (fun h=>h.elim) (fun E' hE h' β' hle hβ hl=>⟨_,hl⟩) rfl
    obtain ⟨β',S2,hs2⟩:=Jb.virt r hv S1
    rw [List.append_assoc] at S2 hs2
    exact ⟨β',S2,hs.trans hs2⟩
  | .dead::r,st,β,hv,S=>by cases hv
  | .row _ _ _::r,st,β,hv,S=>by cases hv
  | .box _ _::r,st,β,hv,S=>by cases hv
end Go.Proofs.YtknkhdjhongklaaGreat
namespace Go.Proofs.YtknkhdjhongklaaGreat
open Go.RowKit
def SH:List Nat→Bool
  |[]=>true
  |j::r=>Kg r j&&SH r
theorem HQ:∀{ρ:List Nat},SH ρ=true→ρ.Nodup
  |[],_=>List.nodup_nil
  |j::r,h=>by
   simp only [SH,Bool.and_eq_true] at h
   refine List.nodup_cons.2 ⟨fun hm=>?_,HQ h.2⟩
   obtain ⟨k,hk⟩:=List.getElem?_of_mem hm
   exact PH h.1 k hk
def TH (n:Nat):List Nat→Bool
  |[]=>true
  |j::r=>Nat.blt j n&&TH n r
theorem IQ {n:Nat}:∀{ρ:List Nat},TH n ρ=true→∀j∈ρ,j<n
  |[],_,j,h=>by simp at h
  |i::r,h,j,hj=>by
   simp only [TH,Bool.and_eq_true] at h
   rcases List.mem_cons.1 hj with rfl|hj
   ·exact Nat.blt_eq.mp h.1
   ·exact IQ h.2 j hj
def UH:Nat→Nat→List Nat→List Ca→Bool
  |0,_,_,_=>true
  |m+1,k,j::r,h=>Nat.beq j k&&!Vb h k&&UH m (k+1) r h
  |_+1,_,[],_=>false
theorem S5:∀{m k:Nat} {ρ:List Nat} {h:List Ca},UH m k ρ h=true→m≤ρ.length∧∀i,i<m→ρ[i]? =some (k+i)∧Vb h (k+i)=false
  |0,k,ρ,h,_=>⟨Nat.zero_le _,fun i hi=>by omega⟩
  |m+1,k,[],h,hp=>by cases hp
  |m+1,k,j::r,h,hp=>by
   simp only [UH,Bool.and_eq_true] at hp
   obtain ⟨⟨h1,h2⟩,h3⟩:=hp
   have e:=Nat.eq_of_beq_eq_true h1
   subst e
   obtain ⟨h4,h5⟩:=S5 h3
   refine ⟨by simp;omega,fun i hi=>?_⟩
   cases i with
   |zero=>exact ⟨rfl,by simpa using h2⟩
   |succ i =>
    have:=h5 i (by omega)
    rw [show j+(i+1)=j+1+i by omega]
    exact ⟨by simpa using this.1,this.2⟩
def Em (M:Nat) (ρ:List Nat) (h:List Ca):Bool:=UH M 0 ρ h&&SH ρ&&TH h.length ρ
section
variable {C:Pc} {st:St} {a:Act} {w:World} {β:List (Nat×Nat)} {M:Nat} {ρ:List Nat}
theorem T5 {S:Zc} {gv:Bool} {h:List Ca} {vs:List PV} {l:List Hv} (hf:S.find gv ρ h vs=some l):∃ds os,S.fill l=some (ds,os)∧os.length=ρ.length∧(∀(k:Nat) o',os[k]? =some o'→∃j,ρ[k]? =some j∧Bh gv ρ h j o')∧∀w E X β E' X' β',Ki gv ρ w E X h β E' X' os β'→∀us,F2 (Cv w E X h β) vs us→F2 (Cv w E' X' os β') ds us:=by
  unfold Zc.find at hf
  split at hf
  ·rename_i l1 l2 h1 h2
   injection hf with hf
   subst hf
   obtain ⟨os,h3,h4,h5⟩:=kU h2
   have hM:∃ds,(∀r,Xf Bj S.vs (l1++r)=some (ds,r)):=by
     obtain ⟨_,ds,h6,_⟩:=Zj (f:=Sx gv ρ h) (g:=Bj) (fun t x l hx=>by
       unfold Sx at hx
       split at hx
       ·obtain ⟨_,ys,q,_⟩:=Zj (f:=Sn gv ρ h) (g:=Ah) (fun t x l hx=>by
          unfold Sn at hx
          split at hx
          ·obtain ⟨_,ys,q,_⟩:=Zj (g:=Lf) (fun t x l h=>Ap h) hx
           exact ⟨.agg ys,fun r=>by simp only [Ah,q]⟩
          ·rename_i f ts f' cs
           cases hb:Nat.beq f f' with
           |false=>rw [hb] at hx;cases hx
           |true =>
            rw [hb] at hx
            obtain ⟨_,ys,q,_⟩:=Zj (g:=Lf) (fun t x l h=>Ap h) hx
            exact ⟨.fn f ys,fun r=>by simp only [Ah,q]⟩
          ·obtain ⟨y,q⟩:=Ap hx
           exact ⟨y,fun r=>by simp only [Ah,q]⟩
          ·cases hx) hx
        exact ⟨.tup ys,fun r=>by simp only [Bj,q]⟩
       ·unfold Sn at hx
        split at hx
        ·obtain ⟨_,ys,q,_⟩:=Zj (g:=Lf) (fun t x l h=>Ap h) hx
         exact ⟨.agg ys,fun r=>by simp only [Bj,Ah,q]⟩
        ·rename_i f ts f' cs
         cases hb:Nat.beq f f' with
         |false=>rw [hb] at hx;cases hx
         |true =>
          rw [hb] at hx
          obtain ⟨_,ys,q,_⟩:=Zj (g:=Lf) (fun t x l h=>Ap h) hx
          exact ⟨.fn f ys,fun r=>by simp only [Bj,Ah,q]⟩
        ·obtain ⟨y,q⟩:=Ap hx
         exact ⟨y,fun r=>by simp only [Bj,Ah,q]⟩
        ·cases hx
       ·cases hx) h1
     exact ⟨ds,h6⟩
   obtain ⟨ds,h6⟩:=hM
   have h3':=h3 []
   rw [List.append_nil] at h3'
   refine ⟨ds,os,by unfold Zc.fill;rw [h6];simp only [h3'],h4,h5,fun w E X β E' X' β' Mv us hF=>?_⟩
   obtain ⟨ds',h7,h8⟩:=Tn (R:=Cv w E X h β) (R':=Cv w E' X' os β') (fun t x l u hx hc=>kT Mv hx hc) h1 hF
   have:=(h6 []).symm.trans (h7 [])
   injection this with this
   injection this with this
   subst this
   exact h8
  ·cases hf
theorem JQ {S:Zc} {vs:List PV} {l:List Hv} (H:Oa C st a w β) (hM:C.h.length=M) (hc:Em M ρ st.h=true) (hf:S.find true ρ st.h vs=some l):∃ds os,S.fill l=some (ds,os)∧(∀us,F2 (Cv w (Da st.h β) C.X st.h β) vs us→F2 (Cv w (Da os (Wc ρ β)) C.X os (Wc ρ β)) ds us)∧Pb w (Da os (Wc ρ β)) C.X os (Wc ρ β)∧Gb C.w C.h C.β w os (Wc ρ β):=by
  simp only [Em,Bool.and_eq_true] at hc
  obtain ⟨⟨hp,hnd⟩,hlt⟩:=hc
  have hlt:=IQ hlt
  obtain ⟨ds,os,h1,h2,h3,h4⟩:=T5 hf
  have hl:∀b,Da os (Wc ρ β) b→Da st.h β b:=fun b=>FQ H.heap hlt h3
  have Mv:=Q5 (gv:=true) (X:=C.X) (X':=C.X) H.heap hlt h2 h3 (fun _ _ h=>h) (fun b _ hb _=>H.heap.nx b hb)
  obtain ⟨p1,p2⟩:=S5 hp
  refine ⟨ds,os,h1,h4 _ _ _ _ _ _ _ Mv,R5 H.heap Mv hlt (HQ hnd) h2 h3 (fun b hb=>H.heap.nx b (hl b hb)),?_⟩
  have St:=H.step
  refine ⟨St.os,St.tape,St.output,St.size,St.block,fun b hb h=>St.new b hb (hl b h),fun k p hk=>?_,⟨by rw [hM,h2];exact p1,fun k t τ xs' hk e=>?_,fun k hk e=>(by rw [GQ h3 k] at e;cases e)⟩,fun k p m hm ⟨σ,u,z1,z2⟩=>by
    obtain ⟨j,_,z3⟩:=Ux H.heap hlt h3 z1
    exact St.fp j p m hm ⟨σ,u,z3,z2⟩⟩
  ·have hkM:k<M:=by rw [←hM,←H.cl.1];exact (List.getElem?_eq_some_iff.1 hk).1
   have:=(p2 k hkM).1
   rw [Nat.zero_add] at this
   exact EQ this (St.beta k p hk)
  ·obtain ⟨j,hj,hw⟩:=h3 k _ e
   have hkM:k<M:=by rw [←hM];exact hk
   obtain ⟨q1,q2⟩:=p2 k hkM
   rw [Nat.zero_add] at q1 q2
   rw [q1] at hj
   injection hj with hj
   subst hj
   cases hw with
   |row _ _ _ hj=>exact St.hle.2.1 k t τ xs' hk hj
   |nil _ _ hj=>rw [q2] at hj;cases hj
end
def Vx (t:List (Nat×PV)):List Nat→Option (List PV)
  |[]=>some []
  |i::r=>match Kd t i,Vx t r with|some v,some l=>some (v::l)|_,_=>none
def VH:List Nat→List PV→List (Nat×PV)
  |i::r,v::l=>(i,v)::VH r l
  |_,_=>[]
theorem U5 {C:Pc} {E:Nat→Prop} {st:St} {a:Act} {w:World} {β:List (Nat×Nat)} (S:Jb C E st a w β):∀{ns:List Nat} {vs:List PV},Vx st.t ns=some vs→∃us,F2 (Cv w E C.X st.h β) vs us∧us.length=ns.length∧∀(k i:Nat) u,ns[k]? =some i→us[k]? =some u→a.tmps[i]? =some u
  |[],vs,h=>by
   simp only [Vx,Option.some.injEq] at h
   subst h
   exact ⟨[],F2.nil,rfl,fun k i u h=>by simp at h⟩
  |i::r,vs,h=>by
   simp only [Vx] at h
   split at h
   ·rename_i v l hv hl
    injection h with h
    subst h
    obtain ⟨u,h1,h2⟩:=S.tm i v hv
    obtain ⟨us,h3,h4,h5⟩:=U5 S hl
    refine ⟨u::us,F2.cons h2 h3,by simp [h4],fun k j u' hk hu=>?_⟩
    cases k with
    |zero=>simp at hk hu;subst hk hu;exact h1
    |succ k=>exact h5 k j u' (by simpa using hk) (by simpa using hu)
   ·cases h
theorem V5:∀{ns:List Nat} {ds:List PV} {i:Nat} {v:PV},Kd (VH ns ds) i=some v→∃k:Nat,ns[k]? =some i∧ds[k]? =some v
  |[],ds,i,v,h=>by cases ds<;>cases h
  |_::_,[],i,v,h=>by cases h
  |j::r,d::l,i,v,h=>by
   simp only [VH,Kd] at h
   cases hb:Nat.beq j i with
   |true =>
    rw [hb] at h
    injection h with h
    subst h
    have:=Nat.eq_of_beq_eq_true hb
    subst this
    exact ⟨0,rfl,rfl⟩
   |false =>
    rw [hb] at h
    obtain ⟨k,h1,h2⟩:=V5 h
    exact ⟨k+1,by simpa using h1,by simpa using h2⟩
def WH:T1→PV→List (Nat×Option Nat)
  | .own k,.own j=>[(k,some j)]
  | .own k,.im .nil=>[(k,none)]
  | .ptr k _,.ptr j _=>[(k,some j)]
  |_,_=>[]
def Gv {α:Type} (f:α→PV→List (Nat×Option Nat)):List α→List PV→List (Nat×Option Nat)
  |t::ts,x::xs=>f t x++Gv f ts xs
  |_,_=>[]
def W5:T2→PV→List (Nat×Option Nat)
  | .agg ts,.agg cs=>Gv WH ts cs
  | .fn _ ts,.fn _ cs=>Gv WH ts cs
  | .one t,v=>WH t v
  |_,_=>[]
def kX:Tm→PV→List (Nat×Option Nat)
  | .tup ts,.tup cs=>Gv W5 ts cs
  | .c t,v=>W5 t v
  |_,_=>[]
def KQ:Nat→List (Nat×Option Nat)→Option (Option Nat)
  |_,[]=>none
  |k,(j,v)::r=>bif Nat.beq j k then some v else KQ k r
def Wx (M:Nat) (h:List Ca):Nat→List OT→List (Nat×Option Nat)→List (Nat×Option Nat)
  |_,[],acc=>acc
  |k,.box _ ts::r,acc=>match (bif Nat.blt k M then some (some k) else KQ k acc) with
   |some (some j)=>(match h[j]? with
    |some (.box _ cs)=>Wx M h (k+1) r (acc++Gv WH ts cs)
    |_=>Wx M h (k+1) r acc)
   |_=>Wx M h (k+1) r acc
  |k,_::r,acc=>Wx M h (k+1) r acc
def XH (M:Nat):Nat→Nat→List OT→List (Nat×Option Nat)→List Nat×List Ca
  |_,_,[],_=>([],[])
  |k,n,o::r,acc=>match (bif Nat.blt k M then some (some k) else KQ k acc),o with
   |some (some j),_=>let x:=XH M (k+1) n r acc;(j::x.1,x.2)
   |some none,.row t τ=>let x:=XH M (k+1) (n+1) r acc;(n::x.1,.vrow t τ::x.2)
   |_,_=>let x:=XH M (k+1) n r acc;(1000000000::x.1,x.2)
def Zc.rho (S:Zc) (M:Nat) (h:List Ca) (vs:List PV):List Nat×List Ca:=XH M 0 h.length S.os (Wx M h 0 S.os (Gv kX S.vs vs))
def Zc.get (S:Zc) (M:Nat) (h:List Ca) (vs:List PV):Option (List Hv) :=
  match S.rho M h vs with
  |(ρ,vr)=>bif Un vr&&Em M ρ (h++vr) then S.find true ρ (h++vr) vs else none
structure Td where
  ns:List Nat
  S:Zc
  hs:List Ho
def Td.st (F:Td) (s:HL F.hs):St:=match F.S.fill (up F.hs s) with
  |some (ds,os)=>⟨VH F.ns ds,os⟩
  |none=>⟨[],[]⟩
def Td.get (F:Td) (M:Nat) (st:St):Option (HL F.hs):=match Vx st.t F.ns with
  |some vs=>(match F.S.get M st.h vs with|some l=>Ef F.hs l|none=>none)
  |none=>none
def YH (M:Nat) (st1 st:St):Prop:=∀C a w β,C.h.length=M→Oa C st a w β→∃β1,Oa C st1 a w β1
theorem YH.refl (M:Nat) (st:St):YH M st st:=fun _ _ _ β _ S=>⟨β,S⟩
theorem Td.imp {F:Td} {M:Nat} {st:St} {s:HL F.hs} (h:F.get M st=some s):YH M (F.st s) st:=fun C a w β hM S=>by
  unfold Td.get at h
  split at h
  case h_2=>cases h
  rename_i vs hvs
  split at h
  case h_2=>cases h
  rename_i l hl
  unfold Zc.get at hl
  split at hl
  rename_i ρ vr hρ
  cases hb:(Un vr&&Em M ρ (st.h++vr)) with
  |false=>rw [hb] at hl;cases hl
  |true =>
   rw [hb] at hl
   simp only [cond_true] at hl
   simp only [Bool.and_eq_true] at hb
   obtain ⟨β',S',hs⟩:=S.virt vr hb.1
   obtain ⟨us,h1,h2,h3⟩:=U5 S' hvs
   obtain ⟨ds,os,h4,h5,h6,h7⟩:=JQ S' hM hb.2 hl
   refine ⟨Wc ρ β',?_⟩
   unfold Td.st
   rw [Rn h,h4]
   refine ⟨S'.cl,S'.xw,h7,h6,S'.sz,S'.df,fun i v hi=>?_⟩
   obtain ⟨k,h8,h9⟩:=V5 hi
   obtain ⟨u,h10,h11⟩:=(h5 us h1).get h9
   exact ⟨u,h3 k i u h8 h10,h11⟩
end Go.Proofs.YtknkhdjhongklaaGreat
namespace Go.Proofs.YtknkhdjhongklaaGreat
open Go.RowKit
def Ty.flat:Ty→Bool
  | .gr| .ls| .db| .pk| .uls| .udb| .upk=>false
  |_=>true
def T0.good (gv:Bool):T0→Bool
  | .sl g _=>g&&!gv
  |_=>true
def T1.good (gv:Bool):T1→Bool
  | .b t=>t.good gv
  | .at_ _ _=>false
  |_=>true
def T2.good (gv:Bool):T2→Bool
  | .one t=>t.good gv
  | .agg ts=>ts.all (T1.good gv)
  | .fn _ _=>false
def Tm.good (gv:Bool):Tm→Bool
  | .c t=>t.good gv
  | .tup ts=>ts.all (T2.good gv)
def OT.good (gv:Bool):OT→Bool
  | .box _ ts=>ts.all (T1.good gv)
  | .row _ τ=>!gv||τ.flat
  |_=>true
def Zc.good (gv:Bool) (S:Zc):Bool:=S.vs.all (Tm.good gv)&&S.os.all (OT.good gv)
inductive GI (gv:Bool):IV→Prop
  |s (v:Value):GI gv (.s v)
  |nil:GI gv .nil
  |sl (τ:Ty) (xs:List (El τ)) (h:gv=false):GI gv (.sl true τ xs)
inductive G1 (gv:Bool):PV→Prop
  |im (x:IV) (h:GI gv x):G1 gv (.im x)
  |own (k:Nat):G1 gv (.own k)
  |ptr (k o:Nat):G1 gv (.ptr k o)
inductive G2 (gv:Bool):PV→Prop
  |one (v:PV) (h:G1 gv v):G2 gv v
  |agg (cs:List PV) (h:∀v∈cs,G1 gv v):G2 gv (.agg cs)
inductive GM (gv:Bool):PV→Prop
  |c (v:PV) (h:G2 gv v):GM gv v
  |tup (cs:List PV) (h:∀v∈cs,G2 gv v):GM gv (.tup cs)
inductive GO (gv:Bool):Ca→Prop
  |dead:GO gv .dead
  |row (t:TypeId) (τ:Ty) (xs:List (El τ)) (h:gv=true→τ.flat=true):GO gv (.row t τ xs)
  |box (t:TypeId) (cs:List PV) (h:∀v∈cs,G1 gv v):GO gv (.box t cs)
theorem kY {gv:Bool} (τ:Ty) (x:El τ) (hf:gv=true→τ.flat=true):∀y∈cells τ x,GI gv y:=by
  have hs:τ.flat=false→gv=false:=fun h=>by
    cases gv with
    |false=>rfl
    |true=>rw [hf rfl] at h;cases h
  cases τ<;>intro y hy<;>simp [cells,iI] at hy<;>(first|(rcases hy with rfl|rfl|rfl|rfl)|(rcases hy with rfl|rfl|rfl)|(rcases hy with rfl|rfl)|subst hy)<;>first|exact .s _|exact .sl _ _ (hs rfl)
theorem Bp {gv:Bool} (τ:Ty) (xs:List (El τ)) (hf:gv=true→τ.flat=true):∀y∈Ua τ xs,GI gv y:=fun y hy=>by
  unfold Ua at hy
  obtain ⟨x,_,hx⟩:=List.mem_flatMap.1 hy
  exact kY τ x hf y hx
section
variable {gv:Bool}
theorem kZ {t:T0} {l r:List Hv} {x:IV} (hg:t.good gv=true) (h:Rg t l=some (x,r)):GI gv x:=by
  unfold Rg at h
  split at h
  ·injection h with h;injection h with h;subst h;exact .s _
  ·injection h with h;injection h with h;subst h;exact .s _
  ·injection h with h;injection h with h;subst h;exact .s _
  ·split at h
   ·injection h with h;injection h with h;subst h
    simp only [T0.good,Bool.and_eq_true,Bool.not_eq_true'] at hg
    obtain ⟨rfl,hg⟩:=hg
    exact .sl _ _ hg
   ·cases h
  ·cases h
theorem Iv {α β:Type} {f:α→List Hv→Option (β×List Hv)} {g:α→Bool} {G:β→Prop} (H:∀t l r x,g t=true→f t l=some (x,r)→G x):∀{ts:List α} {l r:List Hv} {xs:List β},ts.all g=true→Xf f ts l=some (xs,r)→∀x∈xs,G x
  |[],l,r,xs,_,h=>by simp only [Xf,Option.some.injEq,Prod.mk.injEq] at h;obtain ⟨rfl,_⟩:=h;intro x hx;simp at hx
  |t::ts,l,r,xs,hg,h=>by
   simp only [Xf] at h
   simp only [List.all_cons,Bool.and_eq_true] at hg
   split at h
   ·rename_i h1
    split at h
    ·rename_i h2
     injection h with h;injection h with h3 h4
     subst h3
     intro x hx
     rcases List.mem_cons.1 hx with rfl|hx
     ·exact H _ _ _ _ hg.1 h1
     ·exact Iv H hg.2 h2 x hx
    ·cases h
   ·cases h
theorem LQ {t:T1} {l r:List Hv} {x:PV} (hg:t.good gv=true) (h:Lf t l=some (x,r)):G1 gv x:=by
  unfold Lf at h
  split at h
  ·split at h
   ·rename_i h1;injection h with h;injection h with h;subst h;exact .im _ (kZ hg h1)
   ·cases h
  ·injection h with h;injection h with h;subst h;exact .own _
  ·injection h with h;injection h with h;subst h;exact .ptr _ _
  ·cases hg
theorem X5 {t:T2} {l r:List Hv} {x:PV} (hg:t.good gv=true) (h:Ah t l=some (x,r)):G2 gv x:=by
  unfold Ah at h
  split at h
  ·exact .one _ (LQ hg h)
  ·split at h
   ·rename_i h1;injection h with h;injection h with h;subst h;exact .agg _ (Iv (G:=G1 gv) (fun t l r x hg h=>LQ hg h) hg h1)
   ·cases h
  ·cases hg
theorem lA {t:Tm} {l r:List Hv} {x:PV} (hg:t.good gv=true) (h:Bj t l=some (x,r)):GM gv x:=by
  unfold Bj at h
  split at h
  ·exact .c _ (X5 hg h)
  ·split at h
   ·rename_i h1;injection h with h;injection h with h;subst h;exact .tup _ (Iv (G:=G2 gv) (fun t l r x hg h=>X5 hg h) hg h1)
   ·cases h
theorem lB {t:OT} {l r:List Hv} {x:Ca} (hg:t.good gv=true) (h:Cm t l=some (x,r)):GO gv x:=by
  unfold Cm at h
  split at h
  ·injection h with h;injection h with h;subst h;exact .dead
  ·split at h
   ·injection h with h;injection h with h;subst h;exact .row _ _ _ fun e=>by simpa [OT.good,e] using hg
   ·cases h
  ·cases h
  ·split at h
   ·rename_i h1;injection h with h;injection h with h;subst h;exact .box _ _ (Iv (G:=G1 gv) (fun t l r x hg h=>LQ hg h) hg h1)
   ·cases h
theorem Zc.fill_good {S:Zc} {l:List Hv} {ds:List PV} {os:List Ca} (hg:S.good gv=true) (h:S.fill l=some (ds,os)):(∀v∈ds,GM gv v)∧∀o∈os,GO gv o:=by
  simp only [Zc.good,Bool.and_eq_true] at hg
  unfold Zc.fill at h
  split at h
  ·rename_i h1
   split at h
   ·rename_i h2
    injection h with h;injection h with h3 h4
    subst h3 h4
    exact ⟨Iv (G:=GM gv) (fun t l r x hg h=>lA hg h) hg.1 h1,Iv (G:=GO gv) (fun t l r x hg h=>lB hg h) hg.2 h2⟩
   ·cases h
  ·cases h
end
structure Na where
  AS:Zc
  ah:List Ho
  RS:Zc
  rh:List Ho
  sh:HL ah→Option (HL rh)
def GC (P:Program) (f:FuncId) (e:Na):Prop:=∀s r,e.sh s=some r→∀ds os,e.AS.fill (up e.ah s)=some (ds,os)→∀d h',e.RS.fill (up e.rh r)=some ([d],h')→∀w X β args,(∀b,X b→b<w.heap.size)→Pb w (Da os β) X os β→F2 (Cv w (Da os β) X os β) ds args→Gi w os β→Calls P f args.toArray w fun ex w'=>∃u β',ex=.returned u∧Gb w os β w' h' β'∧Pb w' (Da h' β') X h' β'∧Cv w' (Da h' β') X h' β' d u
def sg (ρ:List Nat) (n:Nat) (k:Nat):Nat:=match ρ[k]? with|some j=>j|none=>n+(k-ρ.length)
def Jv (ρ:List Nat) (n:Nat):PV→PV
  | .own k=>.own (sg ρ n k)
  | .ptr k o=>.ptr (sg ρ n k) o
  |v=>v
def MQ (ρ:List Nat) (n:Nat):PV→PV
  | .agg cs=>.agg (cs.map (Jv ρ n))
  |v=>Jv ρ n v
def NQ (ρ:List Nat) (n:Nat):PV→PV
  | .tup cs=>.tup (cs.map (MQ ρ n))
  |v=>MQ ρ n v
def Al (ρ:List Nat) (n:Nat):Ca→Ca
  | .box t cs=>.box t (cs.map (Jv ρ n))
  |o=>o
def Rc (ρ:List Nat) (n:Nat):List Nat→List Ca→List Ca→List Ca
  |j::r,o::os,h=>Rc ρ n r os (h.set j (Al ρ n o))
  |_,os,h=>h++os.map (Al ρ n)
theorem Z5 (ρ:List Nat) (n:Nat):∀(l:List Nat) (os h:List Ca),l.length≤os.length→(Rc ρ n l os h).length=h.length+(os.length-l.length)
  |[],os,h,_=>by simp [Rc]
  |j::r,[],h,hl=>by simp at hl
  |j::r,o::os,h,hl=>by
   rw [Rc,Z5 ρ n r os _ (by simpa using hl)]
   simp
theorem OQ (ρ:List Nat) (n:Nat):∀(l:List Nat) (os h:List Ca),l.length≤os.length→∀i,i<h.length→i∉l→(Rc ρ n l os h)[i]? =h[i]?
  |[],os,h,_,i,hi,_=>by simp only [Rc];rw [List.getElem?_append_left hi]
  |j::r,[],h,hl,i,hi,_=>by simp at hl
  |j::r,o::os,h,hl,i,hi,hn=>by
   rw [Rc,OQ ρ n r os _ (by simpa using hl) i (by simpa using hi) (fun h=>hn (List.mem_cons_of_mem _ h)),List.getElem?_set]
   rw [if_neg (fun e=>hn (by rw [e];exact List.mem_cons_self ..))]
theorem PQ (ρ:List Nat) (n:Nat):∀(l:List Nat) (os h:List Ca),l.length≤os.length→l.Nodup→(∀j∈l,j<h.length)→∀(k j:Nat),l[k]? =some j→(Rc ρ n l os h)[j]? =os[k]?.map (Al ρ n)
  |[],os,h,_,_,_,k,j,hk=>by simp at hk
  |i::r,[],h,hl,_,_,k,j,hk=>by simp at hl
  |i::r,o::os,h,hl,hnd,hlt,k,j,hk=>by
   have hnd:=List.nodup_cons.1 hnd
   cases k with
   |zero =>
    simp at hk
    subst hk
    rw [Rc,OQ ρ n r os _ (by simpa using hl) i (by simpa using hlt i (List.mem_cons_self ..)) hnd.1,List.getElem?_set,if_pos rfl,if_pos (hlt i (List.mem_cons_self ..))]
    rfl
   |succ k =>
    rw [Rc,PQ ρ n r os _ (by simpa using hl) hnd.2 (fun q hq=>by simpa using hlt q (List.mem_cons_of_mem _ hq)) k j (by simpa using hk)]
    simp
theorem QQ (ρ:List Nat) (n:Nat):∀(l:List Nat) (os h:List Ca),l.length≤os.length→∀i,(Rc ρ n l os h)[h.length+i]? =os[l.length+i]?.map (Al ρ n)
  |[],os,h,_,i=>by simp only [Rc];rw [List.getElem?_append_right (by omega)];simp
  |j::r,[],h,hl,i=>by simp at hl
  |j::r,o::os,h,hl,i=>by
   have:=QQ ρ n r os (h.set j (Al ρ n o)) (by simpa using hl) i
   rw [List.length_set] at this
   rw [Rc,this,List.length_cons,show r.length+1+i=(r.length+i)+1 by omega,List.getElem?_cons_succ]
section
variable {gv:Bool} {w w':World} {E X E' X':Nat→Prop} {h h':List Ca} {β β':List (Nat×Nat)} {ρ:List Nat} {n:Nat}
theorem lC (H:∀b,¬E b→¬X b→¬E' b∧¬X' b) {x:IV} {u:Value} (hg:GI false x) (hc:Ri w E X x u):Ri w E' X' x u:=by
  induction hc with
  |s v=>exact .s v
  |nil A=>exact .nil A
  |sl g τ xs A cap b o us hA hcap hl hcc hr ih =>
   cases hg
   exact .sl true τ xs A cap b o us (fun h=>⟨(hA h).1,(hA h).2.1,(H b (hA h).2.2.1 ((hA h).2.2.2 rfl)).1,fun _=>(H b (hA h).2.2.1 ((hA h).2.2.2 rfl)).2⟩) hcap hl hcc (fun j x u hx hu=>ih j x u hx hu (Bp τ xs (fun h=>by cases h) x (List.mem_of_getElem? hx)))
theorem lD (H:∀x u,GI gv x→Ri w E X x u→Ri w E' X' x u) (hβ:∀(k:Nat) p,β[k]? =some p→β'[sg ρ n k]? =some p) (hlen:∀k,k<h.length→sg ρ n k<h'.length∧Vb h' (sg ρ n k)=false) (hrow:∀k t τ (xs:List (El τ)),k<h.length→h'[sg ρ n k]? =some (.row t τ xs)→h[k]? =some (.row t τ xs)) {v:PV} {u:Value} (hg:G1 gv v) (hc:C1 w E X h β v u):C1 w E' X' h' β' (Jv ρ n v) u:=by
  cases hg with
  |im x hx=>exact H x u hx hc
  |own k =>
   obtain ⟨h1,h2,h3,h4⟩:=hc
   refine ⟨(hlen k h1).1,(hlen k h1).2,h3,fun t τ xs e=>?_⟩
   obtain ⟨b,c,A,q1,q2,q3,q4⟩:=h4 t τ xs (hrow k t τ xs h1 e)
   exact ⟨b,c,A,hβ _ _ q1,q2,q3,fun _=>trivial⟩
  |ptr k o=>obtain ⟨b,c,h1,h2⟩:=hc;exact ⟨b,c,hβ _ _ h1,h2⟩
theorem lE (H:∀v u,G1 gv v→C1 w E X h β v u→C1 w E' X' h' β' (Jv ρ n v) u) {v:PV} {u:Value} (hg:GM gv v) (hc:Cv w E X h β v u):Cv w E' X' h' β' (NQ ρ n v) u:=by
  have h2:∀v u,G2 gv v→C2 w E X h β v u→C2 w E' X' h' β' (MQ ρ n v) u:=fun v u hg hc=>by
    cases hg with
    |one v hv =>
     cases hv with
     |im x hx=>exact (H (.im x) u (.im x hx) hc).c2
     |own k=>exact (H (.own k) u (.own k) hc).c2
     |ptr k o=>exact (H (.ptr k o) u (.ptr k o) hc).c2
    |agg cs hcs=>obtain ⟨us,h1,h3⟩:=hc;exact ⟨us,h1,(h3.monoI fun x hx u hu=>H x u (hcs x hx) hu).mapl fun _ _ h=>h⟩
  cases hg with
  |c v hv =>
   cases hv with
   |one v hv =>
    cases hv with
    |im x hx=>exact (h2 (.im x) u (.one _ (.im x hx)) hc).cv
    |own k=>exact (h2 (.own k) u (.one _ (.own k)) hc).cv
    |ptr k o=>exact (h2 (.ptr k o) u (.one _ (.ptr k o)) hc).cv
   |agg cs hcs=>exact (h2 (.agg cs) u (.agg cs hcs) hc).cv
  |tup cs hcs=>obtain ⟨us,h1,h3⟩:=hc;exact ⟨us,h1,(h3.monoI fun x hx u hu=>h2 x u (hcs x hx) hu).mapl fun _ _ h=>h⟩
end
end Go.Proofs.YtknkhdjhongklaaGreat
namespace Go.Proofs.YtknkhdjhongklaaGreat
open Go.RowKit
section
variable {P:Program} {C:Pc} {a:Act} {w:World} {β1:List (Nat×Nat)} {t:List (Nat×PV)} {h1:List Ca} {ρ:List Nat}
theorem Xx {ρ:List Nat} {n:Nat} {o:Ca} {c:Nat}:Bc (Al ρ n o) c↔Bc o c:=by cases o<;>exact Iff.rfl
theorem lF {gv:Bool} {f:FuncId} {e:Na} (S1:Oa C ⟨t,h1⟩ a w β1) (hg:GC P f e) (hgood:e.RS.good gv=true) (hnd:ρ.Nodup) (hlt:∀j∈ρ,j<h1.length) {vs:List PV} {s:HL e.ah} {r:HL e.rh} (hf:e.AS.find gv ρ h1 vs=some (up e.ah s)) (hs:e.sh s=some r)
    {us:List Value} (hus:F2 (Cv w (Da h1 β1) C.X h1 β1) vs us) {d:PV} {h':List Ca} (g5:e.RS.fill (up e.rh r)=some ([d],h')):Calls P f us.toArray w fun ex w'=>∃u βc,ex=.returned u∧Oa C ⟨t,Rc ρ h1.length ρ h' h1⟩ a w' βc∧Gb w h1 β1 w' (Rc ρ h1.length ρ h' h1) βc∧Cv w' (Da (Rc ρ h1.length ρ h' h1) βc) C.X (Rc ρ h1.length ρ h' h1) βc (NQ ρ h1.length d) u∧∀b,b<w.heap.size→(∀k∈ρ,∀c,β1[k]?≠some (b,c))→w'.heap[b]? =w.heap[b]? :=by
  obtain ⟨ds,os,g1,g2,g3,g4⟩:=T5 hf
  have g6:=hg s r hs ds os g1 d h' g5
  have hliv:∀b,Da os (Wc ρ β1) b→Da h1 β1 b:=fun b=>FQ S1.heap hlt g3
  have Mv:=Q5 (gv:=gv) (X:=C.X) (X':=fun b=>C.X b∨(gv=false∧Da h1 β1 b∧¬Da os (Wc ρ β1) b)) S1.heap hlt g2 g3 (fun b hn hx h=>h.elim hx fun h=>hn h.2.1) (fun b hgv hl _ hx=>hx.elim (S1.heap.nx b hl) fun h=>by rw [hgv] at h;exact absurd h.1 (by decide))
  have hH:=R5 S1.heap Mv hlt hnd g2 g3 (fun b hb hx=>hx.elim (S1.heap.nx b (hliv b hb)) fun h=>h.2.2 hb)
  refine Calls.mono (g6 w _ _ us (fun b hb=>hb.elim (S1.xlt b) fun h=>Da.lt S1.heap h.2.1) hH (g4 _ _ _ _ _ _ _ Mv us hus) ((S1.cl.2.step S1.step).sub hliv)) ?_
  rintro ex w' ⟨u,β',rfl,hst,hh',hu⟩
  obtain ⟨gd,go⟩:=Zc.fill_good hgood g5
  have hb1:β1.length=h1.length:=S1.heap.len
  have hb':β'.length=h'.length:=hh'.len
  have hol:ρ.length≤h'.length:=by rw [←g2];exact hst.hle.1
  generalize hn:h1.length=n at *
  have sgβ:∀(k:Nat) p,β'[k]? =some p→(β1++β'.drop ρ.length)[sg ρ n k]? =some p:=fun k p hk=>by
    unfold sg
    cases hr:ρ[k]? with
    |some j =>
     have hj:j<n:=hlt j (List.mem_of_getElem? hr)
     have hjb:β1[j]? =some β1[j]:=List.getElem?_eq_getElem (by omega)
     have:=hst.beta k _ (EQ hr hjb)
     rw [hk] at this
     injection this with this
     subst this
     show (β1++β'.drop ρ.length)[j]? =some β1[j]
     rw [List.getElem?_append_left (by omega)]
     exact hjb
    |none =>
     have hkl:=List.getElem?_eq_none_iff.1 hr
     show (β1++β'.drop ρ.length)[n+(k-ρ.length)]? =some p
     rw [List.getElem?_append_right (by omega),hb1,Nat.add_sub_cancel_left,List.getElem?_drop,show ρ.length+(k-ρ.length)=k by omega]
     exact hk
  have sgO:∀(k:Nat) o,h'[k]? =some o→(Rc ρ n ρ h' h1)[sg ρ n k]? =some (Al ρ n o):=fun k o hk=>by
    unfold sg
    cases hr:ρ[k]? with
    |some j=>simp only;rw [PQ ρ n ρ h' h1 hol hnd (fun j hj=>by rw [hn];exact hlt j hj) k j hr,hk];rfl
    |none =>
     have hkl:=List.getElem?_eq_none_iff.1 hr
     have:=QQ ρ n ρ h' h1 hol (k-ρ.length)
     rw [hn,show ρ.length+(k-ρ.length)=k by omega,hk] at this
     exact this
  have hcl:(Rc ρ n ρ h' h1).length=n+(h'.length-ρ.length):=by rw [Z5 ρ n ρ h' h1 hol,hn]
  have inv:∀(i:Nat) o,(Rc ρ n ρ h' h1)[i]? =some o→(i<n∧i∉ρ∧h1[i]? =some o)∨∃k o',h'[k]? =some o'∧i=sg ρ n k∧o=Al ρ n o':=fun i o hi=>by
    rcases Nat.lt_or_ge i n with hin|hin
    ·by_cases hm:i∈ρ
     ·obtain ⟨k,hk⟩:=List.getElem?_of_mem hm
      rw [PQ ρ n ρ h' h1 hol hnd (fun j hj=>by rw [hn];exact hlt j hj) k i hk] at hi
      obtain ⟨o',h2,rfl⟩:=Option.map_eq_some_iff.1 hi
      exact .inr ⟨k,o',h2,by unfold sg;rw [hk],rfl⟩
     ·rw [OQ ρ n ρ h' h1 hol i (by omega) hm] at hi
      exact .inl ⟨hin,hm,hi⟩
    ·have:=QQ ρ n ρ h' h1 hol (i-n)
     rw [hn,show n+(i-n)=i by omega,hi] at this
     obtain ⟨o',h2,h3⟩:=Option.map_eq_some_iff.1 this.symm
     refine .inr ⟨ρ.length+(i-n),o',h2,?_,h3.symm⟩
     unfold sg
     rw [List.getElem?_eq_none (by omega)]
     simp only
     omega
  have hkey:∀(k:Nat) (o':Ca) (b c:Nat),h'[k]? =some o'→(β1++β'.drop ρ.length)[sg ρ n k]? =some (b,c)→β'[k]? =some (b,c):=fun k o' b c h2 h3=>by
    have hkl:k<β'.length:=by rw [hb'];exact (List.getElem?_eq_some_iff.1 h2).1
    have h4:=List.getElem?_eq_getElem hkl
    rw [sgβ k _ h4] at h3
    rw [h4,h3]
  have livc:∀b,Da (Rc ρ n ρ h' h1) (β1++β'.drop ρ.length) b→(∃i o c,i∉ρ∧h1[i]? =some o∧Bc o c∧β1[i]? =some (b,c))∨Da h' β' b:=fun b ⟨i,o,c,q1,q2,q3⟩=>by
    rcases inv i o q1 with ⟨q4,q5,q6⟩|⟨k,o',q4,rfl,rfl⟩
    ·rw [List.getElem?_append_left (by omega)] at q3
     exact .inl ⟨i,o,c,q5,q6,q2,q3⟩
    ·exact .inr ⟨k,o',c,q4,Xx.1 q2,hkey k o' b c q4 q3⟩
  have oth:∀(i:Nat) (o:Ca) (b c:Nat),i∉ρ→h1[i]? =some o→Bc o c→β1[i]? =some (b,c)→¬Da os (Wc ρ β1) b:=fun i o b c q1 q2 q3 q4 ⟨k,o',c',q5,q6,q7⟩=>by
    obtain ⟨j,o2,q8,q9,q10,q11⟩:=Fv S1.heap (fun j hj=>by rw [hn];exact hlt j hj) g3 q5 q6 q7
    have:=S1.heap.inj i j o o2 b c c' q2 q9 q3 q10 q4 q11
    subst this
    exact q1 (List.mem_of_getElem? q8)
  have Hg:∀x u,GI gv x→Ri w' (Da h' β') (fun b=>C.X b∨(gv=false∧Da h1 β1 b∧¬Da os (Wc ρ β1) b)) x u→Ri w' (Da (Rc ρ n ρ h' h1) (β1++β'.drop ρ.length)) C.X x u:=fun x u hgx hc=>by
    cases hgx with
    |s v=>cases hc;exact .s _
    |nil=>cases hc;exact .nil _
    |sl τ xs hgv =>
     refine lC (fun b q1 q2=>⟨fun hl=>?_,fun hx=>q2 (.inl hx)⟩) (.sl τ xs rfl) hc
     rcases livc b hl with ⟨i,o,c,q3,q4,q5,q6⟩|q3
     ·exact q2 (.inr ⟨hgv,⟨i,o,c,q4,q5,q6⟩,oth i o b c q3 q4 q5 q6⟩)
     ·exact q1 q3
  have hlen:∀k,k<h'.length→sg ρ n k<(Rc ρ n ρ h' h1).length∧Vb (Rc ρ n ρ h' h1) (sg ρ n k)=false:=fun k hk=>by
    have q1:=sgO k _ (List.getElem?_eq_getElem hk)
    refine ⟨(List.getElem?_eq_some_iff.1 q1).1,?_⟩
    have q2:=go _ (List.getElem_mem hk)
    unfold Vb
    rw [q1]
    generalize h'[k]=o at *
    cases q2<;>rfl
  have hrow:∀k t τ (xs:List (El τ)),k<h'.length→(Rc ρ n ρ h' h1)[sg ρ n k]? =some (.row t τ xs)→h'[k]? =some (.row t τ xs):=fun k t τ xs hk q=>by
    have q1:=sgO k _ (List.getElem?_eq_getElem hk)
    rw [q1] at q
    rw [List.getElem?_eq_getElem hk]
    generalize h'[k]=o at *
    injection q with q
    cases o<;>first|(cases q;done)|(simp only [Al] at q;rw [q])
  have hC1:∀v u,G1 gv v→C1 w' (Da h' β') _ h' β' v u→C1 w' (Da (Rc ρ n ρ h' h1) (β1++β'.drop ρ.length)) C.X (Rc ρ n ρ h' h1) (β1++β'.drop ρ.length) (Jv ρ n v) u:=fun v u hgv hc=>lD Hg sgβ hlen hrow hgv hc
  have hblk:∀b,b<w.heap.size→¬Da h1 β1 b→w'.heap[b]? =w.heap[b]? :=fun b hb hn=>hst.block b hb fun h=>hn (hliv b h)
  have hnew:∀b,b<w.heap.size→Da (Rc ρ n ρ h' h1) (β1++β'.drop ρ.length) b→Da h1 β1 b:=fun b hb hl=>by
    rcases livc b hl with ⟨i,o,c,q3,q4,q5,q6⟩|q3
    ·exact ⟨i,o,c,q4,q5,q6⟩
    ·exact hliv b (hst.new b hb q3)
  have hle:Cc h1 (Rc ρ n ρ h' h1):=⟨by rw [hcl,hn];omega,fun i t τ xs' hi q=>by
    rcases inv i _ q with ⟨_,_,q1⟩|⟨k,o',q1,rfl,q2⟩
    ·exact .inl ⟨xs',q1,rfl⟩
    ·have q3:h'[k]? =some (.row t τ xs'):=hrow k t τ xs' (List.getElem?_eq_some_iff.1 q1).1 q
     rcases Nat.lt_or_ge k ρ.length with hk|hk
     ·have hr:=List.getElem?_eq_getElem hk
      have e:sg ρ n k=ρ[k]:=by unfold sg;rw [hr]
      rw [e]
      rcases hst.hle.2.1 k t τ xs' (by rw [g2];exact hk) q3 with ⟨xs,q4,q5⟩|q4
      ·obtain ⟨j,q6,q7⟩:=g3 k _ q4
       rw [hr] at q6
       injection q6 with q6
       subst q6
       cases q7 with
       |row _ _ _ hj=>exact .inl ⟨xs,hj,q5⟩
       |nil _ _ hj=>exact .inr hj
      ·rw [GQ g3 k] at q4;cases q4
     ·exfalso
      unfold sg at hi
      rw [List.getElem?_eq_none hk] at hi
      simp only at hi
      omega,fun i hi q=>by
    cases hq:(Rc ρ n ρ h' h1)[i]? with
    |none=>simp [Vb,hq] at q
    |some o =>
     rcases inv i o hq with ⟨_,_,q1⟩|⟨k,o',q1,rfl,rfl⟩
     ·unfold Vb at q ⊢;rw [hq] at q;rw [q1];exact q
     ·rw [(hlen k (List.getElem?_eq_some_iff.1 q1).1).2] at q;cases q⟩
  have occ:∀{i:Nat} {p:Nat×Nat} {σ:Ty} {u:Value},Va w' (Rc ρ n ρ h' h1) (β1++β'.drop ρ.length) i p σ u→(i∉ρ∧Va w h1 β1 i p σ u)∨∃k,i=sg ρ n k∧Va w' h' β' k p σ u:=fun {i p σ u} ho=>by
    have ho':=ho
    obtain ⟨t,τ,xs,b,c,us,junk,z1,z2,z3⟩:=ho'
    rcases inv i _ z1 with ⟨q1,q2,q3⟩|⟨k,o',q1,q2,q3⟩
    ·exact .inl ⟨q2,Tu S1.heap q3 z1 (fun q=>Yl _ _ _) (fun b c q4 _ q5=>hst.block b (Da.lt S1.heap ⟨i,_,c,q3,q5,q4⟩) (oth i _ b c q2 q3 q5 q4)) hblk ho⟩
    ·refine .inr ⟨k,q2,t,τ,xs,b,c,us,junk,?_,hkey k o' b c q1 (q2▸z2),z3⟩
     cases o'<;>first|(cases q3;done)|(simp only [Al] at q3;rw [q1,q3])
  have occO:∀{i:Nat} {p:Nat×Nat} {m:Nat},m<w.heap.size→(∃k,i=sg ρ n k∧Mb w' h' β' k p m)→(∃j p',j∈ρ∧Mb w h1 β1 j p' m)∨Da h1 β1 m:=fun {i p m} hm ⟨k,_,ho⟩=>by
    rcases hst.fp k p m hm ho with ⟨k',p',σ,u,z1,z2⟩|z1
    ·obtain ⟨j,g1,g2⟩:=Ux S1.heap (fun j hj=>by rw [hn];exact hlt j hj) g3 z1
     exact .inl ⟨j,p',List.mem_of_getElem? g1,σ,u,g2,z2⟩
    ·exact .inr (hliv m z1)
  have huq:∀(i:Nat) (p:Nat×Nat) (j:Nat) (q:Nat×Nat) (m:Nat),Mb w' (Rc ρ n ρ h' h1) (β1++β'.drop ρ.length) i p m→Mb w' (Rc ρ n ρ h' h1) (β1++β'.drop ρ.length) j q m→i=j∧p=q:=fun i p j q m ⟨σ,u,z1,z2⟩ ⟨σ',u',y1,y2⟩=>by
    have mix:∀{i p j q σ u σ' u'},i∉ρ→Va w h1 β1 i p σ u→Jc u m→(∃k,j=sg ρ n k∧Va w' h' β' k q σ' u')→Jc u' m→False:=fun {i p j q σ u σ' u'} x1 x2 x3 ⟨k,x4,x5⟩ x6=>by
      have x7:=S1.heap.occ ⟨σ,u,x2,x3⟩
      rcases occO x7.1 ⟨k,x4,σ',u',x5,x6⟩ with ⟨j',p',x8,x9⟩|x8
      ·have:=(S1.heap.uq i p j' p' m ⟨σ,u,x2,x3⟩ x9).1
       subst this
       exact x1 x8
      ·exact x7.2 x8
    rcases occ z1 with ⟨z3,z4⟩|z3<;>rcases occ y1 with ⟨y3,y4⟩|y3
    ·exact S1.heap.uq i p j q m ⟨σ,u,z4,z2⟩ ⟨σ',u',y4,y2⟩
    ·exact (mix z3 z4 z2 y3 y2).elim
    ·exact (mix y3 y4 y2 z3 z2).elim
    ·obtain ⟨k,rfl,z4⟩:=z3
     obtain ⟨l,rfl,y4⟩:=y3
     obtain ⟨e1,e2⟩:=hh'.uq k p l q m ⟨σ,u,z4,z2⟩ ⟨σ',u',y4,y2⟩
     exact ⟨by rw [e1],e2⟩
  have hpl:∀(i:Nat) (p:Nat×Nat) (σ:Ty) (u:Value) (m:Nat),Va w' (Rc ρ n ρ h' h1) (β1++β'.drop ρ.length) i p σ u→Jc u m→Gg w' σ u:=fun i p σ u m z1 z2=>by
    rcases occ z1 with ⟨_,z4⟩|⟨k,_,z4⟩
    ·have z5:=De S1.heap.ok z4 z2
     exact (S1.heap.pl i p σ u m z4 z2).keep z2 (hblk m z5.1 z5.2)
    ·exact hh'.pl k p σ u m z4 z2
  have hstep:Gb w h1 β1 w' (Rc ρ n ρ h' h1) (β1++β'.drop ρ.length):=⟨hst.os,hst.tape,hst.output,hst.size,hblk,hnew,Yl _,hle,fun i p m hm ⟨σ,u,z1,z2⟩=>by
    rcases occ z1 with ⟨_,z4⟩|⟨k,z3,z4⟩
    ·exact .inl ⟨i,p,σ,u,z4,z2⟩
    ·rcases occO hm ⟨k,z3,σ,u,z4,z2⟩ with ⟨j',p',_,x9⟩|x8
     ·exact .inl ⟨j',p',x9⟩
     ·exact .inr x8⟩
  have hE:∀b,b<w.heap.size→¬Da h1 β1 b→¬Da (Rc ρ n ρ h' h1) (β1++β'.drop ρ.length) b:=fun b hb hn h=>hn (hnew b hb h)
  refine ⟨u,β1++β'.drop ρ.length,rfl,S1.world hstep ⟨by rw [List.length_append,List.length_drop,hcl];omega,fun _ h=>h,fun b hb=>?_,fun i o hi=>?_,fun i j o o' b c c' hi hj li lj bi bj=>?_,huq,hpl⟩,hstep,lE hC1 (gd d (List.mem_singleton.2 rfl)) hu,fun b hb hk=>?_⟩
  ·rcases livc b hb with ⟨i,o,c,q3,q4,q5,q6⟩|q3
   ·exact S1.heap.nx b ⟨i,o,c,q4,q5,q6⟩
   ·exact fun hx=>hh'.nx b q3 (.inl hx)
  ·rcases inv i o hi with ⟨q1,q2,q3⟩|⟨k,o',q1,rfl,rfl⟩
   ·exact (S1.heap.ok i o q3).keep (fun b c q4 q5=>hst.block b (Da.lt S1.heap ⟨i,o,c,q3,q5,q4⟩) (oth i o b c q2 q3 q5 q4)) hblk hst.size hE hle (Yl _)
   ·have q2:=hh'.ok k o' q1
    have q3:=go _ (List.mem_of_getElem? q1)
    cases q3 with
    |dead=>trivial
    |row t τ xs hfl =>
     obtain ⟨b,c,z1,z2,z3,z4⟩:=q2
     refine ⟨b,c,sgβ _ _ z1,z2,z3,fun hc=>?_⟩
     obtain ⟨us',junk,y1,y2,y3⟩:=z4 hc
     exact ⟨us',junk,y1,y2.monoI fun x hx u hu=>Hg x u (Bp τ xs hfl x hx) hu,y3⟩
    |box t cs hcs =>
     obtain ⟨b,c,us',z1,z2,z3,z4⟩:=q2
     exact ⟨b,c,us',sgβ _ _ z1,z2,(z3.monoI fun x hx u hu=>hC1 x u (hcs x hx) hu).mapl fun _ _ h=>h,z4⟩
  ·rcases inv i o hi with ⟨q1,q2,q3⟩|⟨k,o1,q1,rfl,rfl⟩
   ·rw [List.getElem?_append_left (by omega)] at bi
    rcases inv j o' hj with ⟨p1,p2,p3⟩|⟨l,o2,p1,rfl,rfl⟩
    ·rw [List.getElem?_append_left (by omega)] at bj
     exact S1.heap.inj i j o o' b c c' q3 p3 li lj bi bj
    ·exfalso
     have bj:=hkey l o2 b c' p1 bj
     have hl:Da h' β' b:=⟨l,o2,c',p1,Xx.1 lj,bj⟩
     have hbw:b<w.heap.size:=Da.lt S1.heap ⟨i,o,c,q3,li,bi⟩
     exact oth i o b c q2 q3 li bi (hst.new b hbw hl)
   ·have bi:=hkey k o1 b c q1 bi
    rcases inv j o' hj with ⟨p1,p2,p3⟩|⟨l,o2,p1,rfl,rfl⟩
    ·exfalso
     rw [List.getElem?_append_left (by omega)] at bj
     have hl:Da h' β' b:=⟨k,o1,c,q1,Xx.1 li,bi⟩
     have hbw:b<w.heap.size:=Da.lt S1.heap ⟨j,o',c',p3,lj,bj⟩
     exact oth j o' b c' p2 p3 lj bj (hst.new b hbw hl)
    ·have bj:=hkey l o2 b c' p1 bj
     rw [hh'.inj k l o1 o2 b c c' q1 p1 (Xx.1 li) (Xx.1 lj) bi bj]
  ·refine hst.block b hb fun ⟨k,o',c,q1,q2,q3⟩=>?_
   obtain ⟨j,o2,q8,q9,q10,q11⟩:=Fv S1.heap (fun j hj=>by rw [hn];exact hlt j hj) g3 q1 q2 q3
   exact hk j (List.mem_of_getElem? q8) c q11
end
end Go.Proofs.YtknkhdjhongklaaGreat
namespace Go.Proofs.YtknkhdjhongklaaGreat
open Go.RowKit
abbrev AQ:=Exit→St→Prop
def Ff (C:Pc) (Q:AQ):Exit→Act→World→Prop:=fun e a w=>∃st β,Q e st∧Oa C st a w β
def Yx (P:Program) (M N:Nat) (c:Code) (Q:AQ) (st:St):Prop:=∀C a w β,C.N=N→C.h.length=M→Oa C st a w β→c.wp P (Ff C Q) a w
def RQ (P:Program) (M N:Nat) (ops:Array Oper) (Q:AQ) (l:List Oper) (st:St):Prop:=∀C a w β,C.N=N→C.h.length=M→Oa C st a w β→wpList P ops (Ff C Q) l a w
structure Xa where
  F:Td
  eid:Nat
  FX:Td
  FR:Td
  sh:HL F.hs→Option (HL FX.hs⊕HL FR.hs)
structure Ka where
  tab:TypeId→Option TI
  Γ:FuncId→List PV→Option Na
  N:Nat
  M:Nat
  plan:Nat→Option (Nat×List (Nat×Bool)×List Nat)
  loop:Nat→Option Xa
  bad:(ρ:Type)→Nat→Option Oper→St→Option ρ
def Hd (G:Ka):Prop:=∀ρ n o st,G.bad ρ n o st=none
def Zx (t:List (Nat×PV)):List Operand→Option (List PV)
  |[]=>some []
  |x::r=>match Za t x,Zx t r with|some v,some l=>some (v::l)|_,_=>none
def ZH (st:St) (f:Operand) (args:List Operand):Option (FuncId×List PV):=match Za st.t f,Zx st.t args with
  |some (.fn g caps),some vs=>some (g,vs++caps)
  |_,_=>none
def SQ:T1→PV→List Nat
  | .b (.sl true _),.own j=>[j]
  |_,_=>[]
def Bl {α:Type} (f:α→PV→List Nat):List α→List PV→List Nat
  |t::ts,x::xs=>f t x++Bl f ts xs
  |_,_=>[]
def lG:T2→PV→List Nat
  | .agg ts,.agg cs=>Bl SQ ts cs
  | .fn _ ts,.fn _ cs=>Bl SQ ts cs
  | .one t,v=>SQ t v
  |_,_=>[]
def Cp:Tm→PV→List Nat
  | .c t,v=>lG t v
  |_,_=>[]
def Qh:List Nat→St→St
  |[],st=>st
  |k::r,st=>Qh r (frz k st)
theorem A6 {C:Pc} {a:Act} {w:World} {β:List (Nat×Nat)}:∀(l:List Nat) {st:St},Oa C st a w β→Oa C (Qh l st) a w β∧Gb w st.h β w (Qh l st).h β
  |[],st,S=>⟨S,Gb.refl _ _ _⟩
  |k::r,st,S=>by
   obtain ⟨h1,h2⟩:=A6 r (S.frz k)
   refine ⟨h1,Gb.trans ?_ h2⟩
   unfold frz
   split
   ·exact ⟨rfl,rfl,rfl,Nat.le_refl _,fun _ _ _=>rfl,fun b _=>Wo,fun _ _ h=>h,Rx _,fun j p n _ h=>.inl ⟨j,p,Xo h⟩⟩
   ·exact Gb.refl _ _ _
def Cl (S:Zc):Bool:=S.good true
theorem lH {S:Zc} (h:S.good false=true):S.good (Cl S)=true:=by
  cases e:Cl S with
  |false=>exact h
  |true =>
   exact e
def TQ {ρ:Type} (bad:Nat→Option ρ) (d:Option Nat) (e:Na) (ks:List Nat) (vr:List Ca) (t:List (Nat×PV)) (h1:List Ca) (vs:List PV) (K:List Nat→St→Option ρ):Option ρ :=
  bif Un vr&&Em 0 ks h1&&e.RS.good false then (match e.AS.find (Cl e.RS) ks h1 vs with
    |some l=>(match Ef e.ah l with
     |some s=>(e.sh s).bind fun r=>(match e.RS.fill (up e.rh r) with
      |some ([v],h')=>K ks (St.put ⟨t,Rc ks h1.length ks h' h1⟩ d (NQ ks h1.length v))
      |_=>bad 23)
     |none=>bad 22)
    |none=>bad 21) else bad 20
def Ep {ρ:Type} (G:Ka) (o:Oper) (c:Call) (st:St) (K:List Nat→St→Option ρ):Option ρ:=match c.callee with
  | .value f=>match ZH st f c.args.toList with
    |some (g,vs0)=>(match G.Γ g vs0 with
     |some e=>(match ZH (Qh (bif Cl e.RS then [] else Bl Cp e.AS.vs vs0) st) f c.args.toList with
      |some (g',vs)=>bif Nat.beq g' g then TQ (fun n=>G.bad ρ n (some o) st) o.dst e (e.AS.rho 0 (Qh (bif Cl e.RS then [] else Bl Cp e.AS.vs vs0) st).h vs).1 (e.AS.rho 0 (Qh (bif Cl e.RS then [] else Bl Cp e.AS.vs vs0) st).h vs).2 (Qh (bif Cl e.RS then [] else Bl Cp e.AS.vs vs0) st).t ((Qh (bif Cl e.RS then [] else Bl Cp e.AS.vs vs0) st).h++(e.AS.rho 0 (Qh (bif Cl e.RS then [] else Bl Cp e.AS.vs vs0) st).h vs).2) vs K else G.bad ρ 13 (some o) st
      |none=>G.bad ρ 12 (some o) st)
     |none=>G.bad ρ 11 (some o) st)
    |none=>G.bad ρ 10 (some o) st
  |_=>G.bad ρ 14 (some o) st
def Ma (P:Program) (Γ:FuncId→List PV→Option Na):Prop:=∀f vs e,Γ f vs=some e→GC P f e∧∀args w,(callFunc f args).run P w=.ok (.enter f args) w
def UQ (P:Program) (ks:List Nat) (o:Oper) (st st':St):Prop:=∀C a w β,Oa C st a w β→(∀i,o.dst=some i→i<C.N)→∀K Q,(∀u w' β',Oa C st' (a.put o.dst u) w' β'→Gb w st.h β w' st'.h β'→((∀k∈ks,k<st.h.length)→∀b,b<w.heap.size→(∀k∈ks,∀c,β[k]?≠some (b,c))→w'.heap[b]? =w.heap[b]?)→K (a.put o.dst u) w')→o.wp P a w K Q
section
variable {P:Program} {st:St} {o:Oper} {G:Ka}
theorem B6 {C:Pc} {E:Nat→Prop} {a:Act} {w:World} {β:List (Nat×Nat)} (S:Jb C E st a w β):∀{xs:List Operand} {vs:List PV},Zx st.t xs=some vs→F2 (Cv w E C.X st.h β) vs (xs.map a.eval)
  |[],vs,h=>by
   simp only [Zx,Option.some.injEq] at h
   subst h
   exact F2.nil
  |x::r,vs,h=>by
   simp only [Zx] at h
   split at h
   ·rename_i v l hv hl
    injection h with h
    subst h
    exact F2.cons (S.op hv) (B6 S hl)
   ·cases h
theorem C6 {C:Pc} {E:Nat→Prop} {a:Act} {w:World} {β:List (Nat×Nat)} (S:Jb C E st a w β) {f:Operand} {xs:List Operand} {g:FuncId} {vs:List PV} (h:ZH st f xs=some (g,vs)):∃cs:List Value,a.eval f=.func (.func g) #[] cs.toArray∧F2 (Cv w E C.X st.h β) vs (xs.map a.eval++cs):=by
  unfold ZH at h
  split at h
  ·rename_i g' caps vs' hf hx
   injection h with h
   injection h with h1 h2
   subst h1 h2
   obtain ⟨us,h3,h4⟩:=S.op hf
   exact ⟨us,h3,(B6 S hx).app (h4.mono fun x u h=>h.cv)⟩
  ·cases h
theorem D6 {ρ:Type} (HB:Hd G) (H:Ma P G.Γ) {c:Call} (ho:o.op=.call c) {K:List Nat→St→Option ρ} {r:ρ} (h:Ep G o c st K=some r):∃ks st',UQ P ks o st st'∧K ks st'=some r:=by
  unfold Ep at h
  split at h
  case h_2=>rw [HB] at h;cases h
  rename_i f hcal
  split at h
  case h_2=>rw [HB] at h;cases h
  rename_i g vs0 hv0
  split at h
  case h_2=>rw [HB] at h;cases h
  rename_i e he
  obtain ⟨hgc,hrun⟩:=H g vs0 e he
  generalize (bif Cl e.RS then [] else Bl Cp e.AS.vs vs0)=js at h
  split at h
  case h_2=>rw [HB] at h;cases h
  rename_i g' vs hvs
  cases hq:Nat.beq g' g with
  |false=>rw [hq] at h;simp only [cond_false] at h;rw [HB] at h;cases h
  |true =>
   rw [hq] at h
   have hgg:=Nat.eq_of_beq_eq_true hq
   subst hgg
   simp only [cond_true] at h
   generalize (e.AS.rho 0 (Qh js st).h vs).1=ks at h
   generalize (e.AS.rho 0 (Qh js st).h vs).2=vr at h
   unfold TQ at h
   cases hb:(Un vr&&Em 0 ks ((Qh js st).h++vr)&&e.RS.good false) with
   |false=>rw [hb] at h;simp only [cond_false] at h;rw [HB] at h;cases h
   |true =>
    rw [hb] at h
    simp only [cond_true] at h
    simp only [Bool.and_eq_true] at hb
    obtain ⟨⟨hb1,hb2⟩,hb3⟩:=hb
    split at h
    case h_2=>rw [HB] at h;cases h
    rename_i l hl
    split at h
    case h_2=>rw [HB] at h;cases h
    rename_i s hs
    obtain ⟨r1,h1,h2⟩:=Option.bind_eq_some_iff.1 h
    split at h2
    case h_2=>rw [HB] at h2;cases h2
    rename_i d h' hd
    refine ⟨ks,_,?_,h2⟩
    intro C a w β S hdst KK Q hK
    obtain ⟨S0,hst0⟩:=A6 js S
    obtain ⟨cs,hf,_⟩:=C6 S0 hvs
    obtain ⟨β1,S1,hst1⟩:=S0.virt vr hb1
    obtain ⟨cs',hf',hus⟩:=C6 (st:=⟨(Qh js st).t,(Qh js st).h++vr⟩) S1 hvs
    rw [hf] at hf'
    have hcs:cs'=cs:=by
      injection hf' with _ _ hf'
      have:=congrArg Array.toList hf'
      simpa using this.symm
    subst hcs
    simp only [Em,Bool.and_eq_true] at hb2
    obtain ⟨⟨_,hnd⟩,hlt⟩:=hb2
    rw [←Rn hs] at hl
    have hcall:=lF S1 hgc (lH hb3) (HQ hnd) (IQ hlt) hl h1 hus hd
    have hex:(execOp a.eval o).run P w=.ok (.enter g' (c.args.toList.map a.eval++cs').toArray) w:=by
      obtain ⟨callee,args,argTypes⟩:=c
      simp only at hcal
      subst hcal
      simp only [execOp,ho,resolve,hf,Deferred.ofValue,Sem.run_bind,Sem.run_pure,Result.andThen_ok,invoke]
      rw [show (#[]++Array.map a.eval args++cs'.toArray)=(args.toList.map a.eval++cs').toArray from by apply Array.ext';simp,hrun]
    unfold Oper.wp
    rw [hex]
    refine Calls.mono hcall fun ex w' hx=>?_
    obtain ⟨u,βc,rfl,S2,hs2,hu,ht⟩:=hx
    have hstep:=(hst0.trans hst1).trans hs2
    refine hK u w' βc (S2.putL hdst hu) (by rw [Cf];exact hstep) fun hks b hbw hbk=>ht b hbw fun k hk c hc=>?_
    have hkl:k<β.length:=by rw [S.heap.len];exact hks k hk
    have h3:=List.getElem?_eq_getElem hkl
    have h4:=(hst0.trans hst1).beta k _ h3
    rw [hc] at h4
    injection h4 with h4
    exact hbk k hk c (by rw [h3,←h4])
def Nd (N:Nat):Option Nat→Bool
  |none=>true
  |some d=>Nat.blt d N
theorem Ak {N:Nat} {d:Option Nat} (h:Nd N d=true):∀i,d=some i→i<N:=fun i hi=>by
  subst hi
  exact Nat.blt_eq.mp h
def lI (st:St):Op→Option Nat
  | .slice _ x _ _ none=>match Za st.t x with|some (.own k)=>some k|_=>none
  |_=>none
def Bk {ρ:Type} (G:Ka) (o:Oper) (st:St) (K:St→Option ρ):Option ρ:=bif Nd G.N o.dst then
  (match Vj G.tab st o.op with
  |some (c,v)=>bif c then K (st.put o.dst v) else none
  |none=>match Zk G.tab st o.op o.dst with
   |some (c,_,st',v)=>bif c then K (Ee st' o.dst v) else none
   |none=>match o.op with
    | .call c=>Ep G o c st (fun _ st'=>K st')
    |_=>match lI st o.op with
     |some k=>(match Vj G.tab (frz k st) o.op with
      |some (c,v)=>bif c then K ((frz k st).put o.dst v) else none
      |none=>G.bad ρ 1 (some o) st)
     |none=>G.bad ρ 1 (some o) st) else G.bad ρ 0 (some o) st
theorem E6 {ρ:Type} (HB:Hd G) (HT:Qb P G.tab) (H:Ma P G.Γ) {K:St→Option ρ} {r:ρ} (h:Bk G o st K=some r):Nd G.N o.dst=true∧∃st',K st'=some r∧∀C a w β,Oa C st a w β→C.N=G.N→∀KK Q,(∀u w' β',Oa C st' (a.put o.dst u) w' β'→KK (a.put o.dst u) w')→o.wp P a w KK Q:=by
  unfold Bk at h
  cases hd:Nd G.N o.dst with
  |false=>rw [hd] at h;simp only [cond_false] at h;rw [HB] at h;cases h
  |true =>
   rw [hd] at h
   simp only [cond_true] at h
   refine ⟨rfl,?_⟩
   split at h
   ·rename_i c v hv
    cases c with
    |false=>cases h
    |true=>exact ⟨_,h,fun C a w β S hN KK Q hK=>SP (CH HT hv rfl) C a w β S (by rw [hN];exact Ak hd) KK Q fun u w' β' S' _ _=>hK u w' β' S'⟩
   ·split at h
    ·rename_i c bl st' v hv
     cases c with
     |false=>cases h
     |true=>exact ⟨_,h,fun C a w β S hN KK Q hK=>I5 HT hv rfl C a w β S (by rw [hN];exact Ak hd) KK Q fun u w' β' S' _ _=>hK u w' β' S'⟩
    ·split at h
     ·rename_i c hc
      obtain ⟨ks,st',h1,h2⟩:=D6 HB H hc h
      exact ⟨st',h2,fun C a w β S hN KK Q hK=>h1 C a w β S (by rw [hN];exact Ak hd) KK Q fun u w' β' S' _ _=>hK u w' β' S'⟩
     ·split at h
      ·rename_i k _
       split at h
       ·rename_i c v hv
        cases c with
        |false=>cases h
        |true=>exact ⟨_,h,fun C a w β S hN KK Q hK=>SP (CH HT hv rfl) C a w β (S.frz k) (by rw [hN];exact Ak hd) KK Q fun u w' β' S' _ _=>hK u w' β' S'⟩
       ·rw [HB] at h;cases h
      ·rw [HB] at h;cases h
def F6:List (Nat×Bool)→Nat→Option Bool
  |[],_=>none
  |(j,b)::r,i=>bif Nat.beq j i then some b else F6 r i
def AI (ops:List Oper) (j:Nat):Option Nat:=match ops[j]? with|some o=>o.dst|none=>none
inductive Gd where
  |go|skip|bad
  |fork (d:Nat) (b:Bool)
def Vn (ops:List Oper) (kn:List (Nat×Bool)) (t:List (Nat×PV)) (j:Nat) (want:Bool):Gd:=match AI ops j with
  |some d=>match Kd t d with
   |some (.im (.s (.bool b)))=>(match F6 kn j with
    |some b'=>bif b==b' then (bif b'==want then .go else .skip) else .bad
    |none=>.fork d b)
   |some (.im (.s (.tuple _)))=>.skip
   |_=>.bad
  |none=>.bad
def setB (d:Nat) (b:Bool) (st:St):St:=⟨(d,.im (.s (.bool b)))::st.t,st.h⟩
def Ze {ρ:Type} (G:Ka) (ops:List Oper):List (Nat×Bool)→List Oper→St→(St→Option ρ)→Option ρ
  |_,[],st,K=>K st
  |kn,o::r,st,K=>match o.guard with
   |none=>Bk G o st fun st'=>Ze G ops kn r st' K
   |some (j,want)=>match Vn ops kn st.t j want with
    | .go=>Bk G o st fun st'=>Ze G ops kn r st' K
    | .skip=>bif Nd G.N o.dst then Ze G ops kn r (st.put o.dst (.im (.s undef))) K else G.bad ρ 2 (some o) st
    | .fork d b=>bif b
        then (bif want then Bk G o (setB d true st) fun st'=>Ze G ops ((j,true)::kn) r st' K else bif Nd G.N o.dst then Ze G ops ((j,true)::kn) r ((setB d true st).put o.dst (.im (.s undef))) K else G.bad ρ 2 (some o) st)
        else (bif want then bif Nd G.N o.dst then Ze G ops ((j,false)::kn) r ((setB d false st).put o.dst (.im (.s undef))) K else G.bad ρ 2 (some o) st else Bk G o (setB d false st) fun st'=>Ze G ops ((j,false)::kn) r st' K)
    | .bad=>G.bad ρ 3 (some o) st
def G6:Value→Option Bool
  | .bool b=>some b
  |_=>none
theorem lJ {C:Pc} {E:Nat→Prop} {a:Act} {w:World} {β:List (Nat×Nat)} (S:Jb C E st a w β) {ops:List Oper} {j d:Nat} {v:Value} (hj:AI ops j=some d) (hs:Kd st.t d=some (.im (.s v))):yielded ops.toArray a.tmps j=G6 v:=by
  obtain ⟨u,h1,h2⟩:=S.tm d _ hs
  have:=Nh h2
  subst this
  have e:(ops.toArray[j]?).bind (·.dst)=some d:=by
    unfold AI at hj
    split at hj
    ·rename_i o ho;simp [ho,hj]
    ·cases hj
  unfold yielded
  rw [e]
  simp only [Option.bind_some,h1]
  cases u<;>rfl
theorem Jb.setB {C:Pc} {E:Nat→Prop} {a:Act} {w:World} {β:List (Nat×Nat)} (S:Jb C E st a w β) {d:Nat} {b:Bool} (h:a.tmps[d]? =some (.bool b)):Jb C E (Go.Proofs.YtknkhdjhongklaaGreat.setB d b st) a w β :=
  ⟨S.cl,S.xw,S.step,S.heap,S.sz,S.df,fun i v hi=>by
    simp only [Go.Proofs.YtknkhdjhongklaaGreat.setB,Kd] at hi
    by_cases e:d=i
    ·subst e
     simp only [Nat.beq_refl,cond_true,Option.some.injEq] at hi
     subst hi
     exact ⟨_,h,Ri.s _⟩
    ·rw [Uk e] at hi
     exact S.tm i v hi⟩
theorem Ay {C:Pc} {E:Nat→Prop} {a:Act} {w:World} {β:List (Nat×Nat)} (S:Jb C E st a w β) {ops:List Oper} {kn:List (Nat×Bool)} {j:Nat} {want:Bool} (hg:o.guard=some (j,want)):match Vn ops kn st.t j want with
    | .go=>Region.wanted o (yielded ops.toArray a.tmps)=true
    | .skip=>Region.wanted o (yielded ops.toArray a.tmps)=false
    | .fork d b=>a.tmps[d]? =some (.bool b)∧Region.wanted o (yielded ops.toArray a.tmps)=(b==want)
    | .bad=>True:=by
  have hw:∀d v,AI ops j=some d→Kd st.t d=some (.im (.s v))→Region.wanted o (yielded ops.toArray a.tmps)=(G6 v==some want):=fun d v h1 h2=>by
    simp only [Region.wanted,hg,lJ S h1 h2]
  have key:∀g,Vn ops kn st.t j want=g→(match g with
    | .go=>Region.wanted o (yielded ops.toArray a.tmps)=true
    | .skip=>Region.wanted o (yielded ops.toArray a.tmps)=false
    | .fork d b=>a.tmps[d]? =some (.bool b)∧Region.wanted o (yielded ops.toArray a.tmps)=(b==want)
    | .bad=>True):=fun g hq=>by
    unfold Vn at hq
    split at hq
    case h_2=>subst hq;trivial
    rename_i d hd
    split at hq
    ·rename_i b hs
     split at hq
     ·rename_i b' _
      cases hb:(b==b') with
      |false=>rw [hb] at hq;subst hq;trivial
      |true =>
       rw [hb] at hq
       cases hb2:(b'==want)<;>rw [hb2] at hq<;>subst hq<;>simp only [cond_true,cond_false]<;>rw [hw d _ hd hs]<;>cases b<;>cases b'<;>cases want<;>first|rfl|(cases hb;done)|(cases hb2;done)
     ·subst hq
      obtain ⟨u,h3,h4⟩:=S.tm _ _ hs
      have:=Nh h4
      subst this
      refine ⟨h3,?_⟩
      rw [hw _ _ hd hs]
      cases b<;>cases want<;>rfl
    ·rename_i vs hs
     subst hq
     simp only
     rw [hw d _ hd hs]
     cases want<;>rfl
    ·subst hq;trivial
  exact key _ rfl
theorem Kv {ρ:Type} {Q:AQ} (HB:Hd G) (HT:Qb P G.tab) (H:Ma P G.Γ) {ops:List Oper} {K:St→Option ρ} {r:ρ} (hQ:∀st,K st=some r→Q .normal st):∀(l:List Oper) (kn:List (Nat×Bool)) (st:St),Ze G ops kn l st K=some r→RQ P G.M G.N ops.toArray Q l st
  |[],kn,st,h=>fun C a w β _ _ S=>⟨st,β,hQ st h,S⟩
  |o::l,kn,st,h=>fun C a w β hN hM S=>by
   have exec:∀kn' st1,Oa C st1 a w β→Bk G o st1 (fun st'=>Ze G ops kn' l st' K)=some r→∀KK:Act→World→Prop,(∀a w,wpList P ops.toArray (Ff C Q) l a w→KK a w)→o.wp P a w KK (Ff C Q):=fun kn' st1 S1 h KK hKK=>by
     obtain ⟨hd,st',h1,h2⟩:=E6 HB HT H h
     exact h2 C a w β S1 hN KK _ fun u w' β' S'=>hKK _ _ (Kv HB HT H hQ l kn' st' h1 C _ w' β' hN hM S')
   have skip:∀kn' st0 st1,Oa C st1 a w β→(bif Nd G.N o.dst then Ze G ops kn' l (st1.put o.dst (.im (.s undef))) K else G.bad ρ 2 (some o) st0)=some r→wpList P ops.toArray (Ff C Q) l (a.put o.dst undef) w:=fun kn' st0 st1 S1 h=>by
     cases hd:Nd G.N o.dst with
     |false=>rw [hd] at h;simp only [cond_false] at h;rw [HB] at h;cases h
     |true =>
      rw [hd] at h
      exact Kv HB HT H hQ l kn' _ h C _ w β hN hM (S1.putL (by rw [hN];exact Ak hd) (Ri.s undef))
   unfold Ze at h
   refine wpList_step fun KK hKK=>?_
   split at h
   ·rename_i hg
    simp only [Region.wanted,hg,if_true]
    exact exec kn st S h KK hKK
   ·rename_i j want hg
    have gc:=Ay S (ops:=ops) (kn:=kn) hg
    split at h
    ·rename_i e
     rw [e] at gc
     simp only [gc,if_true]
     exact exec kn st S h KK hKK
    ·rename_i e
     rw [e] at gc
     simp only [gc]
     exact hKK _ _ (skip kn st st S h)
    ·rename_i d b e
     rw [e] at gc
     obtain ⟨h1,h2⟩:=gc
     rw [h2]
     cases b<;>cases want<;>simp only [cond_true,cond_false] at h
     ·exact exec _ _ (S.setB h1) h KK hKK
     ·exact hKK _ _ (skip _ _ _ (S.setB h1) h)
     ·exact hKK _ _ (skip _ _ _ (S.setB h1) h)
     ·exact exec _ _ (S.setB h1) h KK hKK
    ·rw [HB] at h;cases h
end
end Go.Proofs.YtknkhdjhongklaaGreat
namespace Go.Proofs.YtknkhdjhongklaaGreat
open Go.RowKit
def Ic:List Nat→List Ca→List Ca
  |[],h=>h
  |k::r,h=>match h[k]? with
   |some (.box _ _)=>Ic r (h.set k .dead)
   |_=>Ic r h
def Li (h:List Ca) (k:Nat):Bool:=match h[k]? with|some (.box _ _)=>true|_=>false
def Rf (h:List Ca):List Nat→Bool
  |[]=>true
  |k::r=>Li h k&&Rf h r
theorem Ck:∀{ks:List Nat} {h:List Ca} {j:Nat} {o:Ca},(Ic ks h)[j]? =some o→h[j]? =some o∨(o=.dead∧Li h j=true)∨o=.dead
  |[],h,j,o,e=>.inl e
  |k::r,h,j,o,e=>by
   unfold Ic at e
   split at e
   ·rename_i t cs hk
    rcases Ck e with e1|⟨rfl,_⟩|rfl
    ·rw [List.getElem?_set] at e1
     split at e1
     ·split at e1
      ·injection e1 with e1;exact .inr (.inr e1.symm)
      ·cases e1
     ·exact .inl e1
    ·exact .inr (.inr rfl)
    ·exact .inr (.inr rfl)
   ·exact Ck e
theorem By:∀(ks:List Nat) (h:List Ca),(Ic ks h).length=h.length
  |[],h=>rfl
  |k::r,h=>by
   unfold Ic
   split
   ·rw [By r,List.length_set]
   ·exact By r h
theorem VQ:∀{ks:List Nat} {h:List Ca} {k:Nat},h[k]? =some .dead→(Ic ks h)[k]? =some .dead
  |[],h,k,e=>e
  |i::r,h,k,e=>by
   unfold Ic
   split
   ·rename_i t cs hi
    refine VQ ?_
    rw [List.getElem?_set]
    split
    ·rename_i ei;subst ei;rw [e] at hi;cases hi
    ·exact e
   ·exact VQ e
theorem Cy:∀{ks:List Nat} {h:List Ca} {k:Nat},k∈ks→Li h k=true→(Ic ks h)[k]? =some .dead
  |[],h,k,hk,_=>by simp at hk
  |i::r,h,k,hk,hb=>by
   have hkl:∃t cs,h[k]? =some (.box t cs):=by
     cases e:h[k]? with
     |none=>simp [Li,e] at hb
     |some o=>cases o<;>first|exact ⟨_,_,rfl⟩|simp [Li,e] at hb
   obtain ⟨t,cs,e⟩:=hkl
   by_cases ei:i=k
   ·subst ei
    unfold Ic
    rw [e]
    exact VQ (by rw [List.getElem?_set,if_pos rfl,if_pos (List.getElem?_eq_some_iff.1 e).1])
   ·have hr:k∈r:=(List.mem_cons.1 hk).resolve_left (fun h=>ei h.symm)
    unfold Ic
    split
    ·exact Cy hr (by unfold Li at *;rw [List.getElem?_set,if_neg ei];exact hb)
    ·exact Cy hr hb
theorem BI {h:List Ca}:∀{ks:List Nat},Rf h ks=true→∀k∈ks,Li h k=true
  |[],_,k,hk=>by simp at hk
  |i::r,hb,k,hk=>by
   simp only [Rf,Bool.and_eq_true] at hb
   rcases List.mem_cons.1 hk with rfl|hk
   ·exact hb.1
   ·exact BI hb.2 k hk
theorem WQ {t:TypeId} {τ:Ty} {xs:List (El τ)} {k:Nat}:∀{ks:List Nat} {h:List Ca},h[k]? =some (.row t τ xs)→(Ic ks h)[k]? =some (.row t τ xs)
  |[],h,e=>e
  |i::r,h,e=>by
   unfold Ic
   split
   ·rename_i t' cs hi
    refine WQ ?_
    by_cases ei:i=k
    ·subst ei;rw [e] at hi;cases hi
    ·rw [List.getElem?_set,if_neg ei];exact e
   ·exact WQ e
theorem CI {k:Nat}:∀{ks:List Nat} {h:List Ca},Vb (Ic ks h) k=Vb h k
  |[],h=>rfl
  |i::r,h=>by
   unfold Ic
   split
   ·rename_i t' cs hi
    rw [CI]
    by_cases ei:i=k
    ·subst ei
     unfold Vb
     rw [List.getElem?_set,if_pos rfl,if_pos (List.getElem?_eq_some_iff.1 hi).1,hi]
    ·simp only [Vb]
     rw [List.getElem?_set,if_neg ei]
   ·exact CI
theorem DI (ks:List Nat) (h:List Ca):Cc h (Ic ks h)∧Cc (Ic ks h) h:=by
  refine ⟨⟨by rw [By];exact Nat.le_refl _,fun k t τ xs _ e=>?_,fun k _ e=>by rw [←CI (ks:=ks)];exact e⟩,⟨by rw [By];exact Nat.le_refl _,fun k t τ xs _ e=>.inl ⟨xs,WQ e,rfl⟩,fun k _ e=>by rw [CI];exact e⟩⟩
  rcases Ck e with e|⟨e,_⟩|e
  ·exact .inl ⟨xs,e,rfl⟩
  ·cases e
  ·cases e
section
variable {C:Pc} {st:St} {a:Act} {w:World} {β:List (Nat×Nat)}
theorem XQ {ks:List Nat} {h:List Ca} {b:Nat} (hl:Da (Ic ks h) β b):Da h β b:=by
  obtain ⟨j,o,c,h1,h2,h3⟩:=hl
  rcases Ck h1 with e|⟨rfl,_⟩|rfl
  ·exact ⟨j,o,c,e,h2,h3⟩
  ·exact h2.elim
  ·exact h2.elim
theorem I6 {ks:List Nat} {h:List Ca} {k:Nat} {p:Nat×Nat} {σ:Ty} {u:Value} (ho:Va w (Ic ks h) β k p σ u):Va w h β k p σ u:=by
  obtain ⟨t,τ,xs,b,c,us,junk,h1,h2⟩:=ho
  rcases Ck h1 with e|⟨e,_⟩|e
  ·exact ⟨t,τ,xs,b,c,us,junk,e,h2⟩
  ·cases e
  ·cases e
theorem YQ {ks:List Nat} {h:List Ca} {k:Nat} {p:Nat×Nat} {n:Nat} (ho:Mb w (Ic ks h) β k p n):Mb w h β k p n:=by
  obtain ⟨σ,u,h1,h2⟩:=ho
  exact ⟨σ,u,I6 h1,h2⟩
theorem Jb.kill (S:Oa C st a w β) (ks:List Nat):Jb C (Da st.h β) ⟨st.t,Ic ks st.h⟩ a w β:=by
  have hle:=(DI ks st.h).1
  have keep:∀v u,C1 w (Da st.h β) C.X st.h β v u→C1 w (Da st.h β) C.X (Ic ks st.h) β v u:=fun v u hc=>hc.keep (fun _ _ _=>rfl) (Nat.le_refl _) (fun _ _ h=>h) (fun _ _ _ h=>h) hle (fun _ _ h=>h)
  refine ⟨S.cl,S.xw,S.step.trans ⟨rfl,rfl,rfl,Nat.le_refl _,fun _ _ _=>rfl,fun b _ h=>XQ h,fun _ _ h=>h,hle,fun k p _ _ h=>.inl ⟨k,p,YQ h⟩⟩,⟨by rw [By];exact S.heap.len,fun b h=>XQ h,fun b h=>S.heap.nx b (XQ h),fun k o hk=>?_,fun i j o o' b c c' hi hj li lj bi bj=>?_,fun i p j q n h1 h2=>S.heap.uq i p j q n (YQ h1) (YQ h2),fun i p σ u n h1 h2=>S.heap.pl i p σ u n (I6 h1) h2⟩,S.sz,S.df,fun i v hi=>?_⟩
  ·rcases Ck hk with e|⟨rfl,_⟩|rfl
   ·have ho:=S.heap.ok k o e
    cases o with
    |dead=>trivial
    |vrow t τ=>exact ho
    |row t τ xs=>exact ho
    |box t cs=>obtain ⟨b,c,us,h1,h2,h3,h4⟩:=ho;exact ⟨b,c,us,h1,h2,h3.mono keep,h4⟩
   ·trivial
   ·trivial
  ·rcases Ck hi with e|⟨rfl,_⟩|rfl
   ·rcases Ck hj with e'|⟨rfl,_⟩|rfl
    ·exact S.heap.inj i j o o' b c c' e e' li lj bi bj
    ·exact lj.elim
    ·exact lj.elim
   ·exact li.elim
   ·exact li.elim
  ·obtain ⟨u,h1,h2⟩:=S.tm i v hi
   exact ⟨u,h1,h2.lift keep⟩
theorem Jb.drew (S:Oa C st a w β):Oa C st a w.drew β:=S.world (w':=w.drew) ⟨rfl,rfl,rfl,Nat.le_refl _,fun _ _ _=>rfl,fun _ _ h=>h,fun _ _ h=>h,Cc.refl _,fun k p _ _ h=>.inl ⟨k,p,h⟩⟩ ⟨S.heap.len,fun _ h=>h,S.heap.nx,fun k o hk=>(S.heap.ok k o hk).keep (fun _ _ _ _=>rfl) (fun _ _ _=>rfl) (Nat.le_refl _) (fun _ _ h=>h) (Cc.refl _) (fun _ _ h=>h),S.heap.inj,S.heap.uq,S.heap.pl⟩
end
def Lv:Op→Bool
  | .load _ _=>false
  |_=>true
def Fp (t:List (Nat×PV)):Option Nat→Bool
  |none=>true
  |some d=>match Kd t d with|some _=>false|none=>true
theorem Wn {t:List (Nat×PV)} {d:Option Nat} (h:Fp t d=true):∀i,d=some i→Kd t i=none:=fun i hi=>by
  subst hi
  cases e:Kd t i with
  |none=>rfl
  |some v=>simp [Fp,e] at h
def sub:List Nat→List Nat→Bool
  |[],_=>true
  |k::r,l=>!Kg l k&&sub r l
theorem ZQ:∀{a b:List Nat},sub a b=true→∀k∈a,k∈b
  |[],b,_,k,hk=>by simp at hk
  |i::r,b,h,k,hk=>by
   simp only [sub,Bool.and_eq_true] at h
   rcases List.mem_cons.1 hk with rfl|hk
   ·have:∀{l:List Nat},Kg l k=false→k∈l:=by
      intro l
      induction l with
      |nil=>intro h;cases h
      |cons j r ih =>
       intro h
       simp only [Kg] at h
       cases hb:Nat.beq j k with
       |true=>exact List.mem_cons.2 (.inl (Nat.eq_of_beq_eq_true hb).symm)
       |false=>rw [hb] at h;exact List.mem_cons_of_mem _ (ih h)
    exact this (by simpa using h.1)
   ·exact ZQ h.2 k hk
def Gp (ks:List Nat) (st:St):Op→Bool
  | .store _ x _=>(match Za st.t x with|some (.ptr k _)=>sub [k] ks|_=>false)
  |_=>false
theorem J6 {P:Program} {tab:TypeId→Option TI} (H:Qb P tab) {ks:List Nat} {st st':St} {o:Oper} {c bl:Bool} {v:Option PV} (hk:Gp ks st o.op=true) (h:Zk tab st o.op o.dst=some (c,bl,st',v)):∃k∈ks,UQ P [k] o st (Ee st' o.dst v):=by
  unfold Gp at hk
  split at hk
  ·rename_i t x y ho
   split at hk
   ·rename_i k p hx
    refine ⟨k,ZQ hk k (List.mem_singleton.2 rfl),?_⟩
    rw [ho] at h
    simp only [Zk] at h
    split at h
    ·rename_i d q v' i hd hq hy hi
     rw [hx] at hq
     injection hq with hq
     subst hq
     split at h
     ·rename_i st1 hs
      injection h with h
      injection h with e1 h
      injection h with e2 h
      injection h with e3 e4
      subst e1 e2 e3 e4
      simp only [NH] at hs
      split at hs
      ·rename_i t' cs hb
       cases hq:((Ib v').all Te&&(Nat.beq (Ib v').length i.size&&Nat.ble (p+i.size) cs.length)) with
       |false=>rw [hq] at hs;cases hs
       |true =>
        rw [hq] at hs
        simp only [cond_true,Option.some.injEq] at hs
        subst hs
        simp only [Bool.and_eq_true] at hq
        exact fun C a w β S _ K Q hK=>O4 H ho hi hx hy hq.1 (Nat.eq_of_beq_eq_true hq.2.1) hb (Nat.le_of_ble_eq_true hq.2.2) hd C a w β S K Q fun u w' β' h1 h2 h3=>hK u w' β' h1 h2 fun _ b hb' hn=>h3 b hb' fun c=>hn k (List.mem_singleton.2 rfl) c
      ·cases hs
     ·cases h
    ·cases h
   ·cases hk
  ·cases hk
def Ve:List Ca→List Ca→Bool
  |[],_=>true
  | .row _ _ _::a,.row _ _ _::b=>Ve a b
  | .box _ _::a,.box _ _::b=>Ve a b
  | .dead::a,_::b=>Ve a b
  | .vrow _ _::a,_::b=>Ve a b
  |_,_=>false
theorem Nv {β:List (Nat×Nat)}:∀{a b:List Ca} {j:Nat} {o:Ca} {c:Nat},Ve a b=true→a[j]? =some o→Bc o c→∃o',b[j]? =some o'∧Bc o' c
  |[],b,j,o,c,_,h1,_=>by simp at h1
  | .row _ _ _::a,.row t τ xs::b,0,o,c,_,h1,h2=>by
    simp at h1;subst h1
    exact ⟨_,rfl,h2⟩
  | .box _ _::a,.box t cs::b,0,o,c,_,h1,h2=>by
    simp at h1;subst h1
    exact ⟨_,rfl,h2⟩
  | .dead::a,_::b,0,o,c,_,h1,h2=>by simp at h1;subst h1;exact h2.elim
  | .vrow _ _::a,_::b,0,o,c,_,h1,h2=>by simp at h1;subst h1;exact h2.elim
  | .row _ _ _::a,.row t τ xs::b,j+1,o,c,h,h1,h2=>Nv (β:=β) (a:=a) (b:=b) (j:=j) h (by simpa using h1) h2
  | .box _ _::a,.box t cs::b,j+1,o,c,h,h1,h2=>Nv (β:=β) (a:=a) (b:=b) (j:=j) h (by simpa using h1) h2
  | .dead::a,_::b,j+1,o,c,h,h1,h2=>Nv (β:=β) (a:=a) (b:=b) (j:=j) (by simpa [Ve] using h) (by simpa using h1) h2
  | .vrow _ _::a,_::b,j+1,o,c,h,h1,h2=>Nv (β:=β) (a:=a) (b:=b) (j:=j) (by simpa [Ve] using h) (by simpa using h1) h2
  | .row _ _ _::a,[],_,_,_,h,_,_=>by simp [Ve] at h
  | .row _ _ _::a,.dead::b,_,_,_,h,_,_=>by simp [Ve] at h
  | .row _ _ _::a,.vrow _ _::b,_,_,_,h,_,_=>by simp [Ve] at h
  | .row _ _ _::a,.box _ _::b,_,_,_,h,_,_=>by simp [Ve] at h
  | .box _ _::a,[],_,_,_,h,_,_=>by simp [Ve] at h
  | .box _ _::a,.dead::b,_,_,_,h,_,_=>by simp [Ve] at h
  | .box _ _::a,.vrow _ _::b,_,_,_,h,_,_=>by simp [Ve] at h
  | .box _ _::a,.row _ _ _::b,_,_,_,h,_,_=>by simp [Ve] at h
  | .dead::a,[],_,_,_,h,_,_=>by simp [Ve] at h
  | .vrow _ _::a,[],_,_,_,h,_,_=>by simp [Ve] at h
def Dy (h0:List Ca) (st:St):Op→Bool
  | .call c=>(match c.callee,c.args.toList with
    | .builtin .append,[s,_]=>(match Za st.t s with|some (.own k)=>Nat.ble h0.length k&&Ve h0 st.h|_=>false)
    |_,_=>false)
  |_=>false
theorem lK {P:Program} {tab:TypeId→Option TI} (H:Qb P tab) {h0:List Ca} {st st':St} {o:Oper} {bl:Bool} {v:Option PV} (hk:Dy h0 st o.op=true) (h:Zk tab st o.op o.dst=some (true,bl,st',v)):∃k t τ xs,h0.length≤k∧Ve h0 st.h=true∧st.h[k]? =some (.row t τ xs)∧∀C a w β,Oa C st a w β→(∀i,o.dst=some i→i<C.N)→∀(K:Act→World→Prop) (Q:Exit→Act→World→Prop),(∀u w' β',Oa C (Ee st' o.dst v) (a.put o.dst u) w' β'→Gb w st.h β w' (Ee st' o.dst v).h β'→(∀b,b<w.heap.size→(∀c,0<c→β[k]?≠some (b,c))→w'.heap[b]? =w.heap[b]?)→K (a.put o.dst u) w')→o.wp P a w K Q:=by
  unfold Dy at hk
  split at hk
  case h_2=>cases hk
  rename_i cl hcl
  split at hk
  case h_2=>cases hk
  rename_i s x hcal hargs
  split at hk
  case h_2=>cases hk
  rename_i k hs
  simp only [Bool.and_eq_true] at hk
  obtain ⟨q1,q2⟩:=hk
  have q1:=Nat.le_of_ble_eq_true q1
  obtain ⟨callee,args,argTypes⟩:=cl
  simp only at hcal hargs
  subst hcal
  obtain rfl:args= #[s,x]:=by apply Array.ext';simpa using hargs
  rw [hcl] at h
  simp only [Zk] at h
  split at h
  case h_2=>cases h
  rename_i s' x' t t' hargs' htys
  injection hargs' with e1 e2
  injection e2 with e2 _
  subst e1 e2
  obtain rfl:argTypes= #[t,t']:=by apply Array.ext';simpa using htys
  split at h
  case h_2=>cases h
  rename_i u0 v0 i h3 h4 hi
  rw [hs] at h3
  injection h3 with h3
  subst h3
  split at h
  case h_2=>cases h
  rename_i e σ bytes he
  cases hq:Nat.beq t t' with
  |false=>rw [hq] at h;cases h
  |true =>
  rw [hq] at h
  have htt:=Nat.eq_of_beq_eq_true hq
  subst htt
  simp only [cond_true] at h
  cases hsu:σ.u with
  |true =>
   rw [hsu] at h
   simp only [cond_true,ZP] at h
   split at h
   case h_2=>cases h
   rename_i t2 τ xs hrow
   split at h
   case h_2=>cases h
   rename_i j ys We
   obtain ⟨rfl,tj,hj⟩:=YP We
   cases hq2:(Nat.beq t2 e&&Nat.beq (sz τ) (sz σ)&&!(Nat.beq k j)) with
   |false=>rw [hq2] at h;cases h
   |true =>
   rw [hq2] at h
   simp only [Bool.and_eq_true,Bool.not_eq_true'] at hq2
   have e3:=Nat.eq_of_beq_eq_true hq2.1.1
   subst e3
   simp only [cond_true,Option.some.injEq,Prod.mk.injEq] at h
   obtain ⟨hc,_,rfl,rfl⟩:=h
   exact ⟨k,_,_,_,q1,q2,hrow,fun C a w β S hd K Q hK=>X4 H hcl hi he (Nat.eq_of_beq_eq_true hq2.1.2) hs hrow h4 hj (fun e=>by have h9:=hq2.2;rw [e,Nat.beq_refl] at h9;cases h9) (oT hc) C a w β S hd K Q hK⟩
  |false =>
  rw [hsu] at h
  simp only [cond_false,BQ] at h
  split at h
  case h_2=>cases h
  rename_i t2 τ xs hrow
  split at h
  case h_2=>cases h
  rename_i ys We
  cases hq2:(Nat.beq t2 e&&Nat.beq (sz τ) (sz σ)&&!τ.u) with
  |false=>rw [hq2] at h;cases h
  |true =>
  rw [hq2] at h
  simp only [Bool.and_eq_true,Bool.not_eq_true'] at hq2
  have e3:=Nat.eq_of_beq_eq_true hq2.1.1
  subst e3
  simp only [cond_true,Option.some.injEq,Prod.mk.injEq] at h
  obtain ⟨hc,_,rfl,rfl⟩:=h
  exact ⟨k,_,_,_,q1,q2,hrow,fun C a w β S hd K Q hK=>W4 H hcl hi he (Nat.eq_of_beq_eq_true hq2.1.2) hs hrow h4 We (oT hc) hq2.2 C a w β S hd K Q hK⟩
def EI (h0:List Ca) (st:St):Op→Bool
  | .store _ x _=>(match Za st.t x with|some (.ptr k _)=>Nat.ble h0.length k&&Ve h0 st.h|_=>false)
  |_=>false
theorem lL {P:Program} {tab:TypeId→Option TI} (H:Qb P tab) {h0:List Ca} {st st':St} {o:Oper} {c bl:Bool} {v:Option PV} (hk:EI h0 st o.op=true) (h:Zk tab st o.op o.dst=some (c,bl,st',v)):∃k t cs,h0.length≤k∧Ve h0 st.h=true∧st.h[k]? =some (.box t cs)∧UQ P [k] o st (Ee st' o.dst v):=by
  unfold EI at hk
  split at hk
  ·rename_i t x y ho
   split at hk
   ·rename_i k p hx
    simp only [Bool.and_eq_true] at hk
    have hst:Gp [k] st o.op=true:=by rw [ho];simp [Gp,hx,sub,Kg]
    obtain ⟨k',hk',h1⟩:=J6 H hst h
    have e:k'=k:=by simpa using hk'
    subst e
    rw [ho] at h
    simp only [Zk] at h
    split at h
    ·rename_i d q v' i hd hq hy hi
     rw [hx] at hq
     injection hq with hq
     subst hq
     split at h
     ·rename_i st1 hs
      simp only [NH] at hs
      split at hs
      ·rename_i t' cs hb
       exact ⟨k',_,_,Nat.le_of_ble_eq_true hk.1,hk.2,hb,h1⟩
      ·cases hs
     ·cases h
    ·cases h
   ·cases hk
  ·cases hk
def Ch {ρ:Type} (G:Ka) (ks:List Nat) (o:Oper) (f:Bool) (st0 st:St) (K:St→St→Option ρ):Option ρ:=bif Nd G.N o.dst then
  (bif f&&Jf o.op then
    (match Vj G.tab st0 o.op with
    |some (c,v)=>bif c then K (st0.put o.dst v) (st.put o.dst v) else none
    |none=>bif (Lv o.op&&!Ln st o.op)&&Fp st0.t o.dst then (match Vj G.tab st o.op with|some (c,v)=>bif c then K st0 (st.put o.dst v) else none|none=>G.bad ρ 32 (some o) st) else G.bad ρ 31 (some o) st)
  else bif Fp st0.t o.dst then
    (match Vj G.tab st o.op with
    |some (c,v)=>bif c then K st0 (st.put o.dst v) else none
    |none=>match Zk G.tab st o.op o.dst with
     |some (c,bl,st',v)=>bif bl||(Gp ks st o.op||(Dy st0.h st o.op||EI st0.h st o.op)) then (bif c then K st0 (Ee st' o.dst v) else none) else G.bad ρ 33 (some o) st
     |none=>match o.op with
      | .call c=>Ep G o c st fun l st'=>bif sub l ks then K st0 st' else G.bad ρ 34 (some o) st
      |_=>G.bad ρ 35 (some o) st) else G.bad ρ 36 (some o) st) else G.bad ρ 30 (some o) st
def Ud {ρ:Type} (G:Ka) (ops:List Oper) (ks:List Nat):List (Nat×Bool)→List (Oper×Bool)→St→St→(List (Nat×Bool)→St→Option ρ)→Option ρ
  |kn,[],_,st,K=>K kn st
  |kn,(o,f)::r,st0,st,K=>match o.guard with
   |none=>Ch G ks o f st0 st fun st0' st'=>Ud G ops ks kn r st0' st' K
   |some (j,want)=>match Vn ops kn st.t j want with
    | .go=>Ch G ks o f st0 st fun st0' st'=>Ud G ops ks kn r st0' st' K
    | .skip=>bif Nd G.N o.dst then Ud G ops ks kn r (st0.put o.dst (.im (.s undef))) (st.put o.dst (.im (.s undef))) K else G.bad ρ 2 (some o) st
    | .fork d b=>bif b
        then (bif want then Ch G ks o f (setB d true st0) (setB d true st) fun st0' st'=>Ud G ops ks ((j,true)::kn) r st0' st' K else bif Nd G.N o.dst then Ud G ops ks ((j,true)::kn) r ((setB d true st0).put o.dst (.im (.s undef))) ((setB d true st).put o.dst (.im (.s undef))) K else G.bad ρ 2 (some o) st)
        else (bif want then bif Nd G.N o.dst then Ud G ops ks ((j,false)::kn) r ((setB d false st0).put o.dst (.im (.s undef))) ((setB d false st).put o.dst (.im (.s undef))) K else G.bad ρ 2 (some o) st else Ch G ks o f (setB d false st0) (setB d false st) fun st0' st'=>Ud G ops ks ((j,false)::kn) r st0' st' K)
    | .bad=>G.bad ρ 3 (some o) st
structure Id (ks:List Nat) (E0:Nat→Prop) (st0:St) (w0:World) (β0:List (Nat×Nat)) (st:St) (w:World) (β:List (Nat×Nat)):Prop where
  stab:Gc w0 w E0 st0.h β0
  beta:∀(k:Nat) p,β0[k]? =some p→β[k]? =some p
  sub:∀b,b<w0.heap.size→Da st.h β b→E0 b
  hle:Cc st0.h st.h
  kill:∀k∈ks,k<β0.length∧∀b c,β0[k]? =some (b,c)→E0 b∧¬Da st0.h β0 b
section
variable {P:Program} {G:Ka} {C:Pc} {E0:Nat→Prop} {ks:List Nat} {st0 st:St} {a:Act} {w0 w:World} {β0 β:List (Nat×Nat)}
theorem Id.cv (R:Id ks E0 st0 w0 β0 st w β) {v:PV} {u:Value} (hc:Cv w0 E0 C.X st0.h β0 v u):Cv w (Da st.h β) C.X st.h β v u :=
  hc.keep (fun b hb hn=>R.stab.2 b hb (.inl hn)) R.stab.1 (fun b hb hn hl=>hn (R.sub b hb hl)) (fun _ _ _ h=>h) R.hle R.beta
theorem Id.same (R:Id ks E0 st0 w0 β0 st w β) {st0' st':St} (h0:st0'.h=st0.h) (h1:st'.h=st.h):Id ks E0 st0' w0 β0 st' w β:=⟨by rw [h0];exact R.stab,R.beta,by rw [h1];exact R.sub,by rw [h0,h1];exact R.hle,by rw [h0];exact R.kill⟩
theorem Id.step (R:Id ks E0 st0 w0 β0 st w β) (hlen:β0.length=st0.h.length) {l:List Nat} (hl:∀k∈l,k∈ks) {st':St} {w':World} {β':List (Nat×Nat)} (hs:Gb w st.h β w' st'.h β') (ht:(∀k∈l,k<st.h.length)→∀b,b<w.heap.size→(∀k∈l,∀c,β[k]?≠some (b,c))→w'.heap[b]? =w.heap[b]?):Id ks E0 st0 w0 β0 st' w' β':=by
  refine ⟨⟨Nat.le_trans R.stab.1 hs.size,fun b hb hc=>?_⟩,fun k p h=>hs.beta k p (R.beta k p h),fun b hb h=>R.sub b hb (hs.new b (Nat.lt_of_lt_of_le hb R.stab.1) h),R.hle.trans hs.hle,R.kill⟩
  refine (ht (fun k hk=>?_) b (Nat.lt_of_lt_of_le hb R.stab.1) fun k hk c hβ=>?_).trans (R.stab.2 b hb hc)
  ·have:=(R.kill k (hl k hk)).1
   have:=R.hle.1
   omega
  ·obtain ⟨h1,h2⟩:=R.kill k (hl k hk)
   have h3:=List.getElem?_eq_getElem h1
   have h4:=R.beta k _ h3
   rw [hβ] at h4
   injection h4 with h4
   obtain ⟨h5,h6⟩:=h2 b c (by rw [h3,←h4])
   rcases hc with hc|hc
   ·exact hc h5
   ·exact h6 hc
theorem Id.grow (R:Id ks E0 st0 w0 β0 st w β) (S:Oa C st a w β) (hlen:β0.length=st0.h.length) {k:Nat} {t:TypeId} {τ:Ty} {xs:List (El τ)} (hk0:st0.h.length≤k) (hs0:Ve st0.h st.h=true) (hk:st.h[k]? =some (.row t τ xs)) {st':St} {w':World} {β':List (Nat×Nat)} (hs:Gb w st.h β w' st'.h β') (ht:∀b,b<w.heap.size→(∀c,0<c→β[k]?≠some (b,c))→w'.heap[b]? =w.heap[b]?):Id ks E0 st0 w0 β0 st' w' β':=by
  refine ⟨⟨Nat.le_trans R.stab.1 hs.size,fun b hb hc=>?_⟩,fun k p h=>hs.beta k p (R.beta k p h),fun b hb h=>R.sub b hb (hs.new b (Nat.lt_of_lt_of_le hb R.stab.1) h),R.hle.trans hs.hle,R.kill⟩
  refine (ht b (Nat.lt_of_lt_of_le hb R.stab.1) fun c hc0 hβ=>?_).trans (R.stab.2 b hb hc)
  have hl:Da st.h β b:=⟨k,_,c,hk,hc0,hβ⟩
  rcases hc with hc|⟨j,o,c',h1,h2,h3⟩
  ·exact hc (R.sub b hb hl)
  ·obtain ⟨o',h4,h5⟩:=Nv (β:=β0) hs0 h1 h2
   have:=S.heap.inj j k o' _ b c' c h4 hk h5 hc0 (R.beta j _ h3) hβ
   have hj:=(List.getElem?_eq_some_iff.1 h3).1
   omega
theorem Id.growB (R:Id ks E0 st0 w0 β0 st w β) (S:Oa C st a w β) (hlen:β0.length=st0.h.length) {k:Nat} {t:TypeId} {cs:List PV} (hk0:st0.h.length≤k) (hs0:Ve st0.h st.h=true) (hk:st.h[k]? =some (.box t cs)) {st':St} {w':World} {β':List (Nat×Nat)} (hs:Gb w st.h β w' st'.h β') (ht:∀b,b<w.heap.size→(∀j∈[k],∀c,β[j]?≠some (b,c))→w'.heap[b]? =w.heap[b]?):Id ks E0 st0 w0 β0 st' w' β':=by
  refine ⟨⟨Nat.le_trans R.stab.1 hs.size,fun b hb hc=>?_⟩,fun k p h=>hs.beta k p (R.beta k p h),fun b hb h=>R.sub b hb (hs.new b (Nat.lt_of_lt_of_le hb R.stab.1) h),R.hle.trans hs.hle,R.kill⟩
  refine (ht b (Nat.lt_of_lt_of_le hb R.stab.1) fun i hi c hβ=>?_).trans (R.stab.2 b hb hc)
  rw [List.mem_singleton.1 hi] at hβ
  have hl:Da st.h β b:=⟨k,_,c,hk,trivial,hβ⟩
  rcases hc with hc|⟨j,o,c',h1,h2,h3⟩
  ·exact hc (R.sub b hb hl)
  ·obtain ⟨o',h4,h5⟩:=Nv (β:=β0) hs0 h1 h2
   have:=S.heap.inj j k o' _ b c' c h4 hk h5 trivial (R.beta j _ h3) hβ
   have hj:=(List.getElem?_eq_some_iff.1 h3).1
   omega
theorem Jb.other {E:Nat→Prop} (S:Jb C E st a w β) {d:Option Nat} (u:Value) (hd:∀i,d=some i→Kd st.t i=none):Jb C E st (a.put d u) w β:=by
  cases d with
  |none=>exact S
  |some d =>
   refine ⟨S.cl,S.xw,S.step,S.heap,by simpa [Act.put] using S.sz,S.df,fun i v hi=>?_⟩
   obtain ⟨u',h1,h2⟩:=S.tm i v hi
   refine ⟨u',?_,h2⟩
   have hne:d≠i:=by rintro rfl;rw [hd d rfl] at hi;cases hi
   simp [Act.put,hne,h1]
theorem K6 {ρ:Type} (HB:Hd G) (HT:Qb P G.tab) (H:Ma P G.Γ) {o:Oper} {f:Bool} {K:St→St→Option ρ} {r:ρ} (h:Ch G ks o f st0 st K=some r) (hN:C.N=G.N) (S0:Jb C E0 st0 a w0 β0) (S:Oa C st a w β) (R:Id ks E0 st0 w0 β0 st w β) {ops:Array Oper} {Q:Exit→Act→World→Prop} {T:Act→World→Prop} {rest:List (Oper×Bool)} (hw:Region.wanted o (yielded ops a.tmps)=true)
    (hK:∀st0' st' u w' β',K st0' st'=some r→Jb C E0 st0' (a.put o.dst u) w0 β0→Oa C st' (a.put o.dst u) w' β'→Id ks E0 st0' w0 β0 st' w' β'→st0'.h=st0.h→Qd P ops Q (fun w'=>Gc w0 w' E0 st0.h β0) T rest (a.put o.dst u) w') :
    Qd P ops Q (fun w'=>Gc w0 w' E0 st0.h β0) T ((o,f)::rest) a w:=by
  unfold Ch at h
  cases hd:Nd G.N o.dst with
  |false=>rw [hd] at h;simp only [cond_false] at h;rw [HB] at h;cases h
  |true =>
   rw [hd] at h
   simp only [cond_true] at h
   have hdst:∀i,o.dst=some i→i<C.N:=by rw [hN];exact Ak hd
   cases hf:(f&&Jf o.op) with
   |true =>
    rw [hf] at h
    simp only [cond_true] at h
    refine iP hw hf fun KK hKK=>?_
    split at h
    ·rename_i c v hv
     cases c with
     |false=>cases h
     |true =>
      obtain ⟨u,h1,h2⟩:=CH HT hv rfl C E0 a w0 β0 S0
      refine ⟨u,fun w' hw'=>?_,hKK _ (hK _ _ u w β h (S0.put hdst h1) (S.putL hdst (R.cv h1)) (R.same (Cf _ _) (Cf _ _)) (Cf _ _))⟩
      have:=h2 w' hw'
      unfold Oper.quietAt
      rw [this]
      exact ⟨rfl,rfl⟩
    ·cases hu:((Lv o.op&&!Ln st o.op)&&Fp st0.t o.dst) with
     |false=>rw [hu] at h;simp only [cond_false] at h;rw [HB] at h;cases h
     |true =>
      rw [hu] at h
      simp only [cond_true] at h
      simp only [Bool.and_eq_true] at hu
      split at h
      ·rename_i c v hv
       cases c with
       |false=>cases h
       |true =>
        obtain ⟨u,h1,h2⟩:=LP HT hv rfl (fun t x e=>by rw [e] at hu;exact absurd hu.1.1 (by simp [Lv])) (by simpa using hu.1.2) C _ a w β S
        refine ⟨u,fun w' hw'=>?_,hKK _ (hK _ _ u w β h (S0.other u (Wn hu.2)) (S.putL hdst h1) (R.same rfl (Cf _ _)) rfl)⟩
        have:=h2 w' trivial
        unfold Oper.quietAt
        rw [this]
        exact ⟨rfl,rfl⟩
      ·rw [HB] at h;cases h
   |false =>
    rw [hf] at h
    simp only [cond_false] at h
    cases hs:Fp st0.t o.dst with
    |false=>rw [hs] at h;simp only [cond_false] at h;rw [HB] at h;cases h
    |true =>
     rw [hs] at h
     simp only [cond_true] at h
     refine iQ hw hf fun KK hKK=>?_
     split at h
     ·rename_i c v hv
      cases c with
      |false=>cases h
      |true =>
       refine SP (CH HT hv rfl) C a w β S hdst KK _ fun u w' β' S' hst hbl=>?_
       have R':=R.step S0.heap.len (l:=[]) (fun k hk=>by simp at hk) hst (fun _ b hb _=>(hbl rfl).block b hb)
       exact hKK _ _ R'.stab (hK _ _ u w' β' h (S0.other u (Wn hs)) S' R' rfl)
     ·split at h
      ·rename_i c bl st' v hv
       cases hbs:(bl||(Gp ks st o.op||(Dy st0.h st o.op||EI st0.h st o.op))) with
       |false=>rw [hbs] at h;simp only [cond_false] at h;rw [HB] at h;cases h
       |true =>
        rw [hbs] at h
        simp only [cond_true] at h
        cases hcc:c with
        |false=>rw [hcc] at h;cases h
        |true =>
        rw [hcc] at h
        cases hbl:bl with
        |false =>
         rw [hbl,Bool.false_or] at hbs
         cases hst:Gp ks st o.op with
         |false =>
          rw [hst,Bool.false_or] at hbs
          cases hap:Dy st0.h st o.op with
          |false =>
           rw [hap,Bool.false_or] at hbs
           obtain ⟨k,t,cs,q1,q2,q3,h1⟩:=lL HT hbs hv
           refine h1 C a w β S hdst KK _ fun u w' β' S' hst ht=>?_
           have R':=R.growB S S0.heap.len q1 q2 q3 hst (ht fun j hj=>by rw [List.mem_singleton.1 hj];exact (List.getElem?_eq_some_iff.1 q3).1)
           exact hKK _ _ R'.stab (hK _ _ u w' β' h (S0.other u (Wn hs)) S' R' rfl)
          |true =>
          rw [hap] at hbs
          have hbs:=hap
          rw [hcc] at hv
          obtain ⟨k,t,τ,xs,q1,q2,q3,h1⟩:=lK HT hbs hv
          refine h1 C a w β S hdst KK _ fun u w' β' S' hst ht=>?_
          have R':=R.grow S S0.heap.len q1 q2 q3 hst ht
          exact hKK _ _ R'.stab (hK _ _ u w' β' h (S0.other u (Wn hs)) S' R' rfl)
         |true =>
         obtain ⟨k,hk,h1⟩:=J6 HT hst hv
         refine h1 C a w β S hdst KK _ fun u w' β' S' hst ht=>?_
         have R':=R.step S0.heap.len (l:=[k]) (fun j hj=>by rw [List.mem_singleton.1 hj];exact hk) hst ht
         exact hKK _ _ R'.stab (hK _ _ u w' β' h (S0.other u (Wn hs)) S' R' rfl)
        |true =>
        have hc:c=true∧bl=true:=⟨hcc,hbl⟩
        refine I5 HT hv hc.1 C a w β S hdst KK _ fun u w' β' S' hst hbl=>?_
        have R':=R.step S0.heap.len (l:=[]) (fun k hk=>by simp at hk) hst (fun _ b hb _=>(hbl hc.2).block b hb)
        exact hKK _ _ R'.stab (hK _ _ u w' β' h (S0.other u (Wn hs)) S' R' rfl)
      ·split at h
       ·rename_i c hc
        obtain ⟨l,st',h1,h2⟩:=D6 HB H hc h
        cases hsub:Go.Proofs.YtknkhdjhongklaaGreat.sub l ks with
        |false=>rw [hsub] at h2;simp only [cond_false] at h2;rw [HB] at h2;cases h2
        |true =>
         rw [hsub] at h2
         refine h1 C a w β S hdst KK _ fun u w' β' S' hst ht=>?_
         have R':=R.step S0.heap.len (ZQ hsub) hst ht
         exact hKK _ _ R'.stab (hK _ _ u w' β' h2 (S0.other u (Wn hs)) S' R' rfl)
       ·rw [HB] at h;cases h
end
end Go.Proofs.YtknkhdjhongklaaGreat
namespace Go.Proofs.YtknkhdjhongklaaGreat
open Go.RowKit
section
variable {P:Program} {G:Ka}
theorem AR {ρ:Type} {C:Pc} {ks:List Nat} {E0:Nat→Prop} {w0:World} {β0:List (Nat×Nat)} {h0:List Ca} (HB:Hd G) (HT:Qb P G.tab) (H:Ma P G.Γ) {ops:List Oper} {K:List (Nat×Bool)→St→Option ρ} {r:ρ} {Q:Exit→Act→World→Prop} {T:Act→World→Prop} (hN:C.N=G.N)
    (hT:∀kn st a w β,K kn st=some r→Oa C st a w β→T a w):∀(l:List (Oper×Bool)) (kn:List (Nat×Bool)) (st0 st:St) (a:Act) (w:World) (β:List (Nat×Nat)),Ud G ops ks kn l st0 st K=some r→st0.h=h0→Jb C E0 st0 a w0 β0→Oa C st a w β→Id ks E0 st0 w0 β0 st w β →
      Qd P ops.toArray Q (fun w'=>Gc w0 w' E0 h0 β0) T l a w
  |[],kn,st0,st,a,w,β,h,hh,S0,S,R=>KO (hT kn st a w β h S)
  |(o,f)::l,kn,st0,st,a,w,β,h,hh,S0,S,R=>by
   subst hh
   have exec:∀kn' s0 s1,s0.h=st0.h→Jb C E0 s0 a w0 β0→Oa C s1 a w β→Id ks E0 s0 w0 β0 s1 w β→Region.wanted o (yielded ops.toArray a.tmps)=true→Ch G ks o f s0 s1 (fun st0' st'=>Ud G ops ks kn' l st0' st' K)=some r→Qd P ops.toArray Q (fun w'=>Gc w0 w' E0 st0.h β0) T ((o,f)::l) a w:=fun kn' s0 s1 hh S0 S R hw h=>by
     rw [←hh]
     exact K6 HB HT H h hN S0 S R hw fun st0' st' u w' β' hK S0' S' R' hh'=>AR HB HT H hN hT l kn' st0' st' _ w' β' hK hh' S0' S' R'
   have skip:∀kn' sb s0 s1,s0.h=st0.h→Jb C E0 s0 a w0 β0→Oa C s1 a w β→Id ks E0 s0 w0 β0 s1 w β→Region.wanted o (yielded ops.toArray a.tmps)=false→(bif Nd G.N o.dst then Ud G ops ks kn' l (s0.put o.dst (.im (.s undef))) (s1.put o.dst (.im (.s undef))) K else G.bad ρ 2 (some o) sb)=some r→Qd P ops.toArray Q (fun w'=>Gc w0 w' E0 st0.h β0) T ((o,f)::l) a w:=fun kn' sb s0 s1 hh S0 S R hw h=>by
     cases hd:Nd G.N o.dst with
     |false=>rw [hd] at h;simp only [cond_false] at h;rw [HB] at h;cases h
     |true =>
      rw [hd] at h
      have hdst:∀i,o.dst=some i→i<C.N:=by rw [hN];exact Ak hd
      exact P2 hw (AR HB HT H hN hT l kn' _ _ _ w β h (by rw [Cf];exact hh) (S0.put hdst (Ri.s undef)) (S.putL hdst (Ri.s undef)) (R.same (Cf _ _) (Cf _ _)))
   unfold Ud at h
   split at h
   ·rename_i hg
    exact exec kn st0 st rfl S0 S R (by simp [Region.wanted,hg]) h
   ·rename_i j want hg
    have gc:=Ay S (ops:=ops) (kn:=kn) hg
    split at h
    ·rename_i e
     rw [e] at gc
     exact exec kn st0 st rfl S0 S R gc h
    ·rename_i e
     rw [e] at gc
     exact skip kn st st0 st rfl S0 S R gc h
    ·rename_i d b e
     rw [e] at gc
     obtain ⟨h1,h2⟩:=gc
     cases b<;>cases want<;>simp only [cond_true,cond_false] at h
     ·exact exec _ (setB d false st0) (setB d false st) rfl (S0.setB h1) (S.setB h1) (R.same rfl rfl) h2 h
     ·exact skip _ _ (setB d false st0) (setB d false st) rfl (S0.setB h1) (S.setB h1) (R.same rfl rfl) h2 h
     ·exact skip _ _ (setB d true st0) (setB d true st) rfl (S0.setB h1) (S.setB h1) (R.same rfl rfl) h2 h
     ·exact exec _ (setB d true st0) (setB d true st) rfl (S0.setB h1) (S.setB h1) (R.same rfl rfl) h2 h
    ·rw [HB] at h;cases h
def Dk:Code→Option Nat
  | .region id _ _=>some id
  | .seq a b=>match Dk a with|some i=>some i|none=>Dk b
  | .cond _ a b=>match Dk a with|some i=>some i|none=>Dk b
  | .block _ c=>Dk c
  | .loop c=>Dk c
  | .scope c=>Dk c
  |_=>none
def Hp (G:Ka) (c:Code):Option Xa:=match Dk c with|some i=>G.loop i|none=>none
def Sf {ρ:Type} (G:Ka):Code→St→(Exit→St→Option ρ)→Option ρ
  | .skip,st,K=>K .normal st
  | .region id ops draw,st,K=>bif draw then (match G.plan id with
      |some (n,ord,ks)=>bif Rf st.h ks then Ud G ops.toList ks [] (Ec ops.toList ord) ⟨st.t,Ic ks st.h⟩ st fun kn st'=>Ze G ops.toList kn (ops.toList.drop n) st' (K .normal) else G.bad ρ 41 none st
      |none=>match G.loop id with
       |some L=>(match L.F.get G.M st with
        |some s=>(L.sh s).bind fun r=>(match r with
         | .inl x=>K .normal (L.FX.st x)
         | .inr _=>none)
        |none=>G.bad ρ (2000+id) none st)
       |none=>G.bad ρ (1000+id) none st)
    else Ze G ops.toList [] ops.toList st (K .normal)
  | .seq x y,st,K=>Sf G x st fun e st'=>match e with| .normal=>Sf G y st' K|e=>K e st'
  | .cond t x y,st,K=>match Za st.t t with
    |some (.im (.s (.bool b)))=>bif b then Sf G x st K else Sf G y st K
    |_=>G.bad ρ 42 none st
  | .block id c,st,K=>Sf G c st fun e st'=>match e with| .exit j=>(bif Nat.beq j id then K .normal st' else K (.exit j) st')|e=>K e st'
  | .loop c,st,K=>match Hp G c with
    |some L=>(match L.F.get G.M st with
     |some s=>(L.sh s).bind fun r=>(match r with
      | .inl x=>K (.exit L.eid) (L.FX.st x)
      | .inr x=>K .ret (L.FR.st x))
     |none=>G.bad ρ (2000+(Dk c).getD 0) none st)
    |none=>G.bad ρ (1000+(Dk c).getD 0) none st
  | .exit id,st,K=>K (.exit id) st
  | .ret,st,K=>K .ret st
  |_,st,_=>G.bad ρ 44 none st
def Db (P:Program) (M N:Nat) (c:Code) (L:Xa):Prop:=∀s r,L.sh s=some r→∀Q:AQ,(match r with| .inl x=>Q (.exit L.eid) (L.FX.st x)| .inr x=>Q .ret (L.FR.st x))→Yx P M N (.loop c) Q (L.F.st s)
def Tf (P:Program) (M N:Nat) (id:Nat) (ops:Array Oper) (L:Xa):Prop:=∀s x,L.sh s=some (.inl x)→∀Q:AQ,Q .normal (L.FX.st x)→Yx P M N (.region id ops true) Q (L.F.st s)
def Mi (P:Program) (G:Ka):Code→Prop
  | .region id ops true=>(∀n ord ks,G.plan id=some (n,ord,ks)→QG .any ops n ord=true)∧(G.plan id=none→∀L,G.loop id=some L→Tf P G.M G.N id ops L)
  | .seq x y=>Mi P G x∧Mi P G y
  | .cond _ x y=>Mi P G x∧Mi P G y
  | .block _ c=>Mi P G c
  | .loop c=>∀L,Hp G c=some L→Db P G.M G.N c L
  |_=>True
theorem L6 {M N:Nat} {c:Code} {Q:AQ} {st st1:St} (h:YH M st1 st) (k:Yx P M N c Q st1):Yx P M N c Q st:=fun C a w β hN hM S=>by
  obtain ⟨β1,S1⟩:=h C a w β hM S
  exact k C a w β1 hN hM S1
theorem Xn {ρ:Type} (HB:Hd G) (HT:Qb P G.tab) (H:Ma P G.Γ) (hm:P.follows .mixedOrders=true) {r:ρ}:∀(c:Code) (K:Exit→St→Option ρ) (st:St) (Q:AQ),Mi P G c→(∀e st,K e st=some r→Q e st)→Sf G c st K=some r→Yx P G.M G.N c Q st
  | .skip,K,st,Q,_,hQ,h=>fun _ _ _ β _ _ S=>wp_skip ⟨st,β,hQ _ _ h,S⟩
  | .exit id,K,st,Q,_,hQ,h=>fun _ _ _ β _ _ S=>wp_exit ⟨st,β,hQ _ _ h,S⟩
  | .ret,K,st,Q,_,hQ,h=>fun _ _ _ β _ _ S=>wp_ret ⟨st,β,hQ _ _ h,S⟩
  | .region id ops false,K,st,Q,hc,hQ,h=>fun C a w β hN hM S=>by
    simp only [Sf,cond_false] at h
    have e:ops=ops.toList.toArray:=by simp
    rw [e]
    exact wp_region_lit (Kv HB HT H (fun st'=>hQ .normal st') ops.toList [] st h C a w β hN hM S)
  | .region id ops true,K,st,Q,hc,hQ,h=>fun C a w β hN hM S=>by
    simp only [Sf,cond_true] at h
    split at h
    ·rename_i n ord ks hp
     cases hb:Rf st.h ks with
     |false=>rw [hb] at h;simp only [cond_false] at h;rw [HB] at h;cases h
     |true =>
      rw [hb] at h
      simp only [cond_true] at h
      have hB:=hc.1 n ord ks hp
      have e:ops=ops.toList.toArray:=by simp
      rw [e] at hB ⊢
      have Sd:=S.drew
      have hbx:=BI hb
      refine iO n ord (fun w'=>Gc w.drew w' (Da st.h β) (Ic ks st.h) β) hm hB (Gc.refl _ _ _ _) ?_
      refine AR HB HT H hN (fun kn st' a' w' β' hK S'=>Kv HB HT H (fun st'=>hQ .normal st') _ kn st' hK C a' w' β' hN hM S') _ [] ⟨st.t,Ic ks st.h⟩ st a w.drew β h rfl (Sd.kill ks) Sd ⟨Gc.refl _ _ _ _,fun _ _ h=>h,fun _ _ h=>h,(DI ks st.h).2,fun k hk=>?_⟩
      have hbk:=hbx k hk
      have hkl:∃t cs,st.h[k]? =some (.box t cs):=by
        cases e:st.h[k]? with
        |none=>simp [Li,e] at hbk
        |some o=>cases o<;>first|exact ⟨_,_,rfl⟩|simp [Li,e] at hbk
      obtain ⟨t,cs,hk'⟩:=hkl
      refine ⟨by rw [S.heap.len];exact (List.getElem?_eq_some_iff.1 hk').1,fun b c hβ=>⟨⟨k,_,c,hk',trivial,hβ⟩,fun ⟨j,o,c',h1,h2,h3⟩=>?_⟩⟩
      have hdead:=Cy hk hbk
      rcases Ck h1 with e1|⟨rfl,_⟩|rfl
      ·have:=S.heap.inj j k o _ b c' c e1 hk' h2 trivial h3 hβ
       subst this
       rw [hdead] at h1
       injection h1 with h1
       subst h1
       exact h2
      ·exact h2
      ·exact h2
    ·rename_i hp
     split at h
     ·rename_i L hL
      split at h
      ·rename_i s hs
       obtain ⟨x,h1,h2⟩:=Option.bind_eq_some_iff.1 h
       cases x with
       |inl x=>exact L6 (L.F.imp hs) (hc.2 hp L hL s x h1 Q (hQ _ _ h2)) C a w β hN hM S
       |inr x=>cases h2
      ·rw [HB] at h;cases h
     ·rw [HB] at h;cases h
  | .seq x y,K,st,Q,hc,hQ,h=>fun C a w β hN hM S=>by
    have h1:=Xn HB HT H hm x _ st (fun e st'=>match e with| .normal=>Sf G y st' K=some r|e=>K e st'=some r) hc.1 (fun e st' hk=>by cases e<;>exact hk) h C a w β hN hM S
    refine wp_seq (wp_mono h1 ?_)
    rintro e a' w' ⟨st',β',hq,S'⟩
    cases e with
    |normal=>exact Xn HB HT H hm y K st' Q hc.2 hQ hq C a' w' β' hN hM S'
    |_=>exact ⟨st',β',hQ _ _ hq,S'⟩
  | .cond t x y,K,st,Q,hc,hQ,h=>fun C a w β hN hM S=>by
    simp only [Sf] at h
    split at h
    ·rename_i b hb
     refine wp_cond_split (S.ev hb) (fun e=>?_) (fun e=>?_)
     ·subst e
      exact Xn HB HT H hm x K st Q hc.1 hQ h C a w β hN hM S
     ·subst e
      exact Xn HB HT H hm y K st Q hc.2 hQ h C a w β hN hM S
    ·rw [HB] at h;cases h
  | .block id c,K,st,Q,hc,hQ,h=>fun C a w β hN hM S=>by
    have h1:=Xn HB HT H hm c _ st (fun e st'=>match e with| .exit j=>(if j=id then K .normal st'=some r else K (.exit j) st'=some r)|e=>K e st'=some r) hc (fun e st' hk=>by
      cases e with
      |exit j =>
       simp only at hk ⊢
       by_cases e:j=id
       ·subst e;rw [Nat.beq_refl] at hk;rw [if_pos rfl];exact hk
       ·rw [Uk e] at hk;rw [if_neg e];exact hk
      |_=>exact hk) h C a w β hN hM S
    refine wp_block (wp_mono h1 ?_)
    rintro e a' w' ⟨st',β',hq,S'⟩
    cases e with
    |exit j =>
     simp only [Exit.inBlock] at hq ⊢
     split at hq
     ·rename_i e;rw [if_pos e];exact ⟨st',β',hQ _ _ hq,S'⟩
     ·rename_i e;rw [if_neg e];exact ⟨st',β',hQ _ _ hq,S'⟩
    |_=>exact ⟨st',β',hQ _ _ hq,S'⟩
  | .loop c,K,st,Q,hc,hQ,h=>by
    simp only [Sf] at h
    split at h
    ·rename_i L hL
     split at h
     ·rename_i s hs
      obtain ⟨x,h1,h2⟩:=Option.bind_eq_some_iff.1 h
      refine L6 (L.F.imp hs) (hc L hL s x h1 Q ?_)
      cases x with
      |inl x=>exact hQ _ _ h2
      |inr x=>exact hQ _ _ h2
     ·rw [HB] at h;cases h
    ·rw [HB] at h;cases h
  | .rangeFunc _ _ _ _,K,st,Q,_,hQ,h=>by simp only [Sf] at h;rw [HB] at h;cases h
  | .scope _,K,st,Q,_,hQ,h=>by simp only [Sf] at h;rw [HB] at h;cases h
  | .label _,K,st,Q,_,hQ,h=>by simp only [Sf] at h;rw [HB] at h;cases h
  | .goto _,K,st,Q,_,hQ,h=>by simp only [Sf] at h;rw [HB] at h;cases h
  | .refuse _,K,st,Q,_,hQ,h=>by simp only [Sf] at h;rw [HB] at h;cases h
def lp {σ τ:Type} (B:σ→Option (σ⊕τ)):Nat→σ→Option τ
  |0,_=>none
  |n+1,s=>(B s).bind fun r=>match r with| .inl s'=>lp B n s'| .inr x=>some x
def lM (G:Ka) (c:Code) (F:Td) (eid:Nat) (FX FR:Td) (s:HL F.hs):Option (HL F.hs⊕(HL FX.hs⊕HL FR.hs)):=Sf G c (F.st s) fun e st=>match e with
  | .normal=>(match F.get G.M st with|some s'=>some (.inl s')|none=>G.bad _ 51 none st)
  | .exit id=>bif Nat.beq id eid then (match FX.get G.M st with|some x=>some (.inr (.inl x))|none=>G.bad _ 52 none st) else G.bad _ 53 none st
  | .ret=>(match FR.get G.M st with|some x=>some (.inr (.inr x))|none=>G.bad _ 54 none st)
  |_=>G.bad _ 55 none st
theorem Eb (HB:Hd G) (HT:Qb P G.tab) (H:Ma P G.Γ) (hm:P.follows .mixedOrders=true) {c:Code} (hc:Mi P G c) {F:Td} {eid:Nat} {FX FR:Td} {B:HL F.hs→Option (HL F.hs⊕(HL FX.hs⊕HL FR.hs))} {n:Nat} (hB:∀s,lM G c F eid FX FR s=B s):Db P G.M G.N c ⟨F,eid,FX,FR,lp B n⟩:=fun s r hs Q hQ C a w β hN hM S=>by
  refine wp_loop_ghost (fun m a w=>∃s β,Oa C (F.st s) a w β∧lp B m s=some r) n ⟨s,β,S,hs⟩ ?_
  rintro m a' w' ⟨s',β',S',hl⟩
  cases m with
  |zero=>cases hl
  |succ m =>
   obtain ⟨x,h1,h2⟩:=Option.bind_eq_some_iff.1 hl
   rw [←hB] at h1
   have:=Xn HB HT H hm c _ (F.st s') (fun e st=>match e with
     | .normal=>∃s1,F.get G.M st=some s1∧lp B m s1=some r
     | .exit id=>id=eid∧∃y,FX.get G.M st=some y∧r=.inl y
     | .ret=>∃y,FR.get G.M st=some y∧r=.inr y
     |_=>False) hc (fun e st hk=>by
      cases e with
      |normal =>
       simp only at hk ⊢
       split at hk
       ·rename_i s1 hs1
        injection hk with hk
        subst hk
        exact ⟨s1,hs1,h2⟩
       ·rw [HB] at hk;cases hk
      |exit id =>
       simp only at hk ⊢
       by_cases e:id=eid
       ·subst e
        rw [Nat.beq_refl] at hk
        simp only [cond_true] at hk
        split at hk
        ·rename_i y hy
         injection hk with hk
         subst hk
         injection h2 with h2
         exact ⟨rfl,y,hy,h2.symm⟩
        ·rw [HB] at hk;cases hk
       ·rw [Uk e] at hk;simp only [cond_false] at hk;rw [HB] at hk;cases hk
      |ret =>
       simp only at hk ⊢
       split at hk
       ·rename_i y hy
        injection hk with hk
        subst hk
        injection h2 with h2
        exact ⟨y,hy,h2.symm⟩
       ·rw [HB] at hk;cases hk
      |_=>(simp only at hk;rw [HB] at hk;cases hk)) h1 C a' w' β' hN hM S'
   refine wp_mono this ?_
   rintro e a2 w2 ⟨st2,β2,hq,S2⟩
   cases e with
   |normal =>
    obtain ⟨s1,h3,h4⟩:=hq
    obtain ⟨β3,S3⟩:=F.imp h3 C a2 w2 β2 hM S2
    exact ⟨m,by omega,s1,β3,S3,h4⟩
   |exit id =>
    obtain ⟨rfl,y,h3,rfl⟩:=hq
    obtain ⟨β3,S3⟩:=FX.imp h3 C a2 w2 β2 hM S2
    exact ⟨_,β3,hQ,S3⟩
   |ret =>
    obtain ⟨y,h3,rfl⟩:=hq
    obtain ⟨β3,S3⟩:=FR.imp h3 C a2 w2 β2 hM S2
    exact ⟨_,β3,hQ,S3⟩
   |_=>exact hq.elim
end
end Go.Proofs.YtknkhdjhongklaaGreat
namespace Go.Proofs.YtknkhdjhongklaaGreat
open Go.RowKit
section
variable {P:Program} {G:Ka}
theorem M6 {ρ σ:Type} (HB:Hd G) {o:Oper} {c:Call} {st:St} {K:List Nat→St→Option ρ} {F:List Nat→St→Option σ} {B:σ→Option ρ} (hK:∀l st,K l st=(F l st).bind B):Ep G o c st K=(Ep G o c st F).bind B:=by
  unfold Ep TQ
  have hb:∀(ρ:Type) n o st,G.bad ρ n o st=none:=HB
  simp only [hb]
  split<;>first|rfl|skip
  split<;>first|rfl|skip
  split<;>first|rfl|skip
  split<;>first|rfl|skip
  cases Nat.beq _ _<;>simp only [cond_true,cond_false,Option.bind_none]
  cases (_&&_:Bool)<;>simp only [cond_true,cond_false,Option.bind_none]
  split<;>first|rfl|skip
  split<;>first|rfl|skip
  rw [Option.bind_assoc]
  congr 1
  funext r
  split<;>first|exact hK _ _|rfl
theorem FI {ρ σ:Type} (HB:Hd G) {ks:List Nat} {o:Oper} {f:Bool} {st0 st:St} {K:St→St→Option ρ} {F:St→St→Option σ} {B:σ→Option ρ} (hK:∀s t,K s t=(F s t).bind B):Ch G ks o f st0 st K=(Ch G ks o f st0 st F).bind B:=by
  unfold Ch
  have hb:∀(ρ:Type) n o st,G.bad ρ n o st=none:=HB
  simp only [hb]
  have hc:∀(c:Bool) (x:Option ρ) (y:Option σ),x=y.bind B→(bif c then x else none)=(bif c then y else none).bind B:=fun c x y h=>by cases c<;>simp [h]
  refine hc _ _ _ ?_
  cases (f&&Jf o.op)<;>simp only [cond_true,cond_false]
  ·refine hc _ _ _ ?_
   split
   ·exact hc _ _ _ (hK _ _)
   ·split
    ·exact hc _ _ _ (hc _ _ _ (hK _ _))
    ·split
     ·exact M6 HB fun l st'=>hc _ _ _ (hK _ _)
     ·rfl
  ·split
   ·exact hc _ _ _ (hK _ _)
   ·refine hc _ _ _ ?_
    split
    ·exact hc _ _ _ (hK _ _)
    ·rfl
def Rh {ρ:Type} (G:Ka) (ops:List Oper) (ks:List Nat) (kn:List (Nat×Bool)) (o:Oper) (f:Bool) (st0 st:St) (K:List (Nat×Bool)→St→St→Option ρ):Option ρ:=match o.guard with
    |none=>Ch G ks o f st0 st fun st0' st'=>K kn st0' st'
    |some (j,want)=>match Vn ops kn st.t j want with
     | .go=>Ch G ks o f st0 st fun st0' st'=>K kn st0' st'
     | .skip=>bif Nd G.N o.dst then K kn (st0.put o.dst (.im (.s undef))) (st.put o.dst (.im (.s undef))) else G.bad ρ 2 (some o) st
     | .fork d b=>bif b
         then (bif want then Ch G ks o f (setB d true st0) (setB d true st) fun st0' st'=>K ((j,true)::kn) st0' st' else bif Nd G.N o.dst then K ((j,true)::kn) ((setB d true st0).put o.dst (.im (.s undef))) ((setB d true st).put o.dst (.im (.s undef))) else G.bad ρ 2 (some o) st)
         else (bif want then bif Nd G.N o.dst then K ((j,false)::kn) ((setB d false st0).put o.dst (.im (.s undef))) ((setB d false st).put o.dst (.im (.s undef))) else G.bad ρ 2 (some o) st else Ch G ks o f (setB d false st0) (setB d false st) fun st0' st'=>K ((j,false)::kn) st0' st')
     | .bad=>G.bad ρ 3 (some o) st
theorem Ey {ρ:Type} {ops:List Oper} {ks:List Nat} {kn:List (Nat×Bool)} {o:Oper} {f:Bool} {r:List (Oper×Bool)} {st0 st:St} {K:List (Nat×Bool)→St→Option ρ}:Ud G ops ks kn ((o,f)::r) st0 st K=Rh G ops ks kn o f st0 st fun kn' s t=>Ud G ops ks kn' r s t K:=by
  conv=>lhs;unfold Ud
  unfold Rh
  cases o.guard with
  |none=>rfl
  |some x =>
   obtain ⟨j,want⟩:=x
   first|rfl|(dsimp only;cases Vn ops kn st.t j want<;>rfl)
theorem lN {ρ σ:Type} (HB:Hd G) {ops:List Oper} {ks:List Nat} {kn:List (Nat×Bool)} {o:Oper} {f:Bool} {st0 st:St} {K:List (Nat×Bool)→St→St→Option ρ} {F:List (Nat×Bool)→St→St→Option σ} {B:σ→Option ρ} (hK:∀k s t,K k s t=(F k s t).bind B):Rh G ops ks kn o f st0 st K=(Rh G ops ks kn o f st0 st F).bind B:=by
  unfold Rh
  have hb:∀(ρ:Type) n o st,G.bad ρ n o st=none:=HB
  simp only [hb]
  have hc:∀(c:Bool) (x:Option ρ) (y:Option σ),x=y.bind B→(bif c then x else none)=(bif c then y else none).bind B:=fun c x y h=>by cases c<;>simp [h]
  have hd:∀(c:Bool) (x x':Option ρ) (y y':Option σ),x=y.bind B→x'=y'.bind B→(bif c then x else x')=(bif c then y else y').bind B:=fun c x x' y y' h h'=>by cases c<;>simp [h,h']
  split
  ·exact FI HB fun s t=>hK _ _ _
  ·split
   ·exact FI HB fun s t=>hK _ _ _
   ·exact hc _ _ _ (hK _ _ _)
   ·exact hd _ _ _ _ _ (hd _ _ _ _ _ (FI HB fun s t=>hK _ _ _) (hc _ _ _ (hK _ _ _))) (hd _ _ _ _ _ (hc _ _ _ (hK _ _ _)) (FI HB fun s t=>hK _ _ _))
   ·rfl
theorem Ov {ρ ι:Type} (HB:Hd G) {ops:List Oper} {ks:List Nat} {kn:List (Nat×Bool)} {o:Oper} {f:Bool} {st0 st:St} {K:ι→List (Nat×Bool)→St→St→Option ρ} {r:ρ} {L:List ι} (hne:L≠[]) (h:∀p∈L,Rh G ops ks kn o f st0 st (K p)=some r):∃x:List (Nat×Bool)×St×St,Rh G ops ks kn o f st0 st (fun a b c=>some (a,b,c))=some x∧∀p∈L,K p x.1 x.2.1 x.2.2=some r:=by
  have e:∀p,Rh G ops ks kn o f st0 st (K p)=(Rh G ops ks kn o f st0 st (fun a b c=>some (a,b,c))).bind fun x=>K p x.1 x.2.1 x.2.2:=fun p=>lN HB fun _ _ _=>rfl
  generalize Rh G ops ks kn o f st0 st (fun a b c=>some (a,b,c))=z at e
  cases z with
  |none =>
   obtain ⟨p,hp⟩:=List.exists_mem_of_ne_nil L hne
   have:=h p hp
   rw [e] at this
   cases this
  |some x=>exact ⟨x,rfl,fun p hp=>by have:=h p hp;rw [e] at this;exact this⟩
theorem Ip {ρ:Type} {C:Pc} {ks:List Nat} {E0:Nat→Prop} {w0:World} {β0:List (Nat×Nat)} {h0:List Ca} (HB:Hd G) (HT:Qb P G.tab) (H:Ma P G.Γ) {ops:List Oper} {K:List (Nat×Bool)→St→St→Option ρ} {r:ρ} {Q:Exit→Act→World→Prop} {T:Act→World→Prop} (hN:C.N=G.N)
    {o:Oper} {f:Bool} {kn:List (Nat×Bool)} {st0 st:St} {a:Act} {w:World} {β:List (Nat×Nat)} (hT:∀kn' s t a w β,K kn' s t=some r→s.h=h0→Jb C E0 s a w0 β0→Oa C t a w β→Id ks E0 s w0 β0 t w β→T a w)
    (h:Rh G ops ks kn o f st0 st K=some r) (hh:st0.h=h0) (S0:Jb C E0 st0 a w0 β0) (S:Oa C st a w β) (R:Id ks E0 st0 w0 β0 st w β) :
     Qd P ops.toArray Q (fun w'=>Gc w0 w' E0 h0 β0) T [(o,f)] a w:=by
    subst hh
    have exec:∀kn' s0 s1,s0.h=st0.h→Jb C E0 s0 a w0 β0→Oa C s1 a w β→Id ks E0 s0 w0 β0 s1 w β→Region.wanted o (yielded ops.toArray a.tmps)=true→Ch G ks o f s0 s1 (fun st0' st'=>K kn' st0' st')=some r→Qd P ops.toArray Q (fun w'=>Gc w0 w' E0 st0.h β0) T [(o,f)] a w:=fun kn' s0 s1 hh S0 S R hw h=>by
      rw [←hh]
      exact K6 HB HT H h hN S0 S R hw fun st0' st' u w' β' hK S0' S' R' hh'=>KO (hT kn' st0' st' _ w' β' hK (hh'.trans hh) S0' S' R')
    have skip:∀kn' sb s0 s1,s0.h=st0.h→Jb C E0 s0 a w0 β0→Oa C s1 a w β→Id ks E0 s0 w0 β0 s1 w β→Region.wanted o (yielded ops.toArray a.tmps)=false→(bif Nd G.N o.dst then K kn' (s0.put o.dst (.im (.s undef))) (s1.put o.dst (.im (.s undef))) else G.bad ρ 2 (some o) sb)=some r→Qd P ops.toArray Q (fun w'=>Gc w0 w' E0 st0.h β0) T [(o,f)] a w:=fun kn' sb s0 s1 hh S0 S R hw h=>by
      cases hd:Nd G.N o.dst with
      |false=>rw [hd] at h;simp only [cond_false] at h;rw [HB] at h;cases h
      |true =>
       rw [hd] at h
       have hdst:∀i,o.dst=some i→i<C.N:=by rw [hN];exact Ak hd
       exact P2 hw (KO (hT kn' _ _ _ w β h (by rw [Cf];exact hh) (S0.put hdst (Ri.s undef)) (S.putL hdst (Ri.s undef)) (R.same (Cf _ _) (Cf _ _))))
    unfold Rh at h
    split at h
    ·rename_i hg
     exact exec kn st0 st rfl S0 S R (by simp [Region.wanted,hg]) h
    ·rename_i j want hg
     have gc:=Ay S (ops:=ops) (kn:=kn) hg
     split at h
     ·rename_i e
      rw [e] at gc
      exact exec kn st0 st rfl S0 S R gc h
     ·rename_i e
      rw [e] at gc
      exact skip kn st st0 st rfl S0 S R gc h
     ·rename_i d b e
      rw [e] at gc
      obtain ⟨h1,h2⟩:=gc
      cases b<;>cases want<;>simp only [cond_true,cond_false] at h
      ·exact exec _ (setB d false st0) (setB d false st) rfl (S0.setB h1) (S.setB h1) (R.same rfl rfl) h2 h
      ·exact skip _ _ (setB d false st0) (setB d false st) rfl (S0.setB h1) (S.setB h1) (R.same rfl rfl) h2 h
      ·exact skip _ _ (setB d true st0) (setB d true st) rfl (S0.setB h1) (S.setB h1) (R.same rfl rfl) h2 h
      ·exact exec _ (setB d true st0) (setB d true st) rfl (S0.setB h1) (S.setB h1) (R.same rfl rfl) h2 h
     ·rw [HB] at h;cases h
def Wb:Tr→List (List (Nat×Bool))
  | .done=>[[]]
  | .val k r=>(Wb r).map ((k,true)::·)
  | .one k r=>(Wb r).map ((k,false)::·)
  | .two k1 r1 k2 r2=>(Wb r1).map ((k1,false)::·)++(Wb r2).map ((k2,false)::·)
  | .alt k r m=>(Wb r).map ((k,false)::·)++Wb m
theorem Yf:∀t,Wb t≠[]
  | .done=>by simp [Wb]
  | .val k r=>by simp [Wb,Yf r]
  | .one k r=>by simp [Wb,Yf r]
  | .two k1 r1 k2 r2=>by simp [Wb,Yf r1]
  | .alt k r m=>by simp [Wb,Yf r]
def Ae (ops:List Oper):Tr→Bool
  | .done=>true
  | .val k r=>decide (k<ops.length)&&(match ops[k]? with|some o=>Jf o.op|none=>false)&&Ae ops r
  | .one k r=>decide (k<ops.length)&&Ae ops r
  | .two k1 r1 k2 r2=>decide (k1<ops.length)&&decide (k2<ops.length)&&Ae ops r1&&Ae ops r2
  | .alt k r m=>decide (k<ops.length)&&Ae ops r&&Ae ops m
theorem Dl {ops:List Oper} {k:Nat} {f:Bool} {p:List (Nat×Bool)} {o:Oper} (h:ops[k]? =some o):Ec ops ((k,f)::p)=(o,f)::Ec ops p:=by
  unfold Ec;rw [List.filterMap_cons];simp only [h,Option.map_some]
theorem Yn {ρ:Type} {C:Pc} {ks:List Nat} {E0:Nat→Prop} {w0:World} {β0:List (Nat×Nat)} {h0:List Ca} (HB:Hd G) (HT:Qb P G.tab) (H:Ma P G.Γ) {ops:List Oper} {K:List (Nat×Bool)→St→Option ρ} {r:ρ} {Q:Exit→Act→World→Prop} {T:Act→World→Prop} (hN:C.N=G.N)
    (hT:∀kn st a w β,K kn st=some r→Oa C st a w β→T a w):∀(t:Tr) (kn:List (Nat×Bool)) (st0 st:St) (a:Act) (w:World) (β:List (Nat×Nat)),Ae ops t=true→(∀p∈Wb t,Ud G ops ks kn (Ec ops p) st0 st K=some r)→st0.h=h0→Jb C E0 st0 a w0 β0→Oa C st a w β→Id ks E0 st0 w0 β0 st w β →
      Ye P ops.toArray Q (fun w'=>Gc w0 w' E0 h0 β0) T t a w
  | .done,kn,st0,st,a,w,β,hi,h,hh,S0,S,R=>hT kn st a w β (h [] (by simp [Wb])) S
  | .val k t,kn,st0,st,a,w,β,hi,h,hh,S0,S,R=>by
    simp only [Ae,Bool.and_eq_true,decide_eq_true_eq] at hi
    obtain ⟨⟨hk,hv⟩,hi⟩:=hi
    have hk:=List.getElem?_eq_getElem hk
    generalize ops[k]=o at hk
    rw [hk] at hv
    simp only at hv
    obtain ⟨x,h1,h2⟩:=Ov HB (L:=Wb t) (Yf t) (K:=fun p kn' s u=>Ud G ops ks kn' (Ec ops p) s u K) fun p hp=>by
      have:=h ((k,true)::p) (by simp only [Wb];exact List.mem_map_of_mem hp)
      rwa [Dl hk,Ey] at this
    have:=Ip (r:=x) (Q:=Q) (T:=Ye P ops.toArray Q (fun w'=>Gc w0 w' E0 h0 β0) T t) HB HT H hN (fun kn' s u a' w' β' hx hh' S0' S' R'=>by
      injection hx with hx
      subst hx
      exact Yn HB HT H hN hT t kn' s u a' w' β' hi h2 hh' S0' S' R') h1 hh S0 S R
    refine ⟨o,by simpa using hk,?_⟩
    unfold Qd at this
    split at this
    ·rename_i hw
     rw [if_pos hw]
     rw [hv] at this
     exact this
    ·rename_i hw
     rw [if_neg hw]
     exact this
  | .one k t,kn,st0,st,a,w,β,hi,h,hh,S0,S,R=>by
    simp only [Ae,Bool.and_eq_true,decide_eq_true_eq] at hi
    obtain ⟨hk,hi⟩:=hi
    have hk:=List.getElem?_eq_getElem hk
    generalize ops[k]=o at hk
    obtain ⟨x,h1,h2⟩:=Ov HB (L:=Wb t) (Yf t) (K:=fun p kn' s u=>Ud G ops ks kn' (Ec ops p) s u K) fun p hp=>by
      have:=h ((k,false)::p) (by simp only [Wb];exact List.mem_map_of_mem hp)
      rwa [Dl hk,Ey] at this
    have:=Ip (r:=x) (Q:=Q) (T:=Ye P ops.toArray Q (fun w'=>Gc w0 w' E0 h0 β0) T t) HB HT H hN (fun kn' s u a' w' β' hx hh' S0' S' R'=>by
      injection hx with hx
      subst hx
      exact Yn HB HT H hN hT t kn' s u a' w' β' hi h2 hh' S0' S' R') h1 hh S0 S R
    exact ⟨o,by simpa using hk,this⟩
  | .two k1 t1 k2 t2,kn,st0,st,a,w,β,hi,h,hh,S0,S,R=>by
    simp only [Ae,Bool.and_eq_true,decide_eq_true_eq] at hi
    obtain ⟨⟨⟨hk1,hk2⟩,hi1⟩,hi2⟩:=hi
    have hk1:=List.getElem?_eq_getElem hk1
    generalize ops[k1]=o1 at hk1
    have hk2:=List.getElem?_eq_getElem hk2
    generalize ops[k2]=o2 at hk2
    obtain ⟨x,h1,h2⟩:=Ov HB (L:=Wb t1) (Yf t1) (K:=fun p kn' s u=>Ud G ops ks kn' (Ec ops p) s u K) fun p hp=>by
      have:=h ((k1,false)::p) (by simp only [Wb];exact List.mem_append_left _ (List.mem_map_of_mem hp))
      rwa [Dl hk1,Ey] at this
    obtain ⟨y,h3,h4⟩:=Ov HB (L:=Wb t2) (Yf t2) (K:=fun p kn' s u=>Ud G ops ks kn' (Ec ops p) s u K) fun p hp=>by
      have:=h ((k2,false)::p) (by simp only [Wb];exact List.mem_append_right _ (List.mem_map_of_mem hp))
      rwa [Dl hk2,Ey] at this
    have A:=Ip (r:=x) (Q:=Q) (T:=Ye P ops.toArray Q (fun w'=>Gc w0 w' E0 h0 β0) T t1) HB HT H hN (fun kn' s u a' w' β' hx hh' S0' S' R'=>by
      injection hx with hx
      subst hx
      exact Yn HB HT H hN hT t1 kn' s u a' w' β' hi1 h2 hh' S0' S' R') h1 hh S0 S R
    have B:=Ip (r:=y) (Q:=Q) (T:=Ye P ops.toArray Q (fun w'=>Gc w0 w' E0 h0 β0) T t2) HB HT H hN (fun kn' s u a' w' β' hx hh' S0' S' R'=>by
      injection hx with hx
      subst hx
      exact Yn HB HT H hN hT t2 kn' s u a' w' β' hi2 h4 hh' S0' S' R') h3 hh S0 S R
    exact ⟨⟨o1,by simpa using hk1,A⟩,⟨o2,by simpa using hk2,B⟩⟩
  | .alt k t m,kn,st0,st,a,w,β,hi,h,hh,S0,S,R=>by
    simp only [Ae,Bool.and_eq_true,decide_eq_true_eq] at hi
    obtain ⟨⟨hk,hi⟩,him⟩:=hi
    have hk:=List.getElem?_eq_getElem hk
    generalize ops[k]=o at hk
    obtain ⟨x,h1,h2⟩:=Ov HB (L:=Wb t) (Yf t) (K:=fun p kn' s u=>Ud G ops ks kn' (Ec ops p) s u K) fun p hp=>by
      have:=h ((k,false)::p) (by simp only [Wb];exact List.mem_append_left _ (List.mem_map_of_mem hp))
      rwa [Dl hk,Ey] at this
    have A:=Ip (r:=x) (Q:=Q) (T:=Ye P ops.toArray Q (fun w'=>Gc w0 w' E0 h0 β0) T t) HB HT H hN (fun kn' s u a' w' β' hx hh' S0' S' R'=>by
      injection hx with hx
      subst hx
      exact Yn HB HT H hN hT t kn' s u a' w' β' hi h2 hh' S0' S' R') h1 hh S0 S R
    exact ⟨⟨o,by simpa using hk,A⟩,Yn HB HT H hN hT m kn st0 st a w β him (fun p hp=>h p (by simp only [Wb];exact List.mem_append_right _ hp)) hh S0 S R⟩
def N6 (G:Ka) (ops:List Oper) (n:Nat) (ks:List Nat) (F FX FR:Td) (p:List (Nat×Bool)) (s:HL F.hs):Option (HL FX.hs⊕HL FR.hs):=bif Rf (F.st s).h ks then Ud G ops ks [] (Ec ops p) ⟨(F.st s).t,Ic ks (F.st s).h⟩ (F.st s) fun kn st'=>Ze G ops kn (ops.drop n) st' fun st2=>(match FX.get G.M st2 with|some x=>some (.inl x)|none=>G.bad _ 52 none st2) else G.bad _ 41 none (F.st s)
def Pv {α:Type}:List α→(α→Prop)→Prop
  |[],_=>True
  |x::r,R=>R x∧Pv r R
theorem Fy {α:Type} {R:α→Prop}:∀{l:List α},Pv l R→∀x∈l,R x
  |_::_,h,x,hx=>by
   rcases List.mem_cons.1 hx with rfl|hx
   ·exact h.1
   ·exact Fy h.2 x hx
theorem O6 {C:Pc} {st:St} {a:Act} {w:World} {β:List (Nat×Nat)} {ks:List Nat} (S:Oa C st a w β) (hb:Rf st.h ks=true):Id ks (Da st.h β) ⟨st.t,Ic ks st.h⟩ w.drew β st w.drew β:=by
  have hbx:=BI hb
  refine ⟨Gc.refl _ _ _ _,fun _ _ h=>h,fun _ _ h=>h,(DI ks st.h).2,fun k hk=>?_⟩
  have hbk:=hbx k hk
  have hkl:∃t cs,st.h[k]? =some (.box t cs):=by
    cases e:st.h[k]? with
    |none=>simp [Li,e] at hbk
    |some o=>cases o<;>first|exact ⟨_,_,rfl⟩|simp [Li,e] at hbk
  obtain ⟨t,cs,hk'⟩:=hkl
  refine ⟨by rw [S.heap.len];exact (List.getElem?_eq_some_iff.1 hk').1,fun b c hβ=>⟨⟨k,_,c,hk',trivial,hβ⟩,fun ⟨j,o,c',h1,h2,h3⟩=>?_⟩⟩
  have hdead:=Cy hk hbk
  rcases Ck h1 with e1|⟨rfl,_⟩|rfl
  ·have:=S.heap.inj j k o _ b c' c e1 hk' h2 trivial h3 hβ
   subst this
   rw [hdead] at h1
   injection h1 with h1
   subst h1
   exact h2
  ·exact h2
  ·exact h2
theorem BR (HB:Hd G) (HT:Qb P G.tab) (H:Ma P G.Γ) (hm:P.follows .mixedOrders=true) {id:Nat} {ops:Array Oper} {n:Nat} {ks:List Nat} {t:Tr} {F:Td} {eid:Nat} {FX FR:Td} {sh:HL F.hs→Option (HL FX.hs⊕HL FR.hs)} (hB:LO .any ops n t=true) (hi:Ae ops.toList t=true)
    (hs:Pv (Wb t) fun p=>∀s,N6 G ops.toList n ks F FX FR p s=sh s):Tf P G.M G.N id ops ⟨F,eid,FX,FR,sh⟩:=fun s x hx Q hQ C a w β hN hM S=>by
  have hx:sh s=some (.inl x):=hx
  have hs:=Fy hs
  have h:∀p∈Wb t,Rf (F.st s).h ks=true∧Ud G ops.toList ks [] (Ec ops.toList p) ⟨(F.st s).t,Ic ks (F.st s).h⟩ (F.st s) (fun kn st'=>Ze G ops.toList kn (ops.toList.drop n) st' fun st2=>(match FX.get G.M st2 with|some x=>some (Sum.inl x:HL FX.hs⊕HL FR.hs)|none=>G.bad _ 52 none st2))=some (.inl x):=fun p hp=>by
    have h1:=hs p hp s
    rw [hx] at h1
    unfold N6 at h1
    cases hb:Rf (F.st s).h ks with
    |false=>rw [hb] at h1;simp only [cond_false] at h1;rw [HB] at h1;cases h1
    |true=>rw [hb] at h1;exact ⟨rfl,h1⟩
  obtain ⟨p0,hp0⟩:=List.exists_mem_of_ne_nil _ (Yf t)
  have hb:=(h p0 hp0).1
  have S:Oa C (F.st s) a w β:=S
  have Sd:=S.drew
  have e:ops=ops.toList.toArray:=by simp
  show (Code.region id ops true).wp P (Ff C Q) a w
  rw [e] at hB ⊢
  let Q1:AQ:=fun e st2=>e=.normal∧FX.get G.M st2=some x
  have evL_ok1:∀{kn st'},Ze G ops.toList kn (ops.toList.drop n) st' (fun st2=>(match FX.get G.M st2 with|some x=>some (Sum.inl x:HL FX.hs⊕HL FR.hs)|none=>G.bad _ 52 none st2))=some (.inl x)→RQ P G.M G.N ops.toList.toArray Q1 (ops.toList.drop n) st':=fun {kn st'} hk =>
    Kv HB HT H (Q:=Q1) (fun st2 h2=>by
      split at h2
      ·rename_i y hy
       injection h2 with h2
       injection h2 with h2
       subst h2
       exact ⟨rfl,hy⟩
      ·rw [HB] at h2;cases h2) _ kn st' hk
  refine wp_mono (Q:=Ff C Q1) ?_ ?_
  rotate_left
  ·rintro e a2 w2 ⟨st2,β2,⟨rfl,hq⟩,S2⟩
   obtain ⟨β3,S3⟩:=FX.imp hq C a2 w2 β2 hM S2
   exact ⟨_,β3,hQ,S3⟩
  refine iR n t (fun w'=>Gc w.drew w' (Da (F.st s).h β) (Ic ks (F.st s).h) β) hm hB (Gc.refl _ _ _ _) ?_
  refine Yn HB HT H hN (fun kn st' a' w' β' hK S'=>evL_ok1 hK C a' w' β' hN hM S') t [] ⟨(F.st s).t,Ic ks (F.st s).h⟩ (F.st s) a w.drew β hi (fun p hp=>(h p hp).2) rfl (Sd.kill ks) Sd (O6 S hb)
end
end Go.Proofs.YtknkhdjhongklaaGreat
namespace Go.Proofs.YtknkhdjhongklaaGreat
open Go.RowKit
def Zn:Nat→List PV→List (Nat×PV)
  |_,[]=>[]
  |i,d::r=>(i,d)::Zn (i+1) r
theorem CR:∀(ds:List PV) (i j:Nat) (v:PV),Kd (Zn i ds) j=some v→i≤j∧ds[j-i]? =some v
  |[],i,j,v,h=>by cases h
  |d::r,i,j,v,h=>by
   simp only [Zn,Kd] at h
   by_cases e:i=j
   ·subst e
    simp only [Nat.beq_refl,cond_true,Option.some.injEq] at h
    subst h
    simp
   ·rw [Uk e] at h
    obtain ⟨h1,h2⟩:=CR r (i+1) j v h
    refine ⟨by omega,?_⟩
    rw [show j-i=(j-(i+1))+1 by omega]
    simpa using h2
def HI (tab:TypeId→Option TI) (st:St):ResultVar→Option PV
  | .tmp t=>Kd st.t t
  | .cell p t=>match Kd st.t p,tab t with
    |some v,some i=>Kx st i v
    |_,_=>none
def Gy (tab:TypeId→Option TI) (st:St):List ResultVar→Option (List PV)
  |[]=>some []
  |q::r=>match HI tab st q,Gy tab st r with|some v,some l=>some (v::l)|_,_=>none
def Dj (tab:TypeId→Option TI) (st:St) (rs:List ResultVar):Option PV:=match rs with
  |[q]=>HI tab st q
  |rs=>match Gy tab st rs with
   |some vs=>bif vs.all (fun v=>match v with| .tup _=>false|_=>true) then some (.tup vs) else none
   |none=>none
section
variable {P:Program} {G:Ka}
theorem P6 (HT:Qb P G.tab) {C:Pc} {st:St} {a:Act} {w:World} {β:List (Nat×Nat)} (S:Oa C st a w β) {q:ResultVar} {v:PV} (h:HI G.tab st q=some v):∃u,((match q with| .tmp t=>pure (a.tmps.getD t undef)| .cell p t=>do loadVar t (←asAddr (a.tmps.getD p undef)):Sem Value)).run P w=.ok u w∧Cv w (Da st.h β) C.X st.h β v u:=by
  cases q with
  |tmp t =>
   obtain ⟨u,h1,h2⟩:=S.tm t v h
   exact ⟨u,by simp [Array.getD_eq_getD_getElem?,h1],h2⟩
  |cell p t =>
   simp only [HI] at h
   split at h
   ·rename_i v' i hs hi
    have hv:=L3 (P:=P) (st:=st) (o:=⟨none,.load t (.tmp p),0, "",#[],none⟩) HT rfl hs hi h
    obtain ⟨u,h1,h2⟩:=hv C _ a w β S
    refine ⟨u,?_,h1⟩
    have h3:=h2 w (Gc.refl _ _ _ _)
    obtain ⟨u',h4,h5⟩:=S.tm p v' hs
    have e:a.eval (.tmp p)=u':=by simp [Act.eval,Array.getD_eq_getD_getElem?,h4]
    have e2:a.tmps.getD p undef=u':=by simp [Array.getD_eq_getD_getElem?,h4]
    simp only [execOp,e,Instr.loadAt,Sem.run_bind] at h3
    simp only [e2,Sem.run_bind]
    have h6:∃A,u'=.pointer (some A):=by
      unfold Kx BP at h
      cases v'<;>simp at h
      ·obtain ⟨b,c,_,rfl⟩:=h5;exact ⟨_,rfl⟩
      ·obtain ⟨_,_,b,c,_,rfl,_⟩:=h5;exact ⟨_,rfl⟩
      ·obtain ⟨b,p,us,rfl,_⟩:=h5;exact ⟨_,rfl⟩
    obtain ⟨A,rfl⟩:=h6
    simp only [Instr.sureAddr,asAddr,Sem.run_pure,Result.andThen_ok] at h3 ⊢
    generalize Sem.run P (loadVar t A) w=rr at *
    cases rr with
    |ok x w1=>simp only [Result.andThen_ok,Result.ok.injEq,Next.value.injEq] at h3;rw [h3.1,h3.2]
    |halt x w1=>simp [Result.andThen] at h3
   ·cases h
theorem Q6 {α β:Type} {f:α→Sem β} {w:World}:∀{l:List α} {us:List β},us.length=l.length→(∀(i:Nat) x u,l[i]? =some x→us[i]? =some u→(f x).run P w=.ok u w)→(l.mapM f).run P w=.ok us w
  |[],us,hl,h=>by
   have:us=[]:=List.length_eq_zero_iff.1 hl
   subst this
   simp
  |x::l,[],hl,h=>by simp at hl
  |x::l,u::us,hl,h=>by
   have h1:=h 0 x u rfl rfl
   have h2:=Q6 (f:=f) (l:=l) (us:=us) (by simpa using hl) (fun i y v hy hv=>h (i+1) y v (by simpa using hy) (by simpa using hv))
   simp [List.mapM_cons,h1,h2]
theorem R6 (HT:Qb P G.tab) {C:Pc} {st:St} {a:Act} {w:World} {β:List (Nat×Nat)} (S:Oa C st a w β):∀{rs:List ResultVar} {vs:List PV},Gy G.tab st rs=some vs→∃us,F2 (Cv w (Da st.h β) C.X st.h β) vs us∧us.length=rs.length∧∀(i:Nat) q u,rs[i]? =some q→us[i]? =some u→((match q with| .tmp t=>pure (a.tmps.getD t undef)| .cell p t=>do loadVar t (←asAddr (a.tmps.getD p undef)):Sem Value)).run P w=.ok u w
  |[],vs,h=>by
   simp only [Gy,Option.some.injEq] at h
   subst h
   exact ⟨[],F2.nil,rfl,fun i q u hq=>by simp at hq⟩
  |q::r,vs,h=>by
   simp only [Gy] at h
   split at h
   ·rename_i v l hv hl
    injection h with h
    subst h
    obtain ⟨u,h1,h2⟩:=P6 HT S hv
    obtain ⟨us,h3,h4,h5⟩:=R6 HT S hl
    refine ⟨u::us,F2.cons h2 h3,by simp [h4],fun i q' u' hq hu=>?_⟩
    cases i with
    |zero=>simp at hq hu;subst hq hu;exact h1
    |succ i=>exact h5 i q' u' (by simpa using hq) (by simpa using hu)
   ·cases h
def Hy:List Value→Value
  |[u]=>u
  |us=>.tuple us.toArray
theorem S6 {fn:Func} {tmps:Array Value} {w:World} {us:List Value} (hl:us.length=fn.results.toList.length) (h:∀(i:Nat) q u,fn.results.toList[i]? =some q→us[i]? =some u→((match q with| .tmp t=>pure (tmps.getD t undef)| .cell p t=>do loadVar t (←asAddr (tmps.getD p undef)):Sem Value)).run P w=.ok u w):(results fn tmps).run P w=.ok (Hy us) w:=by
  have h1:=Q6 (P:=P) (w:=w) (f:=fun q:ResultVar=>(match q with| .tmp t=>pure (tmps.getD t undef)| .cell p t=>do loadVar t (←asAddr (tmps.getD p undef)):Sem Value)) hl h
  show ((fn.results.mapM fun q:ResultVar=>(match q with| .tmp t=>pure (tmps.getD t undef)| .cell p t=>do loadVar t (←asAddr (tmps.getD p undef)):Sem Value)) >>= fun vs=>pure (if h:vs.size=1 then vs[0] else .tuple vs):Sem Value).run P w=_
  rw [Array.mapM_eq_mapM_toList]
  rw [Sem.run_bind,Sem.run_map,h1]
  match us with
  |[]=>simp [Hy]
  |[u]=>simp [Hy]
  |u::v::r=>simp [Hy]
theorem T6 (HT:Qb P G.tab) {C:Pc} {st:St} {a:Act} {w:World} {β:List (Nat×Nat)} (S:Oa C st a w β) {fn:Func} {v:PV} (h:Dj G.tab st fn.results.toList=some v):∃u,(results fn a.tmps).run P w=.ok u w∧Cv w (Da st.h β) C.X st.h β v u:=by
  unfold Dj at h
  split at h
  ·rename_i q hq
   obtain ⟨u,h1,h2⟩:=P6 HT S h
   refine ⟨u,?_,h2⟩
   have:=S6 (P:=P) (fn:=fn) (tmps:=a.tmps) (w:=w) (us:=[u]) (by rw [hq];rfl) (fun i q' u' h3 h4=>by
     rw [hq] at h3
     cases i with
     |zero=>simp at h3 h4;subst h3 h4;exact h1
     |succ i=>simp at h3)
   exact this
  ·rename_i hne
   split at h
   ·rename_i vs hvs
    cases hb:(vs.all fun v=>match v with| .tup _=>false|_=>true) with
    |false=>rw [hb] at h;cases h
    |true =>
     rw [hb] at h
     injection h with h
     subst h
     obtain ⟨us,h1,h2,h3⟩:=R6 HT S hvs
     have hr:=S6 h2 h3
     have hu:Hy us=.tuple us.toArray:=by
       match us,h2 with
       |[],_=>rfl
       |[u],h2 =>
        exfalso
        cases e:fn.results.toList with
        |nil=>rw [e] at h2;simp at h2
        |cons q r=>cases r with
         |nil=>exact hne q e
         |cons q' r=>rw [e] at h2;simp at h2
       |u::v::r,_=>rfl
     rw [hu] at hr
     refine ⟨_,hr,us,rfl,h1.monoI fun x hx u hc=>?_⟩
     have:=List.all_eq_true.1 hb x hx
     cases x<;>first|exact hc|cases this
   ·cases h
def DR (G:Ka) (c:Code) (rs:List ResultVar) (AS:Zc) (ah:List Ho) (RS:Zc) (rh:List Ho) (s:HL ah):Option (HL rh):=match AS.fill (up ah s) with
  |some (ds,os)=>bif Nat.beq os.length G.M&&Nat.ble ds.length G.N then Sf G c ⟨Zn 0 ds,os⟩ (fun e st=>match e with
   | .normal=>(match Dj G.tab st rs with
     |some v=>(match RS.get G.M st.h [v] with|some l=>Ef rh l|none=>G.bad _ 61 none st)
     |none=>G.bad _ 62 none st)
   | .ret=>(match Dj G.tab st rs with
     |some v=>(match RS.get G.M st.h [v] with|some l=>Ef rh l|none=>G.bad _ 61 none st)
     |none=>G.bad _ 62 none st)
   |_=>G.bad _ 63 none st) else G.bad _ 64 none ⟨[],[]⟩
  |none=>G.bad _ 65 none ⟨[],[]⟩
theorem lO (HB:Hd G) (HT:Qb P G.tab) (H:Ma P G.Γ) (hm:P.follows .mixedOrders=true) {f:FuncId} {fn:Func} {c:Code} (hf:P.funcs[f]? =some fn) (hb:fn.body=some c) (hN:fn.ntmps=G.N) (hc:Mi P G c) {AS RS:Zc} {ah rh:List Ho} {sh:HL ah→Option (HL rh)} (hsh:∀s r,sh s=some r→DR G c fn.results.toList AS ah RS rh s=some r):GC P f ⟨AS,ah,RS,rh,sh⟩:=fun s r hs ds os hfill d0 h0' hfin=>by
  have hs:sh s=some r:=hs
  have hs:=hsh s r hs
  unfold DR at hs
  have hfill:AS.fill (up ah s)=some (ds,os):=hfill
  rw [hfill] at hs
  simp only at hs
  cases hb2:(Nat.beq os.length G.M&&Nat.ble ds.length G.N) with
  |false=>rw [hb2] at hs;simp only [cond_false] at hs;rw [HB] at hs;cases hs
  |true =>
   rw [hb2] at hs
   simp only [cond_true] at hs
   simp only [Bool.and_eq_true] at hb2
   have hM:=Nat.eq_of_beq_eq_true hb2.1
   have hds:=Nat.le_of_ble_eq_true hb2.2
   have endQ:∀(st:St),(match Dj G.tab st fn.results.toList with
     |some v=>(match RS.get G.M st.h [v] with|some l=>Ef rh l|none=>G.bad _ 61 none st)
     |none=>G.bad _ 62 none st)=some r→∃v l,Dj G.tab st fn.results.toList=some v∧RS.get G.M st.h [v]=some l∧Ef rh l=some r:=fun st hq=>by
     split at hq
     ·rename_i v hv
      split at hq
      ·rename_i l hl;exact ⟨v,l,hv,hl,hq⟩
      ·rw [HB] at hq;cases hq
     ·rw [HB] at hq;cases hq
   have hev:=Xn (r:=r) HB HT H hm c _ ⟨Zn 0 ds,os⟩ (fun e st=>(e=.normal∨e=.ret)∧∃v l,Dj G.tab st fn.results.toList=some v∧RS.get G.M st.h [v]=some l∧Ef rh l=some r) hc (fun e st hk=>by
     cases e with
     |normal=>exact ⟨.inl rfl,endQ st hk⟩
     |ret=>exact ⟨.inr rfl,endQ st hk⟩
     |_=>(simp only at hk;rw [HB] at hk;cases hk)) hs
   have key:∀w X β args,(∀b,X b→b<w.heap.size)→Pb w (Da os β) X os β→F2 (Cv w (Da os β) X os β) ds args→Gi w os β→Calls P f args.toArray w fun ex w'=>∃d h',RS.fill (up rh r)=some ([d],h')∧∃u β',ex=.returned u∧Gb w os β w' h' β'∧Pb w' (Da h' β') X h' β'∧Cv w' (Da h' β') X h' β' d u:=fun w X β args hX hH hargs hG=>by
     refine calls_of_wp hf hb ?_
     have hw:=hev ⟨w,os,β,G.N,X⟩ { tmps:=args.toArray++Array.replicate (fn.ntmps-args.toArray.size) undef,defers:=[] } w β rfl hM
       ⟨⟨hH.len,hG⟩,hX,Gb.refl _ _ _,hH,by have:=hargs.1;simp;omega,rfl,fun i v hi=>by
         obtain ⟨_,h1⟩:=CR ds 0 i v hi
         rw [Nat.sub_zero] at h1
         obtain ⟨u,hu,hR⟩:=hargs.get h1
         refine ⟨u,?_,hR⟩
         have hl:i<args.length:=(List.getElem?_eq_some_iff.1 hu).1
         show (args.toArray++Array.replicate (fn.ntmps-args.toArray.size) undef)[i]? =some u
         rw [Array.getElem?_append_left (by simpa using hl)]
         simpa using hu⟩
     refine wp_mono hw ?_
     rintro e a' w' ⟨st',β',⟨he,v,l,h1,h2,h3⟩,S'⟩
     unfold Zc.get at h2
     split at h2
     rename_i ρ vr hρ
     cases hb3:(Un vr&&Em G.M ρ (st'.h++vr)) with
     |false=>rw [hb3] at h2;cases h2
     |true =>
      rw [hb3] at h2
      simp only [cond_true] at h2
      simp only [Bool.and_eq_true] at hb3
      obtain ⟨u,hres,hu0⟩:=T6 HT S' h1
      obtain ⟨β2,S2,hst2⟩:=S'.virt vr hb3.1
      obtain ⟨ds',os',g1,g2,g3,g4⟩:=JQ S2 hM hb3.2 h2
      have hu:Cv w' (Da (st'.h++vr) β2) X (st'.h++vr) β2 v u:=hu0.keep (fun _ _ _=>rfl) (Nat.le_refl _) (fun b hb hn h=>hn (hst2.new b hb h)) (fun _ _ _ h=>h) hst2.hle hst2.beta
      have hF:=g2 [u] (F2.cons hu F2.nil)
      have hl1:ds'.length=1:=by rw [←hF.1];rfl
      obtain ⟨d,rfl⟩:∃d,ds'=[d]:=by
        match ds',hl1 with
        |[d],_=>exact ⟨d,rfl⟩
      have hd:Cv w' (Da os' (Wc ρ β2)) X os' (Wc ρ β2) d u:=hF.2 0 d u rfl rfl
      have hup:=Rn h3
      rcases he with rfl|rfl
      ·exact ⟨S'.df,u,hres,d,os',by rw [hup];exact g1,u,_,rfl,g4,g3,hd⟩
      ·exact ⟨S'.df,u,hres,d,os',by rw [hup];exact g1,u,_,rfl,g4,g3,hd⟩
   intro w X β args hX hH hargs hG
   refine Calls.mono (key w X β args hX hH hargs hG) fun ex w' hx=>?_
   obtain ⟨d,h',g1,g2⟩:=hx
   have hfin:RS.fill (up rh r)=some ([d0],h0'):=hfin
   rw [hfin] at g1
   injection g1 with g1
   injection g1 with e1 e2
   injection e1 with e1
   subst e1 e2
   exact g2
theorem Ra (HB:Hd G) (HT:Qb P G.tab) (H:Ma P G.Γ) (hm:P.follows .mixedOrders=true) {f:FuncId} {fn:Func} {c:Code} (hf:P.funcs[f]? =some fn) (hb:fn.body=some c) (hN:fn.ntmps=G.N) (hc:Mi P G c) {AS RS:Zc} {ah rh:List Ho} {sh:HL ah→Option (HL rh)} (hsh:∀s,DR G c fn.results.toList AS ah RS rh s=sh s):GC P f ⟨AS,ah,RS,rh,sh⟩:=lO HB HT H hm hf hb hN hc fun s _ h=>(hsh s).trans h
end
end Go.Proofs.YtknkhdjhongklaaGreat
namespace Go.Proofs.YtknkhdjhongklaaGreat
open Go.RowKit
def II:List (Nat×TI)→Nat→Option TI
  |[],_=>none
  |(j,i)::r,t=>bif Nat.beq j t then some i else II r t
def U6 (P:Program):List (Nat×TI)→Prop
  |[]=>True
  |(j,i)::r=>Nb P j i∧U6 P r
theorem V6 {P:Program}:∀{l:List (Nat×TI)},U6 P l→Qb P (II l)
  |[],_,t,i,h=>by cases h
  |(j,i')::r,⟨h1,h2⟩,t,i,h=>by
   simp only [II] at h
   cases hb:Nat.beq j t with
   |true =>
    rw [hb] at h
    injection h with h
    subst h
    have:=Nat.eq_of_beq_eq_true hb
    subst this
    exact h1
   |false =>
    rw [hb] at h
    exact V6 h2 t i h
def JI:List PV→List Nat
  |[]=>[]
  | .fn f _::r=>f::JI r
  |_::r=>JI r
def ER:List Nat→List Nat→Bool
  |[],[]=>true
  |a::r,b::s=>Nat.beq a b&&ER r s
  |_,_=>false
def KI:List (Nat×List Nat×Na)→FuncId→List PV→Option Na
  |[],_,_=>none
  |(g,l,e)::r,f,vs=>bif Nat.beq g f&&ER l (JI vs) then some e else KI r f vs
def W6 (P:Program):List (Nat×List Nat×Na)→Prop
  |[]=>True
  |(g,_,e)::r=>(GC P g e∧∀args w,(callFunc g args).run P w=.ok (.enter g args) w)∧W6 P r
theorem Pa {P:Program}:∀{l:List (Nat×List Nat×Na)},W6 P l→Ma P (KI l)
  |[],_,f,vs,e,h=>by cases h
  |(g,l,e')::r,⟨h1,h2⟩,f,vs,e,h=>by
   simp only [KI] at h
   cases hb:(Nat.beq g f&&ER l (JI vs)) with
   |true =>
    rw [hb] at h
    injection h with h
    subst h
    simp only [Bool.and_eq_true] at hb
    have:=Nat.eq_of_beq_eq_true hb.1
    subst this
    exact h1
   |false =>
    rw [hb] at h
    exact Pa h2 f vs e h
def GR {α:Type}:List (Nat×α)→Nat→Option α
  |[],_=>none
  |(j,x)::r,i=>bif Nat.beq j i then some x else GR r i
def Qa (tab:TypeId→Option TI) (cs:List (Nat×List Nat×Na)) (N M:Nat) (ps:List (Nat×Nat×List (Nat×Bool)×List Nat)) (ls:List (Nat×Xa)):Ka :=
  ⟨tab,KI cs,N,M,GR ps,GR ls,fun _ _ _ _=>none⟩
theorem Ga {tab:TypeId→Option TI} {cs:List (Nat×List Nat×Na)} {N M:Nat} {ps:List (Nat×Nat×List (Nat×Bool)×List Nat)} {ls:List (Nat×Xa)}:Hd (Qa tab cs N M ps ls):=fun _ _ _ _=>rfl
def Fm:Code→List Code
  | .seq a b=>Fm a++Fm b
  | .cond _ a b=>Fm a++Fm b
  | .block _ c=>Fm c
  | .loop c=>[c]
  |_=>[]
def Ek (plan:Nat→Option (Nat×List (Nat×Bool)×List Nat)):Code→Bool
  | .region id ops true=>match plan id with|some (n,ord,_)=>QG .any ops n ord|none=>true
  | .seq a b=>Ek plan a&&Ek plan b
  | .cond _ a b=>Ek plan a&&Ek plan b
  | .block _ c=>Ek plan c
  |_=>true
def Fl (plan:Nat→Option (Nat×List (Nat×Bool)×List Nat)):Code→List (Nat×Array Oper)
  | .region id ops true=>match plan id with|some _=>[]|none=>[(id,ops)]
  | .seq a b=>Fl plan a++Fl plan b
  | .cond _ a b=>Fl plan a++Fl plan b
  | .block _ c=>Fl plan c
  |_=>[]
theorem Qv {P:Program} {G:Ka}:∀(c:Code),Ek G.plan c=true→(∀c'∈Fm c,∀L,Hp G c'=some L→Db P G.M G.N c' L)→(∀x∈Fl G.plan c,∀L,G.loop x.1=some L→Tf P G.M G.N x.1 x.2 L)→Mi P G c
  | .skip,_,_,_=>trivial
  | .exit _,_,_,_=>trivial
  | .ret,_,_,_=>trivial
  | .region id ops false,_,_,_=>trivial
  | .region id ops true,hp,_,hr=>⟨fun n ord ks h=>by
    simp only [Ek,h] at hp
    exact hp,fun h L hL=>hr (id,ops) (by simp [Fl,h]) L hL⟩
  | .seq a b,hp,hl,hr=>by
    simp only [Ek,Bool.and_eq_true] at hp
    exact ⟨Qv a hp.1 (fun c' h=>hl c' (List.mem_append_left _ h)) fun x h=>hr x (List.mem_append_left _ h),Qv b hp.2 (fun c' h=>hl c' (List.mem_append_right _ h)) fun x h=>hr x (List.mem_append_right _ h)⟩
  | .cond _ a b,hp,hl,hr=>by
    simp only [Ek,Bool.and_eq_true] at hp
    exact ⟨Qv a hp.1 (fun c' h=>hl c' (List.mem_append_left _ h)) fun x h=>hr x (List.mem_append_left _ h),Qv b hp.2 (fun c' h=>hl c' (List.mem_append_right _ h)) fun x h=>hr x (List.mem_append_right _ h)⟩
  | .block _ c,hp,hl,hr=>Qv c hp hl hr
  | .loop c,_,hl,_=>fun L h=>hl c (List.mem_singleton.2 rfl) L h
  | .rangeFunc _ _ _ _,_,_,_=>trivial
  | .scope _,_,_,_=>trivial
  | .label _,_,_,_=>trivial
  | .goto _,_,_,_=>trivial
  | .refuse _,_,_,_=>trivial
def Ab (c:Code) (i:Nat):Code:=(Fm c).getD i .skip
def Iy:Nat→(Nat→Prop)→Prop
  |0,_=>True
  |n+1,R=>Iy n R∧R n
theorem HR:∀{n:Nat} {R:Nat→Prop},Iy n R→∀i,i<n→R i
  |0,R,_,i,hi=>by omega
  |n+1,R,h,i,hi=>by
   by_cases e:i=n
   ·subst e;exact h.2
   ·exact HR h.1 i (by omega)
def Ke (plan:Nat→Option (Nat×List (Nat×Bool)×List Nat)) (c:Code) (i:Nat):Nat×Array Oper:=(Fl plan c).getD i (0,#[])
theorem Jp {P:Program} {G:Ka} {c:Code} {n m:Nat} (hp:Ek G.plan c=true) (hn:(Fm c).length=n) (hl:Iy n fun i=>∀L,Hp G (Ab c i)=some L→Db P G.M G.N (Ab c i) L) (hm:(Fl G.plan c).length=m) (hr:Iy m fun i=>∀L,G.loop (Ke G.plan c i).1=some L→Tf P G.M G.N (Ke G.plan c i).1 (Ke G.plan c i).2 L):Mi P G c :=
  Qv c hp (fun c' hc=>by
    obtain ⟨i,hi⟩:=List.getElem?_of_mem hc
    have hil:=(List.getElem?_eq_some_iff.1 hi).1
    have:=HR hl i (by omega)
    have e:Ab c i=c':=by simp [Ab,hi]
    rwa [e] at this) fun x hx=>by
    obtain ⟨i,hi⟩:=List.getElem?_of_mem hx
    have hil:=(List.getElem?_eq_some_iff.1 hi).1
    have:=HR hr i (by omega)
    have e:Ke G.plan c i=x:=by simp [Ke,hi]
    rwa [e] at this
theorem Ha {P:Program} {G:Ka} {c:Code} {n:Nat} (hp:Ek G.plan c=true) (hn:(Fm c).length=n) (hl:Iy n fun i=>∀L,Hp G (Ab c i)=some L→Db P G.M G.N (Ab c i) L) (hm:(Fl G.plan c).length=0):Mi P G c:=Jp hp hn hl hm trivial
theorem Gl {P:Program} {G:Ka} {x:Nat×Array Oper} {L0:Xa} (hl:G.loop x.1=some L0) (h:Tf P G.M G.N x.1 x.2 L0):∀L,G.loop x.1=some L→Tf P G.M G.N x.1 x.2 L:=fun L hL=>by
  rw [hl] at hL
  injection hL with hL
  subst hL
  exact h
theorem Fb {P:Program} {G:Ka} {c:Code} {id:Nat} {L0:Xa} (hid:Dk c=some id) (hl:G.loop id=some L0) (h:Db P G.M G.N c L0):∀L,Hp G c=some L→Db P G.M G.N c L:=fun L hL=>by
  unfold Hp at hL
  rw [hid] at hL
  simp only at hL
  rw [hl] at hL
  injection hL with hL
  subst hL
  exact h
def Fa:Nat:=18446744073709551616
end Go.Proofs.YtknkhdjhongklaaGreat
end
