/- Part 3 of the proof: Kc Kd Ke Kf Mv Mx Mx2 U1 U3 U4 U5 U2. -/
import Derived.Test.YtknkhdjhongklaaGreatProg
import Derived.KernelRfl
import Derived.Test.YtknkhdjhongklaaGreatRows
import Derived.ProofKit
import Derived.OpenShut
import Derived.Carry
import Derived.Deep.Slices
import Derived.Deep.Fields
import Derived.Deep.Strs
import Derived.Lib.SmallJoins
import Derived.ChangeSame
import Derived.ChangeArms
import Derived.Test.YtknkhdjhongklaaGreatQy2
set_option linter.unusedSimpArgs false
set_option linter.unusedVariables false
set_option maxRecDepth 100000
namespace Go.Proofs.YtknkhdjhongklaaGreat
section
open Go.RowKit
def IR (tab:TypeId→Option TI) (ops:Array Oper) (N:Nat) (q:Nat×Nat):Bool:=match ops[q.1]? with
  |some o=>(match o.op,o.dst,o.guard with
   | .buildSlice t n ps,some d,none=>Nat.beq n 0&&ps.isEmpty&&Nat.beq d q.2&&Nat.blt d N&&(match tab t with|some i=>(match i.elem with|some _=>true|none=>false)|none=>false)
   |_,_,_=>false)&&o.after.all (fun e=>!Region.binds .any e)
  |none=>false
structure Rv (P:Program) (ops:Array Oper) (N:Nat) (q:Nat×Nat) (o:Oper):Prop where
  at_:ops[q.1]? =some o
  dst:o.dst=some q.2
  guard:o.guard=none
  lt:q.2<N
  sel:∀cs b,o.op≠.select cs b
  wait:∀e∈o.after,Region.binds .any e=true→False
  noval:Jf o.op=false
  run:∃e,∀(ρ:Operand→Value) w,(execOp ρ o).run P w=.ok (.value (.slice (some ⟨w.heap.size,0,none⟩) 0 0)) (w.alloc (.cells #[] e))
section
variable {P:Program} {tab:TypeId→Option TI} {ops:Array Oper} {N:Nat}
theorem lP (H:Qb P tab) {q:Nat×Nat} (h:IR tab ops N q=true):∃o,Rv P ops N q o:=by
  unfold IR at h
  split at h
  case h_2=>cases h
  rename_i o ho
  simp only [Bool.and_eq_true] at h
  obtain ⟨h,hw⟩:=h
  split at h
  case h_2=>cases h
  rename_i t n ps d hop hdst hg
  simp only [Bool.and_eq_true] at h
  obtain ⟨⟨⟨⟨h1,h2⟩,h3⟩,h4⟩,h5⟩:=h
  have h1:=Nat.eq_of_beq_eq_true h1
  subst h1
  have h3:=Nat.eq_of_beq_eq_true h3
  subst h3
  have hps:ps= #[]:=by simpa using h2
  subst hps
  split at h5
  case h_2=>cases h5
  rename_i i hi
  split at h5
  case h_2=>cases h5
  rename_i el hel
  obtain ⟨e,τ,bytes⟩:=el
  refine ⟨o,ho,hdst,hg,Nat.blt_eq.mp h4,fun cs b=>(by rw [hop];intro h;cases h),fun e' he' hb=>?_,by rw [hop];rfl,e,fun ρ w=>?_⟩
  ·have:=Array.all_eq_true_iff_forall_mem.1 hw e' he'
   rw [hb] at this;cases this
  ·have T:=H t i hi
   simp [execOp,hop,Instr.buildSlice,Zi T hel,Tj T hel,Instr.fill,newRow,Array.range_zero']
def Jy:Value:=.slice none 0 0
def Od:List (Nat×Nat)→Act→Act
  |[],a=>a
  |q::r,a=>(Od r a).put (some q.2) Jy
def vl:List (Nat×Nat)→Array Bool→Array Bool
  |[],l=>l
  |q::r,l=>(vl r l).setIfInBounds q.1 true
def Ao:List (Nat×Nat)→St→St
  |[],st=>st
  |q::r,st=>(Ao r st).put (some q.2) (.im .nil)
theorem JR (D:List (Nat×Nat)) (l:Array Bool) (i:Nat):vl D (l.setIfInBounds i true)=(vl D l).setIfInBounds i true:=by
  induction D with
  |nil=>rfl
  |cons q r ih =>
   simp only [vl,ih]
   by_cases h:i=q.1
   ·subst h;rfl
   ·exact Array.setIfInBounds_comm _ _ h
theorem LI (D:List (Nat×Nat)) (a:Act):(Od D a).tmps.size=a.tmps.size:=by
  induction D with
  |nil=>rfl
  |cons q r ih=>simp [Od,Act.put,ih]
theorem lQ (D:List (Nat×Nat)) (a:Act):(Od D a).defers=a.defers:=by
  induction D with
  |nil=>rfl
  |cons q r ih=>simp [Od,Act.put,ih]
theorem KR (D:List (Nat×Nat)) (a:Act) (i:Nat) (hi:i<a.tmps.size):(Od D a).tmps[i]? =if i∈D.map (·.2) then some Jy else a.tmps[i]? :=by
  induction D with
  |nil=>simp [Od]
  |cons q r ih =>
   simp only [Od,Act.put,List.map_cons,List.mem_cons]
   by_cases h:q.2=i
   ·subst h
    rw [if_pos (.inl rfl),Array.getElem?_setIfInBounds,if_pos rfl,if_pos (by rw [LI];exact hi)]
   ·rw [Array.getElem?_setIfInBounds_ne h,ih]
    have hne:i≠q.2:=fun e=>h e.symm
    by_cases hr:i∈r.map (·.2)
    ·rw [if_pos hr,if_pos (.inr hr)]
    ·rw [if_neg hr,if_neg (fun e=>e.elim hne hr)]
theorem X6 (D:List (Nat×Nat)) (a:Act) (i:Nat) (hi:a.tmps.size≤i):(Od D a).tmps[i]? =none:=Array.getElem?_eq_none (by rw [LI];exact hi)
theorem lR {D:List (Nat×Nat)} {a:Act} {d:Option Tmp} {v:Value} (h:∀q∈D,d≠some q.2):(Od D a).put d v=Od D (a.put d v):=by
  induction D with
  |nil=>rfl
  |cons q r ih =>
   simp only [Od]
   rw [←ih fun q' hq'=>h q' (List.mem_cons_of_mem _ hq'),Act.put_comm]
   intro e he hd
   exact h q (List.mem_cons_self ..) (hd.trans he.symm)
theorem Z6 {Q:Exit→Act→World→Prop} {j:Nat} {oj:Oper} (hj:ops[j]? =some oj) (hsj:∀cs b,oj.op≠.select cs b):∀(D:List (Nat×Nat)) {K:Act→World→Prop} {a:Act} {w:World},(∀q∈D,∃oi,Rv P ops N q oi∧oi.apart ops oj=true)→wpOp P ops (Nc Q) j K (Od D a) w→wpOp P ops (Nc Q) j (fun a' w'=>K (Od D a') w') a w
  |[],K,a,w,_,h=>h
  |q::r,K,a,w,hD,h=>by
   obtain ⟨oi,hp,hap⟩:=hD q (List.mem_cons_self ..)
   simp only [Od] at h
   rw [←hp.dst] at h
   have:=wpOp_putIf (S:=fun _=>False) hj hap hp.sel hsj (fun c a w h=>h) (.inl ⟨by simp [Region.wanted,hp.guard],fun w h=>h.elim⟩) h
   rw [hp.dst] at this
   exact Z6 hj hsj r (fun q' hq'=>hD q' (List.mem_cons_of_mem _ hq')) (wpOp_mono (fun a' w' h'=>h'.2) this)
theorem A7 {Q:Oper→Act→Prop} {j:Nat} {oj:Oper} (hsj:∀cs b,oj.op≠.select cs b):∀(D:List (Nat×Nat)) {a:Act},(∀q∈D,∃oi,Rv P ops N q oi∧oi.apart ops oj=true)→execOp (Od D a).eval oj=execOp a.eval oj∧Region.wanted oj (yielded ops (Od D a).tmps)=Region.wanted oj (yielded ops a.tmps)
  |[],a,_=>⟨rfl,rfl⟩
  |q::r,a,hD=>by
   obtain ⟨oi,hp,hap⟩:=hD q (List.mem_cons_self ..)
   obtain ⟨h1,_,_⟩:=Oper.apart_spec hap
   obtain ⟨i1,i2⟩:=A7 (Q:=Q) (j:=j) hsj r (a:=a) (fun q' hq'=>hD q' (List.mem_cons_of_mem _ hq'))
   simp only [Od]
   rw [←hp.dst]
   exact ⟨(execOp_put oj hsj _ oi.dst Jy h1).trans i1,(wanted_put oj _ oi.dst Jy h1).trans i2⟩
end
def Gf (md:Region.Mode) (ops:Array Oper):Bool→Nat→Tr→Array Bool→Array Bool→Bool
  |_,0,.done,_,L=>decide (Region.ready md ops L=[])
  |_,m+1,.val k r,base,L=>(match ops[k]? with
    |some o=>Jf o.op&&(Region.ready md ops base).contains k&&Region.free md ops base k
    |none=>false)&&Gf md ops true m r (base.setIfInBounds k true) (L.setIfInBounds k true)
  |b,m+1,.one k r,base,L=>(!b||decide (Region.ready md ops L=[k]))&&Gf md ops true m r (base.setIfInBounds k true) (L.setIfInBounds k true)
  |b,m+1,.alt k r t,base,L=>(!b||decide (Region.ready md ops L=k::Je t))&&Gf md ops true m r (base.setIfInBounds k true) (L.setIfInBounds k true)&&Gf md ops false (m+1) t base L
  |_,_,_,_,_=>false
def Ky:List Nat→Bool
  |[]=>true
  |k::r=>Kg r k&&Ky r
def B7 (tab:TypeId→Option TI) (ops:Array Oper) (N:Nat) (D:List (Nat×Nat)) (t:Tr):Bool :=
  Region.noSelect ops&&D.all (IR tab ops N)&&D.all (fun q=>Region.free .any ops (Array.replicate ops.size false) q.1)&&Ky (D.map (·.1))&&Ky (D.map (·.2))&&Nat.ble D.length ops.size&&Gf .any ops true (ops.size-D.length) t (Array.replicate ops.size false) (vl D (Array.replicate ops.size false))
def C7:Option PV→Bool
  |some (.im .nil)=>true
  |_=>false
def Gm (D:List (Nat×Nat)) (t0 t:List (Nat×PV)):Bool:=D.all fun q=>Fp t0 (some q.2)&&C7 (Kd t q.2)
def Sh {ρ:Type} (G:Ka) (ops:List Oper) (ks:List Nat) (D:List (Nat×Nat)):List (Nat×Bool)→List (Oper×Bool)→St→St→(List (Nat×Bool)→St→Option ρ)→Option ρ
  |kn,[],st0,st,K=>bif Gm D st0.t st.t then K kn st else G.bad ρ 37 none st
  |kn,(o,f)::r,st0,st,K=>bif Gm D st0.t st.t then Rh G ops ks kn o f st0 st fun kn' s u=>Sh G ops ks D kn' r s u K else G.bad ρ 37 (some o) st
def D7 (G:Ka) (ops:List Oper) (D:List (Nat×Nat)) (ks:List Nat) (F FX FR:Td) (p:List (Nat×Bool)) (s:HL F.hs):Option (HL FX.hs⊕HL FR.hs):=bif Rf (F.st s).h ks then Sh G ops ks D [] (Ec ops p) ⟨(F.st s).t,Ic ks (F.st s).h⟩ (Ao D (F.st s)) fun _ st2=>(match FX.get G.M st2 with|some x=>some (.inl x)|none=>G.bad _ 52 none st2) else G.bad _ 41 none (F.st s)
theorem E7 {k:Nat}:∀{l:List Nat},Kg l k=true→k∉l
  |[],_,h=>by simp at h
  |j::r,h,hk=>by
   simp only [Kg] at h
   cases hb:Nat.beq j k with
   |true=>rw [hb] at h;cases h
   |false =>
    rw [hb] at h
    rcases List.mem_cons.1 hk with rfl|hk
    ·simp at hb
    ·exact E7 h hk
theorem LR:∀{l:List Nat},Ky l=true→l.Nodup
  |[],_=>List.nodup_nil
  |k::r,h=>by
   simp only [Ky,Bool.and_eq_true] at h
   exact List.nodup_cons.2 ⟨E7 h.1,LR h.2⟩
theorem F7 {D:List (Nat×Nat)} {t0 t:List (Nat×PV)} (h:Gm D t0 t=true):∀q∈D,Kd t0 q.2=none∧Kd t q.2=some (.im .nil):=fun q hq=>by
  have:=List.all_eq_true.1 h q hq
  simp only [Bool.and_eq_true] at this
  refine ⟨Wn this.1 _ rfl,?_⟩
  have h2:=this.2
  unfold C7 at h2
  split at h2
  ·rename_i e;exact e
  ·cases h2
theorem G7 {md:Region.Mode} {ops:Array Oper} {i:Nat} {l:Array Bool}:∀{D:List (Nat×Nat)},i∈Region.ready md ops l→i∉D.map (·.1)→i∈Region.ready md ops (vl D l)
  |[],h,_=>h
  |q::r,h,hn=>by
   simp only [List.map_cons,List.mem_cons,not_or] at hn
   exact ready_mono (G7 (D:=r) h hn.2) hn.1
theorem lS {D:List (Nat×Nat)} {q:Nat×Nat} {l:Array Bool} (hq:q∈D):vl (D.erase q) (l.setIfInBounds q.1 true)=vl D l:=by
  induction D with
  |nil=>simp at hq
  |cons p r ih =>
   by_cases h:p=q
   ·subst h
    rw [List.erase_cons_head,JR]
    rfl
   ·have hr:q∈r:=(List.mem_cons.1 hq).resolve_left (fun e=>h e.symm)
    have:(p::r).erase q=p::r.erase q:=List.erase_cons_tail (by simpa using h)
    rw [this]
    simp only [vl,ih hr]
section
variable {P:Program} {G:Ka} {C:Pc} {E0:Nat→Prop} {ks:List Nat} {st0 st:St} {a a':Act} {w0 w:World} {β0 β:List (Nat×Nat)}
theorem Jb.alloc0 (S:Oa C st a w β) (o:Obj):Oa C st a (w.alloc o) β∧Gb w st.h β (w.alloc o) st.h β:=by
  have hb:Below w.heap.size w (w.alloc o):=(Below.refl _ _).alloc (Nat.le_refl _) _
  have occ:∀{k:Nat} {p:Nat×Nat} {σ:Ty} {u:Value},Va (w.alloc o) st.h β k p σ u→Va w st.h β k p σ u:=fun {k p σ u} ho=>by
    have ho':=ho
    obtain ⟨t,τ,xs,b,c,us,junk,z1,z2,_⟩:=ho'
    exact Tu S.heap z1 z1 (fun _ h=>h) (fun b c h1 _ h2=>hb.block b (Da.lt S.heap ⟨k,_,c,z1,h2,h1⟩)) (fun b hb' _=>hb.block b hb') ho
  have occO:∀{k:Nat} {p:Nat×Nat} {m:Nat},Mb (w.alloc o) st.h β k p m→Mb w st.h β k p m:=fun {k p m} ⟨σ,u,h1,h2⟩=>⟨σ,u,occ h1,h2⟩
  have hs:Gb w st.h β (w.alloc o) st.h β:=⟨hb.os,hb.tape,hb.output,hb.size,fun b hb' _=>hb.block b hb',fun _ _ h=>h,fun _ _ h=>h,Cc.refl _,fun k p m _ h=>.inl ⟨k,p,occO h⟩⟩
  exact ⟨S.world hs ⟨S.heap.len,fun _ h=>h,S.heap.nx,fun k ob hk=>(S.heap.ok k ob hk).keep (fun b c h1 h2=>hb.block b (Da.lt S.heap ⟨k,ob,c,hk,h2,h1⟩)) (fun b hb' _=>hb.block b hb') hb.size (fun _ _ h=>h) (Cc.refl _) (fun _ _ h=>h),S.heap.inj,fun k p j q m h1 h2=>S.heap.uq k p j q m (occO h1) (occO h2),fun k p σ u m h1 h2=>(S.heap.pl k p σ u m (occ h1) h2).keep h2 (hb.block m (De S.heap.ok (occ h1) h2).1)⟩,hs⟩
theorem Jb.tmps (S:Jb C E0 st a w β) (h1:a'.tmps.size=a.tmps.size) (h2:a'.defers=a.defers) (h3:∀i v,Kd st.t i=some v→a'.tmps[i]? =a.tmps[i]?∨∃u,a'.tmps[i]? =some u∧Cv w E0 C.X st.h β v u):Jb C E0 st a' w β:=by
  refine ⟨S.cl,S.xw,S.step,S.heap,h1.trans S.sz,h2.trans S.df,fun i v hi=>?_⟩
  rcases h3 i v hi with h|h
  ·rw [h];exact S.tm i v hi
  ·exact h
theorem I7 {g:Nat×Nat→Nat} {D:List (Nat×Nat)} {q:Nat×Nat} (hn:(D.map g).Nodup) (hq:q∈D):g q∉(D.erase q).map g∧∀i,i≠g q→(i∈(D.erase q).map g↔i∈D.map g):=by
  induction D with
  |nil=>simp at hq
  |cons p r ih =>
   simp only [List.map_cons,List.nodup_cons] at hn
   by_cases h:p=q
   ·subst h
    rw [List.erase_cons_head]
    exact ⟨hn.1,fun i hi=>by simp [hi]⟩
   ·have hr:q∈r:=(List.mem_cons.1 hq).resolve_left (fun e=>h e.symm)
    have e:(p::r).erase q=p::r.erase q:=List.erase_cons_tail (by simpa using h)
    obtain ⟨i1,i2⟩:=ih hn.2 hr
    rw [e]
    refine ⟨?_,fun i hi=>?_⟩
    ·simp only [List.map_cons,List.mem_cons,not_or]
     exact ⟨fun e=>hn.1 (by rw [←e];exact List.mem_map_of_mem hr),i1⟩
    ·simp only [List.map_cons,List.mem_cons,i2 i hi]
theorem J7 {D:List (Nat×Nat)} {q:Nat×Nat} (hn:(D.map (·.2)).Nodup) (hq:q∈D) (hN:q.2<C.N) (A:Option Addr) (hs:∀v,Kd st.t q.2=some v→v=.im .nil) (S:Jb C E0 st (Od D a) w β):Jb C E0 st (Od (D.erase q) (a.put (some q.2) (.slice A 0 0))) w β:=by
  have hsz:a.tmps.size=C.N:=by rw [←S.sz,LI]
  obtain ⟨n1,n2⟩:=I7 (g:=(·.2)) hn hq
  refine S.tmps (by simp [LI,Act.put]) (by simp [lQ,Act.put]) fun i v hi=>?_
  by_cases he:i=q.2
  ·subst he
   refine .inr ⟨.slice A 0 0,?_,by rw [hs v hi];exact Ri.nil A⟩
   rw [KR _ _ _ (by simp [Act.put];omega),if_neg n1]
   simp [Act.put,hsz,hN]
  ·refine .inl ?_
   rcases Nat.lt_or_ge i a.tmps.size with hl|hl
   ·rw [KR _ _ _ (by simpa [Act.put] using hl),KR _ _ _ hl]
    simp only [n2 i he]
    have:¬q.2=i:=fun e=>he e.symm
    simp [Act.put,Array.getElem?_setIfInBounds_ne this]
   ·rw [X6 _ _ _ (by simpa [Act.put] using hl),X6 _ _ _ hl]
theorem K7 {ρ ι:Type} (HB:Hd G) {ops:List Oper} {D:List (Nat×Nat)} {kn:List (Nat×Bool)} {o:Oper} {f:Bool} {st0 st:St} {K:List (Nat×Bool)→St→Option ρ} {r:ρ} {L:List ι} {g:ι→List (Oper×Bool)} (hne:L≠[]) (h:∀p∈L,Sh G ops ks D kn ((o,f)::g p) st0 st K=some r):Gm D st0.t st.t=true∧∃x:List (Nat×Bool)×St×St,Rh G ops ks kn o f st0 st (fun a b c=>some (a,b,c))=some x∧∀p∈L,Sh G ops ks D x.1 (g p) x.2.1 x.2.2 K=some r:=by
  have hc:Gm D st0.t st.t=true:=by
    obtain ⟨p,hp⟩:=List.exists_mem_of_ne_nil L hne
    have:=h p hp
    unfold Sh at this
    cases hc:Gm D st0.t st.t with
    |true=>rfl
    |false=>rw [hc] at this;simp only [cond_false] at this;rw [HB] at this;cases this
  refine ⟨hc,Ov HB (K:=fun p kn' s u=>Sh G ops ks D kn' (g p) s u K) hne fun p hp=>?_⟩
  have:=h p hp
  unfold Sh at this
  rw [hc] at this
  exact this
theorem NR {ρ:Type} (HB:Hd G) {ops:List Oper} {D:List (Nat×Nat)} {kn:List (Nat×Bool)} {l:List (Oper×Bool)} {st0 st:St} {K:List (Nat×Bool)→St→Option ρ} {r:ρ} (h:Sh G ops ks D kn l st0 st K=some r):Gm D st0.t st.t=true:=by
  unfold Sh at h
  cases hc:Gm D st0.t st.t with
  |true=>rfl
  |false=>cases l<;>simp only [hc,cond_false] at h<;>rw [HB] at h<;>cases h
structure OR (ops:List Oper) (D Dp:List (Nat×Nat)) (base listed:Array Bool):Prop where
  sub:∀q∈Dp,q∈D
  nk:(Dp.map (·.1)).Nodup
  ns:(Dp.map (·.2)).Nodup
  un:∀q∈Dp,listed.getD q.1 true=false
  inv:HeadInv .any ops.toArray ops.length listed
  below:∀i,base.getD i false=true→listed.getD i false=true
  off:∀i,i∉D.map (·.1)→listed.getD i true=base.getD i true
  done:∀q∈D,q∉Dp→listed.getD q.1 false=true
  offD:∀q∈D,base.getD q.1 true=false
theorem lT {ρ:Type} {h0:List Ca} (HB:Hd G) (HT:Qb P G.tab) (H:Ma P G.Γ) {ops:List Oper} {D:List (Nat×Nat)} {K:List (Nat×Bool)→St→Option ρ} {r:ρ} {Q:Exit→Act→World→Prop} {T:Act→World→Prop} (hN:C.N=G.N)
    (hsel:Region.noSelect ops.toArray=true) (hD:∀q∈D,∃oi,Rv P ops.toArray G.N q oi) (hfree:∀q∈D,Region.free .any ops.toArray (Array.replicate ops.toArray.size false) q.1=true)
    (hT:∀kn st a w β,K kn st=some r→Oa C st a w β→T a w):∀(f m:Nat) (t:Tr) (Dp:List (Nat×Nat)) (base listed:Array Bool) (kn:List (Nat×Bool)) (st0 st:St) (a:Act) (w:World) (β:List (Nat×Nat)),f=m+Dp.length→OR ops D Dp base listed→Gf .any ops.toArray true m t base (vl Dp listed)=true→Ae ops t=true →
      (∀p∈Wb t,Sh G ops ks D kn (Ec ops p) st0 st K=some r)→st0.h=h0→Jb C E0 st0 (Od Dp a) w0 β0→Oa C st (Od Dp a) w β→Id ks E0 st0 w0 β0 st w β →
      Of P .any ops.toArray (Nc Q) (fun w'=>Gc w0 w' E0 h0 β0) ops.length (fun listed' a' w'=>Region.ready .any ops.toArray listed'=[]∧T a' w') f listed a w:=by
  have apart:∀{Dp:List (Nat×Nat)} {base listed:Array Bool},OR ops D Dp base listed→∀{j:Nat} {oj:Oper},ops.toArray[j]? =some oj→j∉Dp.map (·.1)→(∀e∈oj.after,Region.binds .any e=true→listed.getD e.on false=true)→∀q∈Dp,∃oi,Rv P ops.toArray G.N q oi∧oi.apart ops.toArray oj=true:=fun {Dp base listed} hp {j oj} hj hnj hall q hq=>by
    obtain ⟨oi,hpr⟩:=hD q (hp.sub q hq)
    refine ⟨oi,hpr,Region.free_spec hpr.at_ (hfree q (hp.sub q hq)) j oj hj (fun e=>hnj (by rw [e];exact List.mem_map_of_mem hq)) ?_ fun e he hb heq=>?_⟩
    ·have hlt:j<ops.toArray.size:=(Array.getElem?_eq_some_iff.1 hj).1
     exact getD_in (by simpa using hlt) (getD_replicate_false _ _)
    ·have h1:=hall e he hb
     rw [heq,getD_both (hp.un q hq)] at h1
     cases h1
  intro f
  induction f with
  |zero =>
   intro m t Dp base listed kn st0 st a w β hf hp hB hi h hh S0 S R
   obtain rfl:m=0:=by omega
   obtain rfl:Dp=[]:=List.length_eq_zero_iff.1 (by omega)
   cases t with
   |done =>
    refine ⟨oT hB,?_⟩
    have h1:=h [] (by simp [Wb])
    have hc:=NR HB h1
    unfold Sh at h1
    simp only [Ec,List.filterMap_nil,hc,cond_true] at h1
    exact hT kn st a w β h1 S
   |_=>simp [Gf] at hB
  |succ f ih =>
   intro m t Dp base listed kn st0 st a w β hf hp hB hi_ h hh S0 S R
   have hcD:Gm D st0.t st.t=true:=by
     obtain ⟨p,hp'⟩:=List.exists_mem_of_ne_nil _ (Yf t)
     exact NR HB (h p hp')
   have hcD:=F7 hcD
   have come:∀q∈Dp,q.1∈Region.ready .any ops.toArray listed∧wpOp P ops.toArray (Nc Q) q.1 (fun a' w'=>Gc w0 w' E0 h0 β0∧Of P .any ops.toArray (Nc Q) (fun w'=>Gc w0 w' E0 h0 β0) ops.length (fun listed' a' w'=>Region.ready .any ops.toArray listed'=[]∧T a' w') f (listed.setIfInBounds q.1 true) a' w') a w:=fun q hq=>by
     obtain ⟨oi,hpr⟩:=hD q (hp.sub q hq)
     have hrd:q.1∈Region.ready .any ops.toArray listed:=mem_ready.2 ⟨hp.un q hq,oi,hpr.at_,fun e he hb=>(hpr.wait e he hb).elim⟩
     refine ⟨hrd,?_⟩
     obtain ⟨e,hrun⟩:=hpr.run
     have hw:Region.wanted oi (yielded ops.toArray a.tmps)=true:=by simp [Region.wanted,hpr.guard]
     unfold wpOp
     simp only [hpr.at_,hw,if_true]
     refine .inl ?_
     unfold Oper.wp
     rw [hrun]
     simp only [Oper.upon]
     rw [hpr.dst]
     have hlt:q.2<C.N:=by rw [hN];exact hpr.lt
     obtain ⟨h1,h2⟩:=hcD q (hp.sub q hq)
     have S1:=J7 hp.ns hq hlt (some ⟨w.heap.size,0,none⟩) (fun v hv=>by rw [h2] at hv;injection hv with hv;exact hv.symm) S
     have S2:=J7 hp.ns hq hlt (some ⟨w.heap.size,0,none⟩) (fun v hv=>by rw [h1] at hv;cases hv) S0
     obtain ⟨S3,hst⟩:=Jb.alloc0 S1 (.cells #[] e)
     have hb:Below w.heap.size w (w.alloc (.cells #[] e)):=(Below.refl _ _).alloc (Nat.le_refl _) _
     have R':=R.step S0.heap.len (l:=[]) (fun k hk=>by simp at hk) hst (fun _ b hb' _=>hb.block b hb')
     have hlenq:(Dp.erase q).length=Dp.length-1:=List.length_erase_of_mem hq
     have hpos:0<Dp.length:=List.length_pos_of_mem hq
     have hkn:q.1<ops.toArray.size:=(Array.getElem?_eq_some_iff.1 hpr.at_).1
     have hkn':q.1<ops.length:=by simpa using hkn
     have hls:listed.size=ops.toArray.size:=hp.inv.size
     refine ⟨by rw [←hh];exact R'.stab,ih m t (Dp.erase q) base (listed.setIfInBounds q.1 true) kn st0 st _ _ β (by omega) ⟨fun p hp'=>hp.sub p (List.mem_of_mem_erase hp'),(hp.nk.sublist (List.Sublist.map _ (List.erase_sublist ..))),(hp.ns.sublist (List.Sublist.map _ (List.erase_sublist ..))),fun p hp'=>?_,hp.inv.set hrd hkn',fun i hi=>getD_set_true (hp.below i hi),fun i hn=>?_,fun p hpD hpn=>?_,hp.offD⟩ (by rw [lS hq];exact hB) hi_ h hh S2 S3 R'⟩
     ·rw [getD_set_ne true (fun e=>?_)]
      ·exact hp.un p (List.mem_of_mem_erase hp')
      ·exact (I7 (g:=(·.1)) hp.nk hq).1 (by rw [show q.1=p.1 from e];exact List.mem_map_of_mem hp')
     ·have e:q.1≠i:=by
        rintro rfl
        exact absurd (List.mem_map_of_mem (hp.sub q hq)) hn
      rw [getD_set_ne true e]
      exact hp.off i hn
     ·by_cases e:p=q
      ·subst e
       simp [Array.getD_eq_getD_getElem?,Array.getElem?_setIfInBounds,hls,hkn']
      ·exact getD_set_true (hp.done p hpD fun h=>hpn ((List.mem_erase_of_ne e).2 h))
   have hS:Gc w0 w E0 h0 β0:=by rw [←hh];exact R.stab
   have notD:∀k,k∈Region.ready .any ops.toArray listed→k∉Dp.map (·.1)→∀q∈D,k≠q.1:=fun k hk hn q hq e=>by
     by_cases hqp:q∈Dp
     ·exact hn (by rw [e];exact List.mem_map_of_mem hqp)
     ·have h1:=hp.done q hq hqp
      rw [←e,getD_both (mem_ready.1 hk).1] at h1
      cases h1
   have pend:∀k,k∈Region.ready .any ops.toArray listed→(∀q∈D,k≠q.1)→k∉Dp.map (·.1)→OR ops D Dp (base.setIfInBounds k true) (listed.setIfInBounds k true):=fun k hk hkD hn=>by
     obtain ⟨hun,o,ho,hall⟩:=mem_ready.1 hk
     have hkl:k<ops.length:=by have:=(Array.getElem?_eq_some_iff.1 ho).1;simpa using this
     refine ⟨hp.sub,hp.nk,hp.ns,fun q hq=>?_,hp.inv.set hk hkl,fun i hi=>?_,fun i hi=>?_,fun q hq hqn=>getD_set_true (hp.done q hq hqn),fun q hq=>?_⟩
     ·rw [getD_set_ne true (hkD q (hp.sub q hq))];exact hp.un q hq
     ·by_cases e:k=i
      ·subst e
       have hls:listed.size=ops.toArray.size:=hp.inv.size
       simp [Array.getD_eq_getD_getElem?,Array.getElem?_setIfInBounds,hls,hkl]
      ·rw [getD_set_ne false e] at hi ⊢
       exact hp.below i hi
     ·by_cases e:k=i
      ·subst e
       have h1:∀l:Array Bool,(l.setIfInBounds k true).getD k true=true:=fun l=>by
         rcases Nat.lt_or_ge k l.size with h|h
         ·simp [Array.getD_eq_getD_getElem?,Array.getElem?_setIfInBounds,h]
         ·simp [Array.getD_eq_getD_getElem?,Array.getElem?_setIfInBounds,Nat.not_lt.2 h]
       rw [h1,h1]
      ·rw [getD_set_ne true e,getD_set_ne true e];exact hp.off i hi
     ·rw [getD_set_ne true (hkD q hq)];exact hp.offD q hq
   have alts:∀(m':Nat),m=m'+1→∀(t':Tr),Gf .any ops.toArray false (m'+1) t' base (vl Dp listed)=true→Ae ops t'=true→(∀p∈Wb t',Sh G ops ks D kn (Ec ops p) st0 st K=some r)→∀i∈Je t',i∈Region.ready .any ops.toArray listed→i∉Dp.map (·.1) →
       wpOp P ops.toArray (Nc Q) i (fun a' w'=>Gc w0 w' E0 h0 β0∧Of P .any ops.toArray (Nc Q) (fun w'=>Gc w0 w' E0 h0 β0) ops.length (fun listed' a' w'=>Region.ready .any ops.toArray listed'=[]∧T a' w') f (listed.setIfInBounds i true) a' w') a w:=fun m' hm t'=>by
     have single:∀k t1,Gf .any ops.toArray true m' t1 (base.setIfInBounds k true) ((vl Dp listed).setIfInBounds k true)=true→k<ops.length→Ae ops t1=true→(∀p∈Wb t1,Sh G ops ks D kn (Ec ops ((k,false)::p)) st0 st K=some r)→k∈Region.ready .any ops.toArray listed→k∉Dp.map (·.1) →
         wpOp P ops.toArray (Nc Q) k (fun a' w'=>Gc w0 w' E0 h0 β0∧Of P .any ops.toArray (Nc Q) (fun w'=>Gc w0 w' E0 h0 β0) ops.length (fun listed' a' w'=>Region.ready .any ops.toArray listed'=[]∧T a' w') f (listed.setIfInBounds k true) a' w') a w:=fun k t1 hB1 hkl hi1 hps hrd hnk=>by
       have hk:=List.getElem?_eq_getElem hkl
       generalize ops[k]=o at hk
       have hk':ops.toArray[k]? =some o:=by simpa using hk
       obtain ⟨_,x,h1,h2⟩:=K7 HB (g:=fun p=>Ec ops p) (L:=Wb t1) (Yf t1) fun p hp'=>by
         have:=hps p hp'
         rwa [Dl hk] at this
       obtain ⟨_,o',ho',hall⟩:=mem_ready.1 hrd
       have hoo:o'=o:=by rw [hk'] at ho';injection ho' with ho';exact ho'.symm
       subst hoo
       have hstep:=Ip (r:=x) (Q:=Q) (T:=fun a' w'=>∃β',Jb C E0 x.2.1 a' w0 β0∧Oa C x.2.2 a' w' β'∧Id ks E0 x.2.1 w0 β0 x.2.2 w' β'∧x.2.1.h=h0) HB HT H hN (fun kn' s u a' w' β' hx hh' S0' S' R'=>by
         injection hx with hx
         subst hx
         exact ⟨β',S0',S',R',hh'⟩) h1 hh S0 S R
       have h3:wpOp P ops.toArray (Nc Q) k (fun a' w'=>Gc w0 w' E0 h0 β0∧∃β',Jb C E0 x.2.1 a' w0 β0∧Oa C x.2.2 a' w' β'∧Id ks E0 x.2.1 w0 β0 x.2.2 w' β'∧x.2.1.h=h0) (Od Dp a) w:=Tl (S:=fun w'=>Gc w0 w' E0 h0 β0) hk' hS hstep fun a' w' hS' h'=>⟨hS',h'⟩
       refine wpOp_mono ?_ (Z6 hk' (Region.noSelect_spec hsel k o' · · hk') Dp (apart hp hk' hnk hall) h3)
       rintro a' w' ⟨hS',β',S0',S',R',hh'⟩
       exact ⟨hS',ih m' t1 Dp (base.setIfInBounds k true) (listed.setIfInBounds k true) x.1 x.2.1 x.2.2 a' w' β' (by omega) (pend k hrd (notD k hrd hnk) hnk) (by rw [JR];exact hB1) hi1 h2 hh' S0' S' R'⟩
     induction t' with
     |one k t1 _ =>
      intro hB' hi' hps i hih hrd hnk
      simp only [Gf,Bool.not_false,Bool.true_or,Bool.true_and] at hB'
      simp only [Ae,Bool.and_eq_true,decide_eq_true_eq] at hi'
      obtain rfl:i=k:=by simpa [Je] using hih
      exact single i t1 hB' hi'.1 hi'.2 (fun p hp'=>hps _ (by simp only [Wb];exact List.mem_map_of_mem hp')) hrd hnk
     |alt k t1 t2 _ ih2 =>
      intro hB' hi' hps i hih hrd hnk
      simp only [Gf,Bool.not_false,Bool.true_or,Bool.true_and,Bool.and_eq_true] at hB'
      simp only [Ae,Bool.and_eq_true,decide_eq_true_eq] at hi'
      rcases List.mem_cons.1 (show i∈k::Je t2 from hih) with rfl|hih
      ·exact single i t1 hB'.1 hi'.1.1 hi'.1.2 (fun p hp'=>hps _ (by simp only [Wb];exact List.mem_append_left _ (List.mem_map_of_mem hp'))) hrd hnk
      ·exact ih2 hB'.2 hi'.2 (fun p hp'=>hps p (by simp only [Wb];exact List.mem_append_right _ hp')) i hih hrd hnk
     |_=>intro _ _ _ i hih;simp [Je] at hih
   have Ge:∀i,i∈Region.ready .any ops.toArray listed→i<ops.length:=fun i hi=>by
     obtain ⟨_,o,ho,_⟩:=mem_ready.1 hi
     have:=(Array.getElem?_eq_some_iff.1 ho).1
     simpa using this
   have key:(Region.ready .any ops.toArray listed≠[])→(∀i∈Region.ready .any ops.toArray (vl Dp listed),i∈Region.ready .any ops.toArray listed→i∉Dp.map (·.1)→wpOp P ops.toArray (Nc Q) i (fun a' w'=>Gc w0 w' E0 h0 β0∧Of P .any ops.toArray (Nc Q) (fun w'=>Gc w0 w' E0 h0 β0) ops.length (fun listed' a' w'=>Region.ready .any ops.toArray listed'=[]∧T a' w') f (listed.setIfInBounds i true) a' w') a w) →
       Of P .any ops.toArray (Nc Q) (fun w'=>Gc w0 w' E0 h0 β0) ops.length (fun listed' a' w'=>Region.ready .any ops.toArray listed'=[]∧T a' w') (f+1) listed a w:=fun hne hall=>⟨hne,fun i hi=>⟨Ge i hi,by
     by_cases hik:i∈Dp.map (·.1)
     ·obtain ⟨q,hq,rfl⟩:=List.mem_map.1 hik
      exact (come q hq).2
     ·exact hall i (G7 hi hik) hi hik⟩⟩
   have hne0:Dp≠[]→Region.ready .any ops.toArray listed≠[]:=fun hd=>by
     obtain ⟨q,hq⟩:=List.exists_mem_of_ne_nil _ hd
     exact List.ne_nil_of_mem (come q hq).1
   cases m with
   |zero =>
    cases t with
    |done =>
     have hB:Region.ready .any ops.toArray (vl Dp listed)=[]:=oT hB
     refine key (hne0 fun e=>by rw [e] at hf;simp at hf) fun i hi=>?_
     rw [hB] at hi
     cases hi
    |_=>simp [Gf] at hB
   |succ m' =>
    cases t with
    |done=>simp [Gf] at hB
    |two=>simp [Gf] at hB
    |one k t1 =>
     have hB0:Gf .any ops.toArray false (m'+1) (.one k t1) base (vl Dp listed)=true:=by
       simp only [Gf,Bool.and_eq_true,Bool.not_false,Bool.true_or,true_and] at hB ⊢
       exact hB.2
     simp only [Gf,Bool.and_eq_true,Bool.not_true,Bool.false_or,decide_eq_true_eq] at hB
     refine key ?_ fun i hi hrd hnk=>alts m' rfl (.one k t1) hB0 hi_ h i (by rw [hB.1] at hi;exact hi) hrd hnk
     by_cases hd:Dp=[]
     ·subst hd
      rw [show vl [] listed=listed from rfl] at hB
      rw [hB.1];simp
     ·exact hne0 hd
    |alt k t1 t2 =>
     have hB0:Gf .any ops.toArray false (m'+1) (.alt k t1 t2) base (vl Dp listed)=true:=by
       simp only [Gf,Bool.and_eq_true,Bool.not_false,Bool.true_or,true_and] at hB ⊢
       exact ⟨hB.1.2,hB.2⟩
     simp only [Gf,Bool.and_eq_true,Bool.not_true,Bool.false_or,decide_eq_true_eq] at hB
     refine key ?_ fun i hi hrd hnk=>alts m' rfl (.alt k t1 t2) hB0 hi_ h i (by rw [hB.1.1] at hi;exact hi) hrd hnk
     by_cases hd:Dp=[]
     ·subst hd
      rw [show vl [] listed=listed from rfl] at hB
      rw [hB.1.1];simp
     ·exact hne0 hd
    |val k t1 =>
     simp only [Gf,Bool.and_eq_true] at hB
     obtain ⟨hB1,hB2⟩:=hB
     simp only [Ae,Bool.and_eq_true,decide_eq_true_eq] at hi_
     obtain ⟨⟨hkl,hv⟩,hi1⟩:=hi_
     have hk:=List.getElem?_eq_getElem hkl
     generalize ops[k]=o at hk
     have hk':ops.toArray[k]? =some o:=by simpa using hk
     rw [hk'] at hB1
     simp only [Bool.and_eq_true] at hB1
     obtain ⟨⟨hval,hrb⟩,hfb⟩:=hB1
     have hrb:k∈Region.ready .any ops.toArray base:=by simpa using hrb
     have hkD:∀q∈D,k≠q.1:=fun q hq e=>by
       obtain ⟨oi,hpr⟩:=hD q hq
       have h1:=hpr.at_
       rw [←e,hk'] at h1
       injection h1 with h1
       subst h1
       rw [hpr.noval] at hval
       cases hval
     have hkD':k∉D.map (·.1):=fun hk=>by
       obtain ⟨q,hq,e⟩:=List.mem_map.1 hk
       exact hkD q hq e.symm
     have hnk:k∉Dp.map (·.1):=fun hk=>by
       obtain ⟨q,hq,e⟩:=List.mem_map.1 hk
       exact hkD q (hp.sub q hq) e.symm
     obtain ⟨hbun,ob,hob,hball⟩:=mem_ready.1 hrb
     have hoo:ob=o:=by rw [hk'] at hob;injection hob with hob;exact hob.symm
     subst hoo
     have hrd:k∈Region.ready .any ops.toArray listed:=mem_ready.2 ⟨by rw [hp.off k hkD'];exact hbun,ob,hk',fun e he hb=>hp.below _ (hball e he hb)⟩
     obtain ⟨_,x,h1,h2⟩:=K7 HB (g:=fun p=>Ec ops p) (L:=Wb t1) (Yf t1) fun p hp'=>by
       have:=h ((k,true)::p) (by simp only [Wb];exact List.mem_map_of_mem hp')
       rwa [Dl hk] at this
     have hstep:=Ip (r:=x) (Q:=Q) (T:=fun a' w'=>∃β',Jb C E0 x.2.1 a' w0 β0∧Oa C x.2.2 a' w' β'∧Id ks E0 x.2.1 w0 β0 x.2.2 w' β'∧x.2.1.h=h0) HB HT H hN (fun kn' s u a' w' β' hx hh' S0' S' R'=>by
       injection hx with hx
       subst hx
       exact ⟨β',S0',S',R',hh'⟩) h1 hh S0 S R
     have hap:=apart hp hk' hnk fun e he hb=>hp.below _ (hball e he hb)
     obtain ⟨v,hy,hK⟩:∃v,YieldsIf P ops.toArray (fun w'=>Gc w0 w' E0 h0 β0) ob v (Od Dp a)∧∃β',Jb C E0 x.2.1 ((Od Dp a).put ob.dst v) w0 β0∧Oa C x.2.2 ((Od Dp a).put ob.dst v) w β'∧Id ks E0 x.2.1 w0 β0 x.2.2 w β'∧x.2.1.h=h0:=by
       unfold Qd at hstep
       split at hstep
       ·rename_i hw
        simp only [hval,Bool.and_self] at hstep
        exact PG hval hw hstep
       ·rename_i hw
        exact ⟨undef,.inr ⟨by simpa using hw,rfl⟩,hstep⟩
     obtain ⟨β',S0',S',R',hh'⟩:=hK
     have hpp:(Od Dp a).put ob.dst v=Od Dp (a.put ob.dst v):=lR fun q hq=>by
       obtain ⟨oi,hpr,hap1⟩:=hap q hq
       exact (Oper.apart_spec hap1).2.1 q.2 hpr.dst
     rw [hpp] at S0' S'
     obtain ⟨e1,e2⟩:=A7 (Q:=fun _ _=>True) (j:=k) (Region.noSelect_spec hsel k ob · · hk') Dp (a:=a) hap
     have hy':YieldsIf P ops.toArray (fun w'=>Gc w0 w' E0 h0 β0) ob v a:=hy.of_same e1.symm e2.symm
     rw [show m'+1+Dp.length=(m'+Dp.length)+1 by omega] at hf
     injection hf with hf
     refine JO hk' (Region.noSelect_spec hsel) (fun _ _ _ h=>h) (.inl (by simp)) hkl (fun l a w hl j hj=>by rw [hl.1] at hj;cases hj) f listed a w hp.inv (fun j oj hj hjk hun hno=>Region.free_spec hk' hfb j oj hj hjk ?_ hno) hrd hy' hS (ih m' t1 Dp _ _ x.1 x.2.1 x.2.2 _ w β' hf (pend k hrd hkD hnk) (by rw [JR];exact hB2) hi1 h2 hh' S0' S' R')
     by_cases hjD:j∈D.map (·.1)
     ·obtain ⟨q,hq,rfl⟩:=List.mem_map.1 hjD
      exact hp.offD q hq
     ·rw [←hp.off j hjD];exact hun
theorem lU (D:List (Nat×Nat)) (st:St):(Ao D st).h=st.h:=by
  induction D with
  |nil=>rfl
  |cons q r ih=>rw [Ao,Cf,ih]
theorem lV (HB:Hd G) (HT:Qb P G.tab) (H:Ma P G.Γ) (hm:P.follows .mixedOrders=true) {id:Nat} {ops:Array Oper} {D:List (Nat×Nat)} {ks:List Nat} {t:Tr} {F:Td} {eid:Nat} {FX FR:Td} {sh:HL F.hs→Option (HL FX.hs⊕HL FR.hs)} (hB:B7 G.tab ops G.N D t=true) (hi:Ae ops.toList t=true)
    (hs:Pv (Wb t) fun p=>∀s,D7 G ops.toList D ks F FX FR p s=sh s):Tf P G.M G.N id ops ⟨F,eid,FX,FR,sh⟩:=fun s x hx Q hQ C a w β hN hM S=>by
  have hx:sh s=some (.inl x):=hx
  have hs:=Fy hs
  have h:∀p∈Wb t,Rf (F.st s).h ks=true∧Sh G ops.toList ks D [] (Ec ops.toList p) ⟨(F.st s).t,Ic ks (F.st s).h⟩ (Ao D (F.st s)) (fun _ st2=>(match FX.get G.M st2 with|some x=>some (Sum.inl x:HL FX.hs⊕HL FR.hs)|none=>G.bad _ 52 none st2))=some (.inl x):=fun p hp=>by
    have h1:=hs p hp s
    rw [hx] at h1
    unfold D7 at h1
    cases hb:Rf (F.st s).h ks with
    |false=>rw [hb] at h1;simp only [cond_false] at h1;rw [HB] at h1;cases h1
    |true=>rw [hb] at h1;exact ⟨rfl,h1⟩
  obtain ⟨p0,hp0⟩:=List.exists_mem_of_ne_nil _ (Yf t)
  have hb:=(h p0 hp0).1
  have hcD:=F7 (NR HB (h p0 hp0).2)
  have S:Oa C (F.st s) a w β:=S
  have Sd:=S.drew
  have e:ops=ops.toList.toArray:=by simp
  show (Code.region id ops true).wp P (Ff C Q) a w
  rw [e] at hB ⊢
  generalize ops.toList=l at *
  simp only [B7,Bool.and_eq_true] at hB
  obtain ⟨⟨⟨⟨⟨⟨hsel,hpre⟩,hfree⟩,hnk⟩,hns⟩,hle⟩,htr⟩:=hB
  have hle:=Nat.le_of_ble_eq_true hle
  have hpre:∀q∈D,∃oi,Rv P l.toArray G.N q oi:=fun q hq=>lP HT (List.all_eq_true.1 hpre q hq)
  have hfree:∀q∈D,Region.free .any l.toArray (Array.replicate l.toArray.size false) q.1=true:=fun q hq=>List.all_eq_true.1 hfree q hq
  let Q1:AQ:=fun e st2=>e=.normal∧FX.get G.M st2=some x
  refine wp_mono (Q:=Ff C Q1) ?_ ?_
  rotate_left
  ·rintro e a2 w2 ⟨st2,β2,⟨rfl,hq⟩,S2⟩
   obtain ⟨β3,S3⟩:=FX.imp hq C a2 w2 β2 hM S2
   exact ⟨_,β3,hQ,S3⟩
  have hput:∀(E:List (Nat×Nat)),(∀q∈E,q∈D)→Oa C (Ao E (F.st s)) (Od E a) w.drew β∧Jb C (Da (F.st s).h β) ⟨(F.st s).t,Ic ks (F.st s).h⟩ (Od E a) w.drew β:=by
    intro E
    induction E with
    |nil=>exact fun _=>⟨Sd,Sd.kill ks⟩
    |cons q r ih =>
     intro hE
     obtain ⟨h1,h2⟩:=ih fun q' hq'=>hE q' (List.mem_cons_of_mem _ hq')
     have hq:=hE q (List.mem_cons_self ..)
     obtain ⟨oi,hpr⟩:=hpre q hq
     refine ⟨h1.putL (fun i hi=>by injection hi with hi;rw [←hi,hN];exact hpr.lt) (v:=.im .nil) (Ri.nil none),h2.other Jy fun i hi=>?_⟩
     injection hi with hi
     rw [←hi]
     exact (hcD q hq).1
  obtain ⟨S1,S0⟩:=hput D fun q hq=>hq
  have R:Id ks (Da (F.st s).h β) ⟨(F.st s).t,Ic ks (F.st s).h⟩ w.drew β (Ao D (F.st s)) w.drew β:=(O6 S hb).same rfl (lU D _)
  have hgf:∀j,j<l.length→(Array.replicate l.toArray.size false).getD j true=false:=fun j hj=>getD_in (by simpa using hj) (getD_replicate_false _ _)
  have hpl:∀q∈D,q.1<l.length:=fun q hq=>by
    obtain ⟨oi,hpr⟩:=hpre q hq
    have:=(Array.getElem?_eq_some_iff.1 hpr.at_).1
    simpa using this
  have hlen0:l.length=(l.length-D.length)+D.length:=by
    have:D.length≤l.length:=by simpa using hle
    omega
  have htail0:∀t,l.length≤t→t<l.toArray.size→(Array.replicate l.toArray.size false).getD t true=false:=fun t h1 h2=>by
    have:t<l.length:=by simpa using h2
    omega
  have hW:=lT (Q:=Ff C Q1) (T:=fun a w=>Ff C Q1 .normal a w) (K:=fun _ st2=>(match FX.get G.M st2 with|some x=>some (Sum.inl x:HL FX.hs⊕HL FR.hs)|none=>G.bad _ 52 none st2)) (r:=Sum.inl x) HB HT H hN hsel hpre hfree (fun kn st a w β hK S=>by
      split at hK
      ·rename_i y hy
       injection hK with hK
       injection hK with hK
       subst hK
       exact ⟨st,β,⟨rfl,hy⟩,S⟩
      ·rw [HB] at hK;cases hK) l.length (l.length-D.length) t D (Array.replicate l.toArray.size false) (Array.replicate l.toArray.size false) [] ⟨(F.st s).t,Ic ks (F.st s).h⟩ (Ao D (F.st s)) a w.drew β hlen0
    ⟨fun q hq=>hq,LR hnk,LR hns,fun q hq=>hgf _ (hpl q hq),⟨by simp,fun j oj _ hl=>(by rw [getD_replicate_false] at hl;cases hl),htail0⟩,fun i hi=>hi,fun i _=>rfl,fun q hq hn=>absurd hq hn,fun q hq=>hgf _ (hpl q hq)⟩
    (by simpa using htr) hi (fun p hp=>(h p hp).2) rfl S0 S1 R
  refine wp_region_any hm ?_
  have:=Gx (Q':=Ff C Q1) (g:=0) Nc.le (fun listed a' w' hL=>⟨hL.1,hL.2⟩) _ _ _ _ hW
  simpa using this
end
end
section
open Go.RowKit
def Fk {ρ:Type} (G:Ka) (o:Oper) (f:Bool) (st:St) (K:St→Option ρ):Option ρ:=bif f then
  (bif Nd G.N o.dst&&(Jf o.op&&(Lv o.op&&!Ln st o.op)) then (match Vj G.tab st o.op with|some (c,v)=>bif c then K (st.put o.dst v) else none|none=>G.bad ρ 38 (some o) st) else G.bad ρ 39 (some o) st)
  else Bk G o st K
def Ej {ρ:Type} (G:Ka) (ops:List Oper) (kn:List (Nat×Bool)) (o:Oper) (f:Bool) (st:St) (K:List (Nat×Bool)→St→Option ρ):Option ρ:=match o.guard with
    |none=>Fk G o f st fun st'=>K kn st'
    |some (j,want)=>match Vn ops kn st.t j want with
     | .go=>Fk G o f st fun st'=>K kn st'
     | .skip=>bif Nd G.N o.dst then K kn (st.put o.dst (.im (.s undef))) else G.bad ρ 2 (some o) st
     | .fork d b=>bif b
         then (bif want then Fk G o f (setB d true st) fun st'=>K ((j,true)::kn) st' else bif Nd G.N o.dst then K ((j,true)::kn) ((setB d true st).put o.dst (.im (.s undef))) else G.bad ρ 2 (some o) st)
         else (bif want then bif Nd G.N o.dst then K ((j,false)::kn) ((setB d false st).put o.dst (.im (.s undef))) else G.bad ρ 2 (some o) st else Fk G o f (setB d false st) fun st'=>K ((j,false)::kn) st')
     | .bad=>G.bad ρ 3 (some o) st
def Zf {ρ:Type} (G:Ka) (ops:List Oper):List (Nat×Bool)→List (Oper×Bool)→St→(List (Nat×Bool)→St→Option ρ)→Option ρ
  |kn,[],st,K=>K kn st
  |kn,(o,f)::r,st,K=>Ej G ops kn o f st fun kn' s=>Zf G ops kn' r s K
def lW (G:Ka) (ops:List Oper) (F FX FR:Td) (p:List (Nat×Bool)) (s:HL F.hs):Option (HL FX.hs⊕HL FR.hs):=Zf G ops [] (Ec ops p) (F.st s) fun _ st2=>(match FX.get G.M st2 with|some x=>some (.inl x)|none=>G.bad _ 52 none st2)
def Mf (md:Region.Mode) (ops:Array Oper):Bool→Nat→Tr→Array Bool→Bool
  |_,0,.done,l=>decide (Region.ready md ops l=[])
  |_,m+1,.val k r,l=>(Region.ready md ops l).contains k&&Region.free md ops l k&&Mf md ops true m r (l.setIfInBounds k true)
  |b,m+1,.one k r,l=>(!b||decide (Region.ready md ops l=[k]))&&Mf md ops true m r (l.setIfInBounds k true)
  |b,m+1,.alt k r t,l=>(!b||decide (Region.ready md ops l=k::Je t))&&Mf md ops true m r (l.setIfInBounds k true)&&Mf md ops false (m+1) t l
  |_,_,_,_=>false
def L7 (ops:Array Oper) (t:Tr):Bool:=Region.noSelect ops&&Mf .any ops true ops.size t (Array.replicate ops.size false)
section
variable {P:Program} {G:Ka} {C:Pc} {st:St} {a:Act} {w:World} {β:List (Nat×Nat)}
theorem lX {ρ σ:Type} (HB:Hd G) {o:Oper} {K:St→Option ρ} {F:St→Option σ} {B:σ→Option ρ} (hK:∀s,K s=(F s).bind B):Bk G o st K=(Bk G o st F).bind B:=by
  unfold Bk
  have hb:∀(ρ:Type) n o st,G.bad ρ n o st=none:=HB
  simp only [hb]
  have hc:∀(c:Bool) (x:Option ρ) (y:Option σ),x=y.bind B→(bif c then x else none)=(bif c then y else none).bind B:=fun c x y h=>by cases c<;>simp [h]
  refine hc _ _ _ ?_
  split
  ·exact hc _ _ _ (hK _)
  ·split
   ·exact hc _ _ _ (hK _)
   ·split
    ·exact M6 HB fun l st'=>hK _
    ·split
     ·split
      ·exact hc _ _ _ (hK _)
      ·rfl
     ·rfl
theorem MI {ρ σ:Type} (HB:Hd G) {o:Oper} {f:Bool} {K:St→Option ρ} {F:St→Option σ} {B:σ→Option ρ} (hK:∀s,K s=(F s).bind B):Fk G o f st K=(Fk G o f st F).bind B:=by
  unfold Fk
  have hb:∀(ρ:Type) n o st,G.bad ρ n o st=none:=HB
  simp only [hb]
  have hc:∀(c:Bool) (x:Option ρ) (y:Option σ),x=y.bind B→(bif c then x else none)=(bif c then y else none).bind B:=fun c x y h=>by cases c<;>simp [h]
  cases f<;>simp only [cond_true,cond_false]
  ·exact lX HB hK
  ·refine hc _ _ _ ?_
   split
   ·exact hc _ _ _ (hK _)
   ·rfl
theorem M7 {ρ σ:Type} (HB:Hd G) {ops:List Oper} {kn:List (Nat×Bool)} {o:Oper} {f:Bool} {K:List (Nat×Bool)→St→Option ρ} {F:List (Nat×Bool)→St→Option σ} {B:σ→Option ρ} (hK:∀k s,K k s=(F k s).bind B):Ej G ops kn o f st K=(Ej G ops kn o f st F).bind B:=by
  unfold Ej
  have hb:∀(ρ:Type) n o st,G.bad ρ n o st=none:=HB
  simp only [hb]
  have hc:∀(c:Bool) (x:Option ρ) (y:Option σ),x=y.bind B→(bif c then x else none)=(bif c then y else none).bind B:=fun c x y h=>by cases c<;>simp [h]
  have hd:∀(c:Bool) (x x':Option ρ) (y y':Option σ),x=y.bind B→x'=y'.bind B→(bif c then x else x')=(bif c then y else y').bind B:=fun c x x' y y' h h'=>by cases c<;>simp [h,h']
  split
  ·exact MI HB fun s=>hK _ _
  ·split
   ·exact MI HB fun s=>hK _ _
   ·exact hc _ _ _ (hK _ _)
   ·exact hd _ _ _ _ _ (hd _ _ _ _ _ (MI HB fun s=>hK _ _) (hc _ _ _ (hK _ _))) (hd _ _ _ _ _ (hc _ _ _ (hK _ _)) (MI HB fun s=>hK _ _))
   ·rfl
theorem N7 {ρ ι:Type} (HB:Hd G) {ops:List Oper} {kn:List (Nat×Bool)} {o:Oper} {f:Bool} {K:List (Nat×Bool)→St→Option ρ} {r:ρ} {L:List ι} {g:ι→List (Oper×Bool)} (hne:L≠[]) (h:∀p∈L,Zf G ops kn ((o,f)::g p) st K=some r):∃x:List (Nat×Bool)×St,Ej G ops kn o f st (fun a b=>some (a,b))=some x∧∀p∈L,Zf G ops x.1 (g p) x.2 K=some r:=by
  have e:∀p,Zf G ops kn ((o,f)::g p) st K=(Ej G ops kn o f st (fun a b=>some (a,b))).bind fun x=>Zf G ops x.1 (g p) x.2 K:=fun p=>M7 HB fun _ _=>rfl
  generalize Ej G ops kn o f st (fun a b=>some (a,b))=z at e
  cases z with
  |none =>
   obtain ⟨p,hp⟩:=List.exists_mem_of_ne_nil L hne
   have:=h p hp
   rw [e] at this
   cases this
  |some x=>exact ⟨x,rfl,fun p hp=>by have:=h p hp;rw [e] at this;exact this⟩
theorem O7 {ρ:Type} (HB:Hd G) (HT:Qb P G.tab) {ops:List Oper} {kn:List (Nat×Bool)} {o:Oper} {K:List (Nat×Bool)→St→Option ρ} {r:ρ} (hN:C.N=G.N) (h:Ej G ops kn o true st K=some r) (S:Oa C st a w β):∃v kn' st',Yields P ops.toArray o v a∧K kn' st'=some r∧Oa C st' (a.put o.dst v) w β:=by
  have exec:∀kn' s1,Oa C s1 a w β→Region.wanted o (yielded ops.toArray a.tmps)=true→Fk G o true s1 (fun st'=>K kn' st')=some r→∃v kn' st',Yields P ops.toArray o v a∧K kn' st'=some r∧Oa C st' (a.put o.dst v) w β:=fun kn' s1 S hw h=>by
    unfold Fk at h
    simp only [cond_true] at h
    cases hq:(Nd G.N o.dst&&(Jf o.op&&(Lv o.op&&!Ln s1 o.op))) with
    |false=>rw [hq] at h;simp only [cond_false] at h;rw [HB] at h;cases h
    |true =>
     rw [hq] at h
     simp only [cond_true] at h
     simp only [Bool.and_eq_true] at hq
     split at h
     ·rename_i c v hv
      cases c with
      |false=>cases h
      |true =>
       obtain ⟨u,h1,h2⟩:=LP HT hv rfl (fun t x e=>by rw [e] at hq;exact absurd hq.2.2.1 (by simp [Lv])) (by simpa using hq.2.2.2) C _ a w β S
       exact ⟨u,kn',_,.inl ⟨hw,fun w'=>h2 w' trivial⟩,h,S.putL (by rw [hN];exact Ak hq.1) h1⟩
     ·rw [HB] at h;cases h
  have skip:∀kn' sb s1,Oa C s1 a w β→Region.wanted o (yielded ops.toArray a.tmps)=false→(bif Nd G.N o.dst then K kn' (s1.put o.dst (.im (.s undef))) else G.bad ρ 2 (some o) sb)=some r→∃v kn' st',Yields P ops.toArray o v a∧K kn' st'=some r∧Oa C st' (a.put o.dst v) w β:=fun kn' sb s1 S hw h=>by
    cases hd:Nd G.N o.dst with
    |false=>rw [hd] at h;simp only [cond_false] at h;rw [HB] at h;cases h
    |true =>
     rw [hd] at h
     exact ⟨undef,kn',_,.inr ⟨hw,rfl⟩,h,S.putL (by rw [hN];exact Ak hd) (Ri.s undef)⟩
  unfold Ej at h
  split at h
  ·rename_i hg
   exact exec kn st S (by simp [Region.wanted,hg]) h
  ·rename_i j want hg
   have gc:=Ay S (ops:=ops) (kn:=kn) hg
   split at h
   ·rename_i e
    rw [e] at gc
    exact exec kn st S gc h
   ·rename_i e
    rw [e] at gc
    exact skip kn st st S gc h
   ·rename_i d b e
    rw [e] at gc
    obtain ⟨h1,h2⟩:=gc
    cases b<;>cases want<;>simp only [cond_true,cond_false] at h
    ·exact exec _ (setB d false st) (S.setB h1) h2 h
    ·exact skip _ _ (setB d false st) (S.setB h1) h2 h
    ·exact skip _ _ (setB d true st) (S.setB h1) h2 h
    ·exact exec _ (setB d true st) (S.setB h1) h2 h
   ·rw [HB] at h;cases h
theorem lY {ρ:Type} (HB:Hd G) (HT:Qb P G.tab) (H:Ma P G.Γ) {ops:List Oper} {k:Nat} {kn:List (Nat×Bool)} {o:Oper} {K:List (Nat×Bool)→St→Option ρ} {r:ρ} {Q:Exit→Act→World→Prop} (hN:C.N=G.N) (hk:ops.toArray[k]? =some o) (h:Ej G ops kn o false st K=some r) (S:Oa C st a w β):wpOp P ops.toArray Q k (fun a' w'=>∃kn' st' β',K kn' st'=some r∧Oa C st' a' w' β') a w:=by
  unfold wpOp
  simp only [hk]
  have exec:∀kn' s1,Oa C s1 a w β→Region.wanted o (yielded ops.toArray a.tmps)=true→Fk G o false s1 (fun st'=>K kn' st')=some r→(if Region.wanted o (yielded ops.toArray a.tmps)=true then Oper.wp P o a w (fun a' w'=>∃kn' st' β',K kn' st'=some r∧Oa C st' a' w' β') Q∨Oper.asks P o a w∧LetsOut Q else ∃kn' st' β',K kn' st'=some r∧Oa C st' (a.put o.dst undef) w β'):=fun kn' s1 S hw h=>by
    rw [if_pos hw]
    unfold Fk at h
    simp only [cond_false] at h
    obtain ⟨_,st',h1,h2⟩:=E6 HB HT H h
    exact .inl (h2 C a w β S hN _ _ fun u w' β' S'=>⟨kn',st',β',h1,S'⟩)
  have skip:∀kn' sb s1,Oa C s1 a w β→Region.wanted o (yielded ops.toArray a.tmps)=false→(bif Nd G.N o.dst then K kn' (s1.put o.dst (.im (.s undef))) else G.bad ρ 2 (some o) sb)=some r→(if Region.wanted o (yielded ops.toArray a.tmps)=true then Oper.wp P o a w (fun a' w'=>∃kn' st' β',K kn' st'=some r∧Oa C st' a' w' β') Q∨Oper.asks P o a w∧LetsOut Q else ∃kn' st' β',K kn' st'=some r∧Oa C st' (a.put o.dst undef) w β'):=fun kn' sb s1 S hw h=>by
    rw [if_neg (by rw [hw];simp)]
    cases hd:Nd G.N o.dst with
    |false=>rw [hd] at h;simp only [cond_false] at h;rw [HB] at h;cases h
    |true =>
     rw [hd] at h
     exact ⟨kn',_,β,h,S.putL (by rw [hN];exact Ak hd) (Ri.s undef)⟩
  unfold Ej at h
  split at h
  ·rename_i hg
   exact exec kn st S (by simp [Region.wanted,hg]) h
  ·rename_i j want hg
   have gc:=Ay S (ops:=ops) (kn:=kn) hg
   split at h
   ·rename_i e
    rw [e] at gc
    exact exec kn st S gc h
   ·rename_i e
    rw [e] at gc
    exact skip kn st st S gc h
   ·rename_i d b e
    rw [e] at gc
    obtain ⟨h1,h2⟩:=gc
    cases b<;>cases want<;>simp only [cond_true,cond_false] at h
    ·exact exec _ (setB d false st) (S.setB h1) h2 h
    ·exact skip _ _ (setB d false st) (S.setB h1) h2 h
    ·exact skip _ _ (setB d true st) (S.setB h1) h2 h
    ·exact exec _ (setB d true st) (S.setB h1) h2 h
   ·rw [HB] at h;cases h
theorem lZ {ρ:Type} (HB:Hd G) (HT:Qb P G.tab) (H:Ma P G.Γ) {ops:List Oper} {K:List (Nat×Bool)→St→Option ρ} {r:ρ} {Q:Exit→Act→World→Prop} (hN:C.N=G.N) (hsel:Region.noSelect ops.toArray=true)
    (hT:∀kn st a w β,K kn st=some r→Oa C st a w β→Q .normal a w):∀(m:Nat) (t:Tr) (listed:Array Bool) (kn:List (Nat×Bool)) (st:St) (a:Act) (w:World) (β:List (Nat×Nat)),Mf .any ops.toArray true m t listed=true→Ae ops t=true→(∀p∈Wb t,Zf G ops kn (Ec ops p) st K=some r)→Oa C st a w β →
      wpAny P .any ops.toArray (Nc Q) m listed a w:=by
  intro m
  induction m with
  |zero =>
   intro t listed kn st a w β hB hi h S
   cases t with
   |done =>
    have h1:=h [] (by simp [Wb])
    exact ⟨oT hB,hT kn st a w β h1 S⟩
   |_=>simp [Mf] at hB
  |succ m ih =>
   intro t listed kn st a w β hB hi_ h S
   have single:∀k t1,Mf .any ops.toArray true m t1 (listed.setIfInBounds k true)=true→k<ops.length→Ae ops t1=true→(∀p∈Wb t1,Zf G ops kn (Ec ops ((k,false)::p)) st K=some r)→wpOp P ops.toArray (Nc Q) k (wpAny P .any ops.toArray (Nc Q) m (listed.setIfInBounds k true)) a w:=fun k t1 hB1 hkl hi1 hps=>by
     have hk:=List.getElem?_eq_getElem hkl
     generalize ops[k]=o at hk
     have hk':ops.toArray[k]? =some o:=by simpa using hk
     obtain ⟨x,h1,h2⟩:=N7 HB (g:=fun p=>Ec ops p) (L:=Wb t1) (Yf t1) fun p hp'=>by
       have:=hps p hp'
       rwa [Dl hk] at this
     refine wpOp_mono ?_ (lY HB HT H hN hk' h1 S)
     rintro a' w' ⟨kn',st',β',hx,S'⟩
     injection hx with hx
     subst hx
     exact ih t1 _ kn' st' a' w' β' hB1 hi1 h2 S'
   have alts:∀(t':Tr),Mf .any ops.toArray false (m+1) t' listed=true→Ae ops t'=true→(∀p∈Wb t',Zf G ops kn (Ec ops p) st K=some r)→∀i∈Je t',wpOp P ops.toArray (Nc Q) i (wpAny P .any ops.toArray (Nc Q) m (listed.setIfInBounds i true)) a w:=fun t'=>by
     induction t' with
     |one k t1 _ =>
      intro hB' hi' hps i hih
      simp only [Mf,Bool.not_false,Bool.true_or,Bool.true_and] at hB'
      simp only [Ae,Bool.and_eq_true,decide_eq_true_eq] at hi'
      obtain rfl:i=k:=by simpa [Je] using hih
      exact single i t1 hB' hi'.1 hi'.2 (fun p hp'=>hps _ (by simp only [Wb];exact List.mem_map_of_mem hp'))
     |alt k t1 t2 _ ih2 =>
      intro hB' hi' hps i hih
      simp only [Mf,Bool.not_false,Bool.true_or,Bool.true_and,Bool.and_eq_true] at hB'
      simp only [Ae,Bool.and_eq_true,decide_eq_true_eq] at hi'
      rcases List.mem_cons.1 (show i∈k::Je t2 from hih) with rfl|hih
      ·exact single i t1 hB'.1 hi'.1.1 hi'.1.2 (fun p hp'=>hps _ (by simp only [Wb];exact List.mem_append_left _ (List.mem_map_of_mem hp')))
      ·exact ih2 hB'.2 hi'.2 (fun p hp'=>hps p (by simp only [Wb];exact List.mem_append_right _ hp')) i hih
     |_=>intro _ _ _ i hih;simp [Je] at hih
   cases t with
   |done=>simp [Mf] at hB
   |two=>simp [Mf] at hB
   |one k t1 =>
    have hB0:Mf .any ops.toArray false (m+1) (.one k t1) listed=true:=by
      simp only [Mf,Bool.and_eq_true,Bool.not_false,Bool.true_or,true_and] at hB ⊢
      exact hB.2
    simp only [Mf,Bool.and_eq_true,Bool.not_true,Bool.false_or,decide_eq_true_eq] at hB
    exact ⟨fun h0=>(by rw [hB.1] at h0;cases h0),fun i hi=>alts (.one k t1) hB0 hi_ h i (by rw [hB.1] at hi;exact hi)⟩
   |alt k t1 t2 =>
    have hB0:Mf .any ops.toArray false (m+1) (.alt k t1 t2) listed=true:=by
      simp only [Mf,Bool.and_eq_true,Bool.not_false,Bool.true_or,true_and] at hB ⊢
      exact ⟨hB.1.2,hB.2⟩
    simp only [Mf,Bool.and_eq_true,Bool.not_true,Bool.false_or,decide_eq_true_eq] at hB
    exact ⟨fun h0=>(by rw [hB.1.1] at h0;cases h0),fun i hi=>alts (.alt k t1 t2) hB0 hi_ h i (by rw [hB.1.1] at hi;exact hi)⟩
   |val k t1 =>
    simp only [Mf,Bool.and_eq_true] at hB
    obtain ⟨⟨hrd,hfr⟩,hB2⟩:=hB
    simp only [Ae,Bool.and_eq_true,decide_eq_true_eq] at hi_
    obtain ⟨⟨hkl,_⟩,hi1⟩:=hi_
    have hk:=List.getElem?_eq_getElem hkl
    generalize ops[k]=o at hk
    have hk':ops.toArray[k]? =some o:=by simpa using hk
    obtain ⟨x,h1,h2⟩:=N7 HB (g:=fun p=>Ec ops p) (L:=Wb t1) (Yf t1) fun p hp'=>by
      have:=h ((k,true)::p) (by simp only [Wb];exact List.mem_map_of_mem hp')
      rwa [Dl hk] at this
    obtain ⟨v,kn',st',hy,hx,S'⟩:=O7 HB HT hN h1 S
    injection hx with hx
    subst hx
    exact wpAny_first hk' (Region.noSelect_spec hsel) (fun _ _ _ h=>h) m listed a w (Region.free_spec hk' hfr) (by simpa using hrd) hy (ih t1 _ kn' st' _ w β hB2 hi1 h2 S')
theorem P7 {md:Region.Mode} {ops:Array Oper} {Q Q':Exit→Act→World→Prop} (hq:∀e a w,Q e a w→Q' e a w):∀(f:Nat) (l:Array Bool) (a:Act) (w:World),wpAny P md ops Q f l a w→wpAny P md ops Q' f l a w
  |0,l,a,w,h=>⟨h.1,hq _ _ _ h.2⟩
  |f+1,l,a,w,h=>⟨fun h0=>hq _ _ _ (h.1 h0),fun i hi=>wpOp_mono (fun a' w' h'=>P7 hq f _ a' w' h') (L2 hq (h.2 i hi))⟩
theorem Q7 (HB:Hd G) (HT:Qb P G.tab) (H:Ma P G.Γ) (hm:P.follows .mixedOrders=true) {id:Nat} {ops:Array Oper} {t:Tr} {F:Td} {eid:Nat} {FX FR:Td} {sh:HL F.hs→Option (HL FX.hs⊕HL FR.hs)} (hB:L7 ops t=true) (hi:Ae ops.toList t=true)
    (hs:Pv (Wb t) fun p=>∀s,lW G ops.toList F FX FR p s=sh s):Tf P G.M G.N id ops ⟨F,eid,FX,FR,sh⟩:=fun s x hx Q hQ C a w β hN hM S=>by
  have hx:sh s=some (.inl x):=hx
  have hs:=Fy hs
  have h:∀p∈Wb t,Zf G ops.toList [] (Ec ops.toList p) (F.st s) (fun _ st2=>(match FX.get G.M st2 with|some x=>some (Sum.inl x:HL FX.hs⊕HL FR.hs)|none=>G.bad _ 52 none st2))=some (.inl x):=fun p hp=>by
    have h1:=hs p hp s
    rw [hx] at h1
    exact h1
  have S:Oa C (F.st s) a w β:=S
  have e:ops=ops.toList.toArray:=by simp
  show (Code.region id ops true).wp P (Ff C Q) a w
  rw [e] at hB ⊢
  generalize ops.toList=l at *
  simp only [L7,Bool.and_eq_true] at hB
  obtain ⟨hsel,htr⟩:=hB
  let Q1:AQ:=fun e st2=>e=.normal∧FX.get G.M st2=some x
  refine wp_mono (Q:=Ff C Q1) ?_ ?_
  rotate_left
  ·rintro e a2 w2 ⟨st2,β2,⟨rfl,hq⟩,S2⟩
   obtain ⟨β3,S3⟩:=FX.imp hq C a2 w2 β2 hM S2
   exact ⟨_,β3,hQ,S3⟩
  refine wp_region_any hm ?_
  exact P7 Nc.le _ _ _ _ (lZ (Q:=Ff C Q1) HB HT H hN hsel (fun kn st a w β hK S=>by
      split at hK
      ·rename_i y hy
       injection hK with hK
       injection hK with hK
       subst hK
       exact ⟨st,β,⟨rfl,hy⟩,S⟩
      ·rw [HB] at hK;cases hK) _ t _ [] (F.st s) a w.drew β htr hi h S.drew)
end
end
section
open Go.RowKit
def Gk (k n:Nat):PV→PV
  | .own j=>bif Nat.beq j k then .own n else .own j
  |v=>v
def NI (k n:Nat):PV→PV
  | .fn f caps=>.fn f (caps.map (Gk k n))
  |v=>Gk k n v
def Ly (k n:Nat):PV→PV
  | .agg cs=>.agg (cs.map (Gk k n))
  |v=>NI k n v
def OI (k n:Nat):PV→PV
  | .tup cs=>.tup (cs.map (Ly k n))
  |v=>Ly k n v
def Hl (k n:Nat):Ca→Ca
  | .box t cs=>.box t (cs.map (Gk k n))
  |o=>o
def My (k n:Nat):List (Nat×PV)→List (Nat×PV)
  |[]=>[]
  |(i,v)::r=>(i,OI k n v)::My k n r
def Vd (k n:Nat):Nat→List Ca→List Ca
  |_,[]=>[]
  |i,o::r=>(bif Nat.beq i k then .dead else Hl k n o)::Vd k n (i+1) r
def PR (k:Nat) (st:St):St:=match st.h[k]? with
  |some (.row t τ xs)=>⟨My k st.h.length st.t,Vd k st.h.length 0 st.h++[.row t τ xs]⟩
  |_=>st
def PI:List Nat→St→St
  |[],st=>st
  |k::r,st=>PI r (PR k st)
theorem R7 (k n:Nat):∀(t:List (Nat×PV)) (i:Nat),Kd (My k n t) i=(Kd t i).map (OI k n)
  |[],i=>rfl
  |(j,v)::r,i=>by
   simp only [My,Kd]
   cases Nat.beq j i
   ·simp only [cond_false];exact R7 k n r i
   ·rfl
theorem Ny (k n:Nat):∀(h:List Ca) (i:Nat),(Vd k n i h).length=h.length
  |[],i=>rfl
  |o::r,i=>by simp only [Vd,List.length_cons,Ny k n r]
theorem S7 (k n:Nat):∀(h:List Ca) (i j:Nat),(Vd k n i h)[j]? =h[j]?.map fun o=>bif Nat.beq (i+j) k then .dead else Hl k n o
  |[],i,j=>by simp [Vd]
  |o::r,i,0=>by simp [Vd]
  |o::r,i,j+1=>by
   simp only [Vd,List.getElem?_cons_succ]
   rw [S7 k n r (i+1) j,show i+1+j=i+(j+1) by omega]
section
variable {P:Program} {G:Ka} {C:Pc} {st:St} {a:Act} {w:World} {β:List (Nat×Nat)}
theorem mA (S:Oa C st a w β) (k:Nat):∃β',Oa C (PR k st) a w β':=by
  unfold PR
  split
  case h_2=>exact ⟨β,S⟩
  rename_i t τ xs hk
  obtain ⟨b,c,hβk,hc0,hcm,hrow⟩:=S.heap.ok k _ hk
  have hkl:k<st.h.length:=(List.getElem?_eq_some_iff.1 hk).1
  have hl:=S.heap.len
  generalize hn:st.h.length=n at *
  have hat:∀j,j<n→(Vd k n 0 st.h++[Ca.row t τ xs])[j]? =st.h[j]?.map fun o=>bif Nat.beq j k then .dead else Hl k n o:=fun j hj=>by
    rw [List.getElem?_append_left (by rw [Ny,hn];exact hj),S7,Nat.zero_add]
  have hlast:(Vd k n 0 st.h++[Ca.row t τ xs])[n]? =some (.row t τ xs):=by
    rw [List.getElem?_append_right (by rw [Ny,hn];exact Nat.le_refl _),Ny,hn,Nat.sub_self];rfl
  have hlen:(Vd k n 0 st.h++[Ca.row t τ xs]).length=n+1:=by simp [Ny,hn]
  have only:∀j o,(Vd k n 0 st.h++[Ca.row t τ xs])[j]? =some o→(j=n∧o=.row t τ xs)∨(j<n∧j=k∧o=.dead)∨(j<n∧j≠k∧∃o0,st.h[j]? =some o0∧o=Hl k n o0):=fun j o hj=>by
    rcases Nat.lt_trichotomy j n with h|h|h
    ·rw [hat j h] at hj
     obtain ⟨o0,h1,h2⟩:=Option.map_eq_some_iff.1 hj
     by_cases e:j=k
     ·subst e
      simp at h2
      exact .inr (.inl ⟨h,rfl,h2.symm⟩)
     ·have hb:Nat.beq j k=false:=Uk e
      rw [hb] at h2
      exact .inr (.inr ⟨h,e,o0,h1,h2.symm⟩)
    ·subst h
     rw [hlast] at hj
     injection hj with hj
     exact .inl ⟨rfl,hj.symm⟩
    ·rw [List.getElem?_eq_none (by rw [hlen];omega)] at hj
     cases hj
  have hβ:∀j,j<n→(β++[(b,c)])[j]? =β[j]? :=fun j hj=>List.getElem?_append_left (by omega)
  have hβn:(β++[(b,c)])[n]? =some (b,c):=by rw [List.getElem?_append_right (by omega),hl,Nat.sub_self];rfl
  have lv:∀o c',Bc (Hl k n o) c'↔Bc o c':=fun o c'=>by cases o<;>exact Iff.rfl
  have hkeep:∀j o,j<n→j≠k→st.h[j]? =some o→(Vd k n 0 st.h++[Ca.row t τ xs])[j]? =some (Hl k n o):=fun j o hj e ho=>by
    rw [hat j hj,ho]
    have hb:Nat.beq j k=false:=Uk e
    simp only [Option.map_some,hb,cond_false]
  have hdead:(Vd k n 0 st.h++[Ca.row t τ xs])[k]? =some .dead:=by
    rw [hat k hkl,hk];simp
  have hE:Da (Vd k n 0 st.h++[Ca.row t τ xs]) (β++[(b,c)])=Da st.h β:=funext fun i=>propext ⟨fun ⟨j,o,c',h1,h2,h3⟩=>by
    rcases only j o h1 with ⟨rfl,rfl⟩|⟨_,_,rfl⟩|⟨hj,_,o0,h4,rfl⟩
    ·rw [hβn] at h3
     injection h3 with h3;injection h3 with e1 e2
     subst e1 e2
     exact ⟨k,_,c,hk,h2,hβk⟩
    ·exact h2.elim
    ·exact ⟨j,o0,c',h4,(lv o0 c').1 h2,by rw [←hβ j hj];exact h3⟩,fun ⟨j,o,c',h1,h2,h3⟩=>by
    have hj:j<n:=by rw [←hn];exact (List.getElem?_eq_some_iff.1 h1).1
    by_cases e:j=k
    ·subst e
     rw [hk] at h1
     injection h1 with h1
     subst h1
     rw [hβk] at h3
     injection h3 with h3;injection h3 with e1 e2
     subst e1 e2
     exact ⟨n,_,c,hlast,h2,hβn⟩
    ·exact ⟨j,_,c',hkeep j o hj e h1,(lv o c').2 h2,by rw [hβ j hj];exact h3⟩⟩
  have vi:∀j,j<n→Vb (Vd k n 0 st.h++[Ca.row t τ xs]) j=Vb st.h j:=fun j hj=>by
    by_cases e:j=k
    ·subst e
     simp [Vb,hdead,hk]
    ·unfold Vb
     rw [hat j hj]
     have hb:Nat.beq j k=false:=Uk e
     simp only [hb,cond_false]
     cases h0:st.h[j]? with
     |none=>rfl
     |some o=>cases o<;>rfl
  have c1:∀v u,C1 w (Da st.h β) C.X st.h β v u→C1 w (Da (Vd k n 0 st.h++[Ca.row t τ xs]) (β++[(b,c)])) C.X (Vd k n 0 st.h++[Ca.row t τ xs]) (β++[(b,c)]) (Gk k n v) u:=fun v u hc=>by
    rw [hE]
    cases v with
    |im x=>exact hc
    |own j =>
     obtain ⟨h0,hv,h1,h2⟩:=hc
     rw [hn] at h0
     by_cases e:j=k
     ·subst e
      simp only [Gk,Nat.beq_refl,cond_true]
      obtain ⟨b1,c1,A,q1,q2,q3,_⟩:=h2 _ _ _ hk
      rw [hβk] at q1
      injection q1 with q1;injection q1 with e1 e2
      subst e1 e2
      refine ⟨by rw [hlen];omega,by simp [Vb,hlast],h1,fun t' τ' xs' e'=>?_⟩
      rw [hlast] at e'
      injection e' with e'
      cases e'
      exact ⟨b,c,A,hβn,q2,q3,fun _=>trivial⟩
     ·have hb:Nat.beq j k=false:=Uk e
      simp only [Gk,hb,cond_false]
      refine ⟨by rw [hlen];omega,by rw [vi j h0];exact hv,h1,fun t' τ' xs' e'=>?_⟩
      rcases only j _ e' with ⟨q,_⟩|⟨_,q,_⟩|⟨hj,_,o0,h4,h5⟩
      ·omega
      ·exact absurd q e
      ·cases o0<;>simp only [Hl] at h5<;>first|(cases h5;done)|skip
       cases h5
       obtain ⟨b1,c1,A,q1,q2,q3,_⟩:=h2 _ _ _ h4
       exact ⟨b1,c1,A,by rw [hβ j h0];exact q1,q2,q3,fun _=>trivial⟩
    |ptr j o =>
     obtain ⟨b1,c1,h1,h2⟩:=hc
     have hj:j<n:=by rw [←hl];exact (List.getElem?_eq_some_iff.1 h1).1
     exact ⟨b1,c1,by rw [hβ j hj];exact h1,h2⟩
    |ept j i z o =>
     obtain ⟨h0,hv,b1,c1,h1,h2,h3⟩:=hc
     rw [hn] at h0
     refine ⟨by rw [hlen];omega,by rw [vi j h0];exact hv,b1,c1,by rw [hβ j h0];exact h1,h2,fun t' τ' xs' e'=>?_⟩
     rcases only j _ e' with ⟨q,_⟩|⟨_,_,q⟩|⟨hj,_,o0,h4,h5⟩
     ·omega
     ·cases q
     ·cases o0<;>simp only [Hl] at h5<;>first|(cases h5;done)|skip
      cases h5
      exact h3 _ _ _ h4
    |at_ cs o=>exact hc
    |fn f caps=>exact hc.elim
    |agg cs=>exact hc.elim
    |tup cs=>exact hc.elim
  have mapF:∀{R R':PV→Value→Prop} {g:PV→PV} {xs:List PV} {us:List Value},F2 R xs us→(∀x u,R x u→R' (g x) u)→F2 R' (xs.map g) us:=fun h hr=>⟨by rw [List.length_map];exact h.1,fun i x u hx hu=>by
    rw [List.getElem?_map] at hx
    obtain ⟨y,hy,rfl⟩:=Option.map_eq_some_iff.1 hx
    exact hr _ _ (h.2 i y u hy hu)⟩
  have cF:∀v u,CF w (Da st.h β) C.X st.h β v u→CF w (Da (Vd k n 0 st.h++[Ca.row t τ xs]) (β++[(b,c)])) C.X (Vd k n 0 st.h++[Ca.row t τ xs]) (β++[(b,c)]) (NI k n v) u:=fun v u hc=>by
    have keepF:∀v,(∀f caps,v≠.fn f caps)→C1 w (Da st.h β) C.X st.h β v u→CF w (Da (Vd k n 0 st.h++[Ca.row t τ xs]) (β++[(b,c)])) C.X (Vd k n 0 st.h++[Ca.row t τ xs]) (β++[(b,c)]) (Gk k n v) u:=fun v _ h=>by
      have:=c1 v u h
      cases v with
      |own j=>simp only [Gk] at this ⊢;cases hb:Nat.beq j k<;>rw [hb] at this<;>exact this
      |im x=>exact this
      |ptr j o=>exact this
      |ept j i z o=>exact this
      |at_ cs o=>exact this
      |fn f caps=>exact h.elim
      |agg cs=>exact h.elim
      |tup cs=>exact h.elim
    cases v with
    |fn f caps=>obtain ⟨us,h1,h2⟩:=hc;exact ⟨us,h1,mapF h2 c1⟩
    |im x=>exact keepF (.im x) (by intros;intro h;cases h) hc
    |own j=>exact keepF (.own j) (by intros;intro h;cases h) hc
    |ptr j o=>exact keepF (.ptr j o) (by intros;intro h;cases h) hc
    |ept j i z o=>exact keepF (.ept j i z o) (by intros;intro h;cases h) hc
    |at_ cs o=>exact keepF (.at_ cs o) (by intros;intro h;cases h) hc
    |agg cs=>exact hc.elim
    |tup cs=>exact hc.elim
  have c2:∀v u,C2 w (Da st.h β) C.X st.h β v u→C2 w (Da (Vd k n 0 st.h++[Ca.row t τ xs]) (β++[(b,c)])) C.X (Vd k n 0 st.h++[Ca.row t τ xs]) (β++[(b,c)]) (Ly k n v) u:=fun v u hc=>by
    cases v with
    |agg cs=>obtain ⟨us,h1,h2⟩:=hc;exact ⟨us,h1,mapF h2 c1⟩
    |own j =>
     have:=cF (.own j) u hc
     simp only [NI,Gk,Ly] at this ⊢
     cases hb:Nat.beq j k<;>rw [hb] at this<;>exact this
    |im x=>exact cF (.im x) u hc
    |ptr j o=>exact cF (.ptr j o) u hc
    |ept j i z o=>exact cF (.ept j i z o) u hc
    |at_ cs o=>exact cF (.at_ cs o) u hc
    |fn f caps=>exact cF (.fn f caps) u hc
    |tup cs=>exact hc.elim
  have cv:∀v u,Cv w (Da st.h β) C.X st.h β v u→Cv w (Da (Vd k n 0 st.h++[Ca.row t τ xs]) (β++[(b,c)])) C.X (Vd k n 0 st.h++[Ca.row t τ xs]) (β++[(b,c)]) (OI k n v) u:=fun v u hc=>by
    cases v with
    |tup cs=>obtain ⟨us,h1,h2⟩:=hc;exact ⟨us,h1,mapF h2 c2⟩
    |own j =>
     have:=c2 (.own j) u hc
     simp only [OI,NI,Gk,Ly] at this ⊢
     cases hb:Nat.beq j k<;>rw [hb] at this<;>exact this
    |im x=>exact c2 (.im x) u hc
    |ptr j o=>exact c2 (.ptr j o) u hc
    |ept j i z o=>exact c2 (.ept j i z o) u hc
    |at_ cs o=>exact c2 (.at_ cs o) u hc
    |fn f caps=>exact c2 (.fn f caps) u hc
    |agg cs=>exact c2 (.agg cs) u hc
  have occ:∀{j:Nat} {p:Nat×Nat} {σ:Ty} {u:Value},Va w (Vd k n 0 st.h++[Ca.row t τ xs]) (β++[(b,c)]) j p σ u→∃j0,((j=n∧j0=k)∨(j<n∧j≠k∧j0=j))∧Va w st.h β j0 p σ u:=fun {j p σ u} ⟨t',τ',xs',bb,cc,us,junk,z1,z2,z3⟩=>by
    rcases only j _ z1 with ⟨rfl,q⟩|⟨_,_,q⟩|⟨hjn,hjk,o0,h4,q⟩
    ·rw [hβn] at z2
     rw [q] at z1
     injection q with e1 e2 e3
     subst e1 e2
     have e3:=eq_of_heq e3
     subst e3
     exact ⟨k,.inl ⟨rfl,rfl⟩,t',τ',xs',bb,cc,us,junk,hk,by rw [←z2];exact hβk,z3⟩
    ·cases q
    ·cases o0<;>simp only [Hl] at q<;>first|(cases q;done)|skip
     exact ⟨j,.inr ⟨hjn,hjk,rfl⟩,t',τ',xs',bb,cc,us,junk,by rw [q];exact h4,by rw [←hβ j hjn];exact z2,z3⟩
  refine ⟨β++[(b,c)],S.cl,S.xw,S.step.trans ⟨rfl,rfl,rfl,Nat.le_refl _,fun _ _ _=>rfl,fun i _ h=>by rw [hE] at h;exact h,fun j p hj=>?_,⟨by rw [hlen,hn];omega,fun j t' τ' xs' hj e'=>?_,fun j hj e'=>?_⟩,fun j p m _ ⟨σ,u,z1,z2⟩=>(occ z1).elim fun j0 z3=>.inl ⟨j0,p,σ,u,z3.2,z2⟩⟩,⟨by rw [hlen];simp [hl],fun i h=>h,fun i h=>?_,fun j o hj=>?_,fun i j o o' b1 c1' c2' hi hj li lj bi bj=>?_,fun i p j q m ⟨σ,u,z1,z2⟩ ⟨σ',u',y1,y2⟩=>by
      obtain ⟨i0,z3,z4⟩:=occ z1
      obtain ⟨j0,y3,y4⟩:=occ y1
      obtain ⟨e1,e2⟩:=S.heap.uq i0 p j0 q m ⟨σ,u,z4,z2⟩ ⟨σ',u',y4,y2⟩
      exact ⟨by omega,e2⟩,fun i p σ u m z1 z2=>(occ z1).elim fun i0 z3=>S.heap.pl i0 p σ u m z3.2 z2⟩,S.sz,S.df,fun i v hi=>?_⟩
  ·have hjl:=(List.getElem?_eq_some_iff.1 hj).1
   rw [hβ j (by omega)];exact hj
  ·rw [hn] at hj
   rcases only j _ e' with ⟨q,_⟩|⟨_,_,q⟩|⟨_,_,o0,h4,h5⟩
   ·omega
   ·cases q
   ·cases o0<;>simp only [Hl] at h5<;>first|(cases h5;done)|skip
    cases h5
    exact .inl ⟨_,h4,rfl⟩
  ·rw [hn] at hj
   rw [vi j hj] at e'
   exact e'
  ·rw [hE] at h;exact S.heap.nx i h
  ·rcases only j o hj with ⟨rfl,rfl⟩|⟨_,_,rfl⟩|⟨hjn,_,o0,h4,rfl⟩
   ·exact ⟨b,c,hβn,hc0,hcm,fun h=>by rw [hE];exact hrow h⟩
   ·trivial
   ·have ho:=S.heap.ok j o0 h4
    cases o0 with
    |dead=>trivial
    |vrow t' τ'=>obtain ⟨b1,h1⟩:=ho;exact ⟨b1,by rw [hβ j hjn];exact h1⟩
    |row t' τ' xs' =>
     obtain ⟨b1,c1',q1,q2,q3,q4⟩:=ho
     exact ⟨b1,c1',by rw [hβ j hjn];exact q1,q2,q3,fun h=>by rw [hE];exact q4 h⟩
    |box t' cs =>
     obtain ⟨b1,c1',us,q1,q2,q3,q4⟩:=ho
     exact ⟨b1,c1',us,by rw [hβ j hjn];exact q1,q2,mapF q3 c1,q4⟩
  ·have back:∀j o c',(Vd k n 0 st.h++[Ca.row t τ xs])[j]? =some o→Bc o c'→(β++[(b,c)])[j]? =some (b1,c')→∃j0 o0,st.h[j0]? =some o0∧Bc o0 c'∧β[j0]? =some (b1,c')∧((j=n∧j0=k)∨(j<n∧j≠k∧j0=j)):=fun j o c' h1 h2 h3=>by
     rcases only j o h1 with ⟨rfl,rfl⟩|⟨_,_,rfl⟩|⟨hjn,hjk,o0,h4,rfl⟩
     ·rw [hβn] at h3
      injection h3 with h3;injection h3 with e1 e2
      subst e1 e2
      exact ⟨k,_,hk,h2,hβk,.inl ⟨rfl,rfl⟩⟩
     ·exact h2.elim
     ·exact ⟨j,o0,h4,(lv o0 c').1 h2,by rw [←hβ j hjn];exact h3,.inr ⟨hjn,hjk,rfl⟩⟩
   obtain ⟨i0,p0,q1,q2,q3,q4⟩:=back i o c1' hi li bi
   obtain ⟨j0,p1,r1,r2,r3,r4⟩:=back j o' c2' hj lj bj
   have:=S.heap.inj i0 j0 p0 p1 b1 c1' c2' q1 r1 q2 r2 q3 r3
   omega
  ·have hi:Kd (My k n st.t) i=some v:=hi
   rw [R7] at hi
   obtain ⟨v0,h1,rfl⟩:=Option.map_eq_some_iff.1 hi
   obtain ⟨u,h2,h3⟩:=S.tm i v0 h1
   exact ⟨u,h2,cv v0 u h3⟩
theorem T7:∀(l:List Nat) {st:St} {β:List (Nat×Nat)},Oa C st a w β→∃β',Oa C (PI l st) a w β'
  |[],st,β,S=>⟨β,S⟩
  |k::r,st,β,S=>by
   obtain ⟨β1,S1⟩:=mA S k
   exact T7 r S1
def U7 (G:Ka) (c:Code) (rs:List ResultVar) (AS:Zc) (ah:List Ho) (RS:Zc) (rh:List Ho) (ms:List Nat) (s:HL ah):Option (HL rh):=match AS.fill (up ah s) with
  |some (ds,os)=>bif Nat.beq os.length G.M&&Nat.ble ds.length G.N then Sf G c (PI ms ⟨Zn 0 ds,os⟩) (fun e st=>match e with
   | .normal=>(match Dj G.tab st rs with
     |some v=>(match RS.get G.M st.h [v] with|some l=>Ef rh l|none=>G.bad _ 61 none st)
     |none=>G.bad _ 62 none st)
   | .ret=>(match Dj G.tab st rs with
     |some v=>(match RS.get G.M st.h [v] with|some l=>Ef rh l|none=>G.bad _ 61 none st)
     |none=>G.bad _ 62 none st)
   |_=>G.bad _ 63 none st) else G.bad _ 64 none ⟨[],[]⟩
  |none=>none
theorem QI (HB:Hd G) (HT:Qb P G.tab) (H:Ma P G.Γ) (hm:P.follows .mixedOrders=true) {f:FuncId} {fn:Func} {c:Code} (hf:P.funcs[f]? =some fn) (hb:fn.body=some c) (hN:fn.ntmps=G.N) (hc:Mi P G c) {AS RS:Zc} {ah rh:List Ho} {sh:HL ah→Option (HL rh)} (ms:List Nat) (hsh:∀s,U7 G c fn.results.toList AS ah RS rh ms s=sh s):GC P f ⟨AS,ah,RS,rh,sh⟩:=fun s r hs ds os hfill d0 h0' hfin=>by
  have hs:sh s=some r:=hs
  have hs:=(hsh s).trans hs
  unfold U7 at hs
  have hfill:AS.fill (up ah s)=some (ds,os):=hfill
  rw [hfill] at hs
  simp only at hs
  cases hb2:(Nat.beq os.length G.M&&Nat.ble ds.length G.N) with
  |false=>rw [hb2] at hs;simp only [cond_false] at hs;rw [HB] at hs;cases hs
  |true =>
   rw [hb2] at hs
   simp only [cond_true] at hs
   simp only [Bool.and_eq_true] at hb2
   have hM:=Nat.eq_of_beq_eq_true hb2.1
   have hds:=Nat.le_of_ble_eq_true hb2.2
   have endQ:∀(st:St),(match Dj G.tab st fn.results.toList with
     |some v=>(match RS.get G.M st.h [v] with|some l=>Ef rh l|none=>G.bad _ 61 none st)
     |none=>G.bad _ 62 none st)=some r→∃v l,Dj G.tab st fn.results.toList=some v∧RS.get G.M st.h [v]=some l∧Ef rh l=some r:=fun st hq=>by
     split at hq
     ·rename_i v hv
      split at hq
      ·rename_i l hl;exact ⟨v,l,hv,hl,hq⟩
      ·rw [HB] at hq;cases hq
     ·rw [HB] at hq;cases hq
   have hev:=Xn (r:=r) HB HT H hm c _ (PI ms ⟨Zn 0 ds,os⟩) (fun e st=>(e=.normal∨e=.ret)∧∃v l,Dj G.tab st fn.results.toList=some v∧RS.get G.M st.h [v]=some l∧Ef rh l=some r) hc (fun e st hk=>by
     cases e with
     |normal=>exact ⟨.inl rfl,endQ st hk⟩
     |ret=>exact ⟨.inr rfl,endQ st hk⟩
     |_=>(simp only at hk;rw [HB] at hk;cases hk)) hs
   have key:∀w X β args,(∀b,X b→b<w.heap.size)→Pb w (Da os β) X os β→F2 (Cv w (Da os β) X os β) ds args→Gi w os β→Calls P f args.toArray w fun ex w'=>∃d h',RS.fill (up rh r)=some ([d],h')∧∃u β',ex=.returned u∧Gb w os β w' h' β'∧Pb w' (Da h' β') X h' β'∧Cv w' (Da h' β') X h' β' d u:=fun w X β args hX hH hargs hG=>by
     refine calls_of_wp hf hb ?_
     have S0:Oa ⟨w,os,β,G.N,X⟩ ⟨Zn 0 ds,os⟩ { tmps:=args.toArray++Array.replicate (fn.ntmps-args.toArray.size) undef,defers:=[] } w β :=
       ⟨⟨hH.len,hG⟩,hX,Gb.refl _ _ _,hH,by have:=hargs.1;simp;omega,rfl,fun i v hi=>by
         obtain ⟨_,h1⟩:=CR ds 0 i v hi
         rw [Nat.sub_zero] at h1
         obtain ⟨u,hu,hR⟩:=hargs.get h1
         refine ⟨u,?_,hR⟩
         have hl:i<args.length:=(List.getElem?_eq_some_iff.1 hu).1
         show (args.toArray++Array.replicate (fn.ntmps-args.toArray.size) undef)[i]? =some u
         rw [Array.getElem?_append_left (by simpa using hl)]
         simpa using hu⟩
     obtain ⟨βm,Sm⟩:=T7 ms S0
     have hw:=hev ⟨w,os,β,G.N,X⟩ _ w βm rfl hM Sm
     refine wp_mono hw ?_
     rintro e a' w' ⟨st',β',⟨he,v,l,h1,h2,h3⟩,S'⟩
     unfold Zc.get at h2
     split at h2
     rename_i ρ vr hρ
     cases hb3:(Un vr&&Em G.M ρ (st'.h++vr)) with
     |false=>rw [hb3] at h2;cases h2
     |true =>
      rw [hb3] at h2
      simp only [cond_true] at h2
      simp only [Bool.and_eq_true] at hb3
      obtain ⟨u,hres,hu0⟩:=T6 HT S' h1
      obtain ⟨β2,S2,hst2⟩:=S'.virt vr hb3.1
      obtain ⟨ds',os',g1,g2,g3,g4⟩:=JQ S2 hM hb3.2 h2
      have hu:Cv w' (Da (st'.h++vr) β2) X (st'.h++vr) β2 v u:=hu0.keep (fun _ _ _=>rfl) (Nat.le_refl _) (fun b hb hn h=>hn (hst2.new b hb h)) (fun _ _ _ h=>h) hst2.hle hst2.beta
      have hF:=g2 [u] (F2.cons hu F2.nil)
      have hl1:ds'.length=1:=by rw [←hF.1];rfl
      obtain ⟨d,rfl⟩:∃d,ds'=[d]:=by
        match ds',hl1 with
        |[d],_=>exact ⟨d,rfl⟩
      have hd:Cv w' (Da os' (Wc ρ β2)) X os' (Wc ρ β2) d u:=hF.2 0 d u rfl rfl
      have hup:=Rn h3
      rcases he with rfl|rfl
      ·exact ⟨S'.df,u,hres,d,os',by rw [hup];exact g1,u,_,rfl,g4,g3,hd⟩
      ·exact ⟨S'.df,u,hres,d,os',by rw [hup];exact g1,u,_,rfl,g4,g3,hd⟩
   intro w X β args hX hH hargs hG
   refine Calls.mono (key w X β args hX hH hargs hG) fun ex w' hx=>?_
   obtain ⟨d,h',g1,g2⟩:=hx
   have hfin:RS.fill (up rh r)=some ([d0],h0'):=hfin
   rw [hfin] at g1
   injection g1 with g1
   injection g1 with e1 e2
   injection e1 with e1
   subst e1 e2
   exact g2
end
end
section
open Go.RowKit
section
variable {P:Program} {ops:Array Oper} {md:Region.Mode} {Q:Exit→Act→World→Prop} {S:World→Prop}
theorem mB {I:Array Bool→Prop} {n i:Nat} {oi:Oper} {v:Value} {T:Array Bool→Act→World→Prop} (hset:∀l i,I l→i∈Region.ready md ops l→i<n→I (l.setIfInBounds i true)) (hlt:∀l i j,I l→i<n→l.getD i true=false→j∈Region.ready md ops l→j<n) (hi:ops[i]? =some oi) (hsel:∀(j:Nat) (o:Oper) cs b,ops[j]? =some o→o.op≠.select cs b)
    (hQ:∀c a w,Q (.panic c) (a.put oi.dst v) w→Q (.panic c) a w) (hin:i<n)
    (hdone:∀listed a w,T listed a w→∀j∈Region.ready md ops listed,n≤j) :
    ∀(f:Nat) (listed:Array Bool) (a:Act) (w:World),I listed →
     (∀j oj,ops[j]? =some oj→j≠i→listed.getD j true=false→(∀e∈oj.after,Region.binds md e=true→e.on≠i)→oi.apart ops oj=true) →
     i∈Region.ready md ops listed→YieldsIf P ops S oi v a→S w →
     Of P md ops Q S n T f (listed.setIfInBounds i true) (a.put oi.dst v) w→Of P md ops Q S n T (f+1) listed a w:=by
  intro f
  induction f with
  |zero =>
   intro listed a w inv _ hr hy hS H
   have hun:=(mem_ready.1 hr).1
   refine ⟨fun h=>(by rw [h] at hr;cases hr),fun j hj=>?_⟩
   have hjn:j<n:=hlt _ _ _ inv hin hun hj
   refine ⟨hjn,?_⟩
   by_cases hji:j=i
   ·subst hji;exact hy.wpOp hi hS ⟨hS,H⟩
   ·have:=hdone _ _ _ H j (ready_mono hj hji)
    omega
  |succ f ih =>
   intro listed a w inv hfree hr hy hS H
   have hun:=(mem_ready.1 hr).1
   refine ⟨fun h=>(by rw [h] at hr;cases hr),fun j hj=>?_⟩
   have hjn:j<n:=hlt _ _ _ inv hin hun hj
   refine ⟨hjn,?_⟩
   by_cases hji:j=i
   ·subst hji;exact hy.wpOp hi hS ⟨hS,H⟩
   ·have h1:=(H.2 j (ready_mono hj hji)).2
    obtain ⟨hjun,oj,hoj,hall⟩:=mem_ready.1 hj
    have hnot:∀e∈oj.after,Region.binds md e=true→e.on≠i:=fun e he hb heq=>by
      have h1:=hall e he hb
      rw [heq,getD_both hun] at h1
      cases h1
    have h2:=wpOp_putIf hoj (hfree j oj hoj hji hjun hnot) (fun cs b=>hsel i oi cs b hi) (fun cs b=>hsel j oj cs b hoj) hQ hy h1
    have hfree':∀k ok,ops[k]? =some ok→k≠i→(listed.setIfInBounds j true).getD k true=false →
        (∀e∈ok.after,Region.binds md e=true→e.on≠i)→oi.apart ops ok=true:=fun k ok hk hki hun hno=>by
      refine hfree k ok hk hki ?_ hno
      by_cases hjk:j=k
      ·subst hjk;exact hjun
      ·rw [getD_set_ne true hjk] at hun;exact hun
    refine wpOp_mono (fun a' w' h3=>⟨h3.2.1,ih (listed.setIfInBounds j true) a' w' (hset _ _ inv hj hjn) hfree' (ready_mono hr (Ne.symm hji)) h3.1 h3.2.1 ?_⟩) h2
    rw [Array.setIfInBounds_comm _ _ hji]
    exact h3.2.2
def Hm (md:Region.Mode) (ops:Array Oper):List Nat→Array Bool→Bool
  |[],l=>decide (Region.ready md ops l=[])
  |t::r,l=>decide (Region.ready md ops l=[t])&&Hm md ops r (l.setIfInBounds t true)
theorem mC {n:Nat} {tl:List Nat} (htl:∀t∈tl,n≤t) {l:Array Bool} (h:Hm md ops tl l=true):∀j∈Region.ready md ops l,n≤j:=by
  cases tl with
  |nil=>intro j hj;rw [oT h] at hj;cases hj
  |cons t r =>
   intro j hj
   simp only [Hm,Bool.and_eq_true,decide_eq_true_eq] at h
   rw [h.1] at hj
   have:j=t:=by simpa using hj
   subst this
   exact htl _ (List.mem_cons_self ..)
def Fj (l:List Oper) (tl:List Nat):List Oper:=tl.filterMap fun k=>l[k]?
theorem QR {l:List Oper} {Q':Exit→Act→World→Prop}:∀(tl:List Nat) (listed:Array Bool) (a:Act) (w:World),Hm md l.toArray tl listed=true→(∀t∈tl,t<l.length)→wpList P l.toArray Q' (Fj l tl) a w→wpAny P md l.toArray Q' tl.length listed a w
  |[],_,_,_,hB,_,h=>⟨oT hB,h⟩
  |t::r,listed,a,w,hB,hl,h=>by
   have ht:=hl t (List.mem_cons_self ..)
   have h0:l[t]? =some l[t]:=List.getElem?_eq_getElem ht
   generalize l[t]=o at h0
   have h1:l.toArray[t]? =some o:=by simpa using h0
   simp only [Hm,Bool.and_eq_true,decide_eq_true_eq] at hB
   refine ⟨fun h1=>(by rw [hB.1] at h1;cases h1),fun i hi=>?_⟩
   rw [hB.1] at hi
   obtain rfl:i=t:=by simpa using hi
   have e:Fj l (i::r)=o::Fj l r:=by unfold Fj;rw [List.filterMap_cons];simp only [h0]
   rw [e] at h
   unfold wpOp
   simp only [h1]
   unfold wpList at h
   split
   ·rename_i hw
    rw [if_pos hw] at h
    exact h.imp (Oper.wp_mono fun a' w' h'=>QR r _ a' w' hB.2 (fun t' ht'=>hl t' (List.mem_cons_of_mem _ ht')) h') id
   ·rename_i hw
    rw [if_neg hw] at h
    exact QR r _ _ w hB.2 (fun t' ht'=>hl t' (List.mem_cons_of_mem _ ht')) h
def Af (md:Region.Mode) (ops:Array Oper) (tl:List Nat) (n:Nat):Bool→Nat→Tr→Array Bool→Bool
  |_,0,.done,listed=>Hm md ops tl listed
  |_,m+1,.val k r,listed=>decide (k<n)&&(match ops[k]? with
    |some o=>Jf o.op&&(Region.ready md ops listed).contains k&&Region.free md ops listed k
    |none=>false)&&Af md ops tl n true m r (listed.setIfInBounds k true)
  |b,m+1,.one k r,listed=>decide (k<n)&&(!b||decide (Region.ready md ops listed=[k]))&&Af md ops tl n true m r (listed.setIfInBounds k true)
  |b,m+1,.alt k r t,listed=>decide (k<n)&&(!b||decide (Region.ready md ops listed=k::Je t))&&Af md ops tl n true m r (listed.setIfInBounds k true)&&Af md ops tl n false (m+1) t listed
  |_,_,_,_=>false
theorem V7 {I:Array Bool→Prop} {tl:List Nat} {n m:Nat} {T:Act→World→Prop} (hset:∀l i,I l→i∈Region.ready md ops l→i<n→I (l.setIfInBounds i true)) (IH:∀(t:Tr) (listed:Array Bool) (a:Act) (w:World),I listed→Af md ops tl n true m t listed=true→S w→Ye P ops Q S T t a w →
    Of P md ops (Nc Q) S n (fun listed' a' w'=>Hm md ops tl listed'=true∧T a' w') m listed a w) {listed:Array Bool} {a:Act} {w:World} (inv:I listed) (hS:S w) :
    ∀(t:Tr),Af md ops tl n false (m+1) t listed=true→Ye P ops Q S T t a w→∀i∈Je t,i∈Region.ready md ops listed→i<n∧wpOp P ops (Nc Q) i (fun a' w'=>S w'∧Of P md ops (Nc Q) S n (fun listed' a' w'=>Hm md ops tl listed'=true∧T a' w') m (listed.setIfInBounds i true) a' w') a w
  | .done,_,_,i,hi,_=>by simp [Je] at hi
  | .val _ _,_,_,i,hi,_=>by simp [Je] at hi
  | .two _ _ _ _,_,_,i,hi,_=>by simp [Je] at hi
  | .one k r,hB,h,i,hi,hr=>by
    simp only [Af,Bool.and_eq_true,decide_eq_true_eq] at hB
    obtain ⟨⟨hkn,_⟩,hB'⟩:=hB
    obtain ⟨o,h0,h⟩:=h
    obtain rfl:i=k:=by simpa [Je] using hi
    exact ⟨hkn,Tl h0 hS h fun a' w' hS' h'=>⟨hS',IH r _ _ _ (hset _ _ inv hr hkn) hB' hS' h'⟩⟩
  | .alt k r t,hB,h,i,hi,hr=>by
    simp only [Af,Bool.and_eq_true,decide_eq_true_eq] at hB
    obtain ⟨⟨⟨hkn,_⟩,hB'⟩,hBt⟩:=hB
    obtain ⟨⟨o,h0,h⟩,ht⟩:=h
    rcases List.mem_cons.1 (show i∈k::Je t from hi) with rfl|hi
    ·exact ⟨hkn,Tl h0 hS h fun a' w' hS' h'=>⟨hS',IH r _ _ _ (hset _ _ inv hr hkn) hB' hS' h'⟩⟩
    ·exact V7 hset IH inv hS t hBt ht i hi hr
theorem RI {I:Array Bool→Prop} {tl:List Nat} {n:Nat} {T:Act→World→Prop} (hset:∀l i,I l→i∈Region.ready md ops l→i<n→I (l.setIfInBounds i true)) (hlt:∀l i j,I l→i<n→l.getD i true=false→j∈Region.ready md ops l→j<n) (hsel:Region.noSelect ops=true) (htl:∀t∈tl,n≤t) :
    ∀(m:Nat) (t:Tr) (listed:Array Bool) (a:Act) (w:World),I listed→Af md ops tl n true m t listed=true→S w→Ye P ops Q S T t a w →
    Of P md ops (Nc Q) S n (fun listed' a' w'=>Hm md ops tl listed'=true∧T a' w') m listed a w
  |0,.done,listed,a,w,_,hB,_,h=>⟨by simpa [Af] using hB,h⟩
  |0,.val _ _,_,_,_,_,hB,_,_=>by simp [Af] at hB
  |0,.one _ _,_,_,_,_,hB,_,_=>by simp [Af] at hB
  |0,.two _ _ _ _,_,_,_,_,hB,_,_=>by simp [Af] at hB
  |0,.alt _ _ _,_,_,_,_,hB,_,_=>by simp [Af] at hB
  |m+1,.done,_,_,_,_,hB,_,_=>by simp [Af] at hB
  |m+1,.two _ _ _ _,_,_,_,_,hB,_,_=>by simp [Af] at hB
  |m+1,.val k r,listed,a,w,inv,hB,hS,h=>by
   simp only [Af,Bool.and_eq_true,decide_eq_true_eq] at hB
   obtain ⟨⟨hkn,hB1⟩,hB'⟩:=hB
   obtain ⟨o,h0,h⟩:=h
   simp only [h0,Bool.and_eq_true] at hB1
   have hr':k∈Region.ready md ops listed:=by simpa using hB1.1.2
   obtain ⟨v,hy,hK⟩:∃v,YieldsIf P ops S o v a∧Ye P ops Q S T r (a.put o.dst v) w:=by
     by_cases hw:Region.wanted o (yielded ops a.tmps)=true
     ·simp only [hw,if_true] at h
      exact PG hB1.1.1 hw h
     ·simp only [hw] at h
      exact ⟨undef,.inr ⟨by simpa using hw,rfl⟩,h⟩
   exact mB hset hlt h0 (Region.noSelect_spec hsel) (fun _ _ _ h=>h) hkn (fun listed' a' w' hL=>mC htl hL.1) m listed a w inv (Region.free_spec h0 hB1.2) hr' hy hS
     (RI hset hlt hsel htl m r _ _ _ (hset _ _ inv hr' hkn) hB' hS hK)
  |m+1,.one k r,listed,a,w,inv,hB,hS,h=>by
   simp only [Af,Bool.and_eq_true,decide_eq_true_eq,Bool.not_true,Bool.false_or] at hB
   obtain ⟨⟨hkn,hB1⟩,hB'⟩:=hB
   obtain ⟨o,h0,h⟩:=h
   have hr':k∈Region.ready md ops listed:=by rw [hB1];simp
   refine ⟨by rw [hB1];simp,fun i hi=>?_⟩
   rw [hB1] at hi
   obtain rfl:i=k:=by simpa using hi
   exact ⟨hkn,Tl h0 hS h fun a' w' hS' h'=>⟨hS',RI hset hlt hsel htl m r _ _ _ (hset _ _ inv hr' hkn) hB' hS' h'⟩⟩
  |m+1,.alt k r t,listed,a,w,inv,hB,hS,h=>by
   have hB0:Af md ops tl n false (m+1) (.alt k r t) listed=true:=by
     simp only [Af,Bool.and_eq_true,decide_eq_true_eq,Bool.not_false,Bool.true_or,true_and] at hB ⊢
     exact ⟨⟨⟨hB.1.1.1,trivial⟩,hB.1.2⟩,hB.2⟩
   simp only [Af,Bool.and_eq_true,decide_eq_true_eq,Bool.not_true,Bool.false_or] at hB
   obtain ⟨⟨⟨_,hB1⟩,_⟩,_⟩:=hB
   refine ⟨by rw [hB1];simp,fun i hi=>?_⟩
   exact V7 hset (fun t listed a w=>RI hset hlt hsel htl m t listed a w) inv hS (.alt k r t) hB0 h i (by rw [hB1] at hi;exact hi) hi
structure Im (md:Region.Mode) (ops:Array Oper) (n:Nat) (l0 listed:Array Bool):Prop where
  size:listed.size=ops.size
  closed:∀j oj,ops[j]? =some oj→listed.getD j false=true→∀e∈oj.after,Region.binds md e=true→listed.getD e.on false=true
  more:∀j,l0.getD j false=true→listed.getD j false=true
  tail:∀t,n≤t→l0.getD t true=false→listed.getD t true=false
def SR (md:Region.Mode) (ops:Array Oper) (n:Nat) (l0:Array Bool):Bool :=
  ((List.range n).all fun i=>l0.getD i true||(List.range (n+1)).any fun j=>decide (i<j)&&Region.waitsFor md ops j i)&&((List.range ops.size).all fun t=>decide (t≤n)||l0.getD t true||(List.range t).any fun t'=>decide (n≤t')&&!l0.getD t' true&&Region.waitsFor md ops t t')
theorem Im.waits {n:Nat} {l0 listed:Array Bool} (hs:SR md ops n l0=true) (h0:l0.size=ops.size) (inv:Im md ops n l0 listed) (hn:n≤ops.size) :
    ∀(d i:Nat),n-i=d→i<n→listed.getD i true=false→∀t,n≤t→t∉Region.ready md ops listed:=by
  simp only [SR,Bool.and_eq_true] at hs
  obtain ⟨hs1,hs2⟩:=hs
  have both:∀j,j<ops.size→l0.getD j true=true→listed.getD j false=true:=fun j hj h=>inv.more j (by
    have:j<l0.size:=by omega
    simpa [Array.getD_eq_getD_getElem?,this] using h)
  intro d
  induction d using Nat.strongRecOn with
  |_ d ih =>
   intro i hd hi hun t ht hr
   obtain ⟨htun,ot,hot,hall⟩:=mem_ready.1 hr
   have htlt:t<ops.size:=(Array.getElem?_eq_some_iff.1 hot).1
   by_cases htn:t=n
   ·subst htn
    have h1:=List.all_eq_true.1 hs1 i (List.mem_range.2 hi)
    simp only [Bool.or_eq_true] at h1
    rcases h1 with h1|h1
    ·have h2:=both i (by omega) h1
     rw [getD_both hun] at h2
     cases h2
    ·obtain ⟨j,hj,hj2⟩:=List.any_eq_true.1 h1
     simp only [Bool.and_eq_true,decide_eq_true_eq] at hj2
     obtain ⟨oj,hoj,e,he,hb,hon⟩:=Region.waitsFor_spec hj2.2
     have hjle:j≤t:=by have:=List.mem_range.1 hj;omega
     by_cases hjt:j=t
     ·subst hjt
      have:oj=ot:=Option.some.inj (hoj.symm.trans hot)
      subst this
      have h2:=hall e he hb
      rw [hon,getD_both hun] at h2
      cases h2
     ·cases hl:listed.getD j false with
      |true =>
       have h2:=inv.closed j oj hoj hl e he hb
       rw [hon,getD_both hun] at h2
       cases h2
      |false =>
       have hjs:j<listed.size:=by rw [inv.size];omega
       exact ih (t-j) (by omega) j rfl (by omega) (getD_in hjs hl) t (Nat.le_refl _) hr
   ·have h1:=List.all_eq_true.1 hs2 t (List.mem_range.2 htlt)
    simp only [Bool.or_eq_true,decide_eq_true_eq] at h1
    rcases h1 with (h1|h1)|h1
    ·omega
    ·have h2:=both t htlt h1
     rw [getD_both htun] at h2
     cases h2
    ·obtain ⟨t',ht',h2⟩:=List.any_eq_true.1 h1
     simp only [Bool.and_eq_true,decide_eq_true_eq,Bool.not_eq_true'] at h2
     obtain ⟨o',ho',e,he,hb,hon⟩:=Region.waitsFor_spec h2.2
     have:o'=ot:=Option.some.inj (ho'.symm.trans hot)
     subst this
     have h3:=hall e he hb
     rw [hon,getD_both (inv.tail t' h2.1.1 h2.1.2)] at h3
     cases h3
theorem Im.set {n:Nat} {l0 listed:Array Bool} (inv:Im md ops n l0 listed) {i:Nat} (hi:i∈Region.ready md ops listed) (hin:i<n):Im md ops n l0 (listed.setIfInBounds i true):=by
  obtain ⟨_,oi,hoi,hall⟩:=mem_ready.1 hi
  refine ⟨by simp [inv.size],fun j oj hj hl e he hb=>?_,fun j hj=>getD_set_true (inv.more j hj),fun t ht ht'=>by rw [getD_set_ne true (by omega)];exact inv.tail t ht ht'⟩
  by_cases hij:i=j
  ·subst hij
   have:oj=oi:=Option.some.inj (hj.symm.trans hoi)
   subst this
   exact getD_set_true (hall e he hb)
  ·rw [getD_set_ne false hij] at hl
   exact getD_set_true (inv.closed j oj hj hl e he hb)
def Sv (md:Region.Mode) (ops:Array Oper):List Nat→Array Bool→Bool
  |[],_=>true
  |k::r,l=>decide (k<ops.size)&&(Region.ready md ops l).contains k&&Region.free md ops l k&&Sv md ops r (l.setIfInBounds k true)
def Dh:List Nat→Array Bool→Array Bool
  |[],l=>l
  |k::r,l=>Dh r (l.setIfInBounds k true)
def W7 (ops:Array Oper) (U:List Nat) (n:Nat) (tl:List Nat) (t:Tr):Bool :=
  Region.noSelect ops&&Sv .any ops U (Array.replicate ops.size false)&&SR .any ops n (Dh U (Array.replicate ops.size false))&&Nat.ble n ops.size&&Nat.ble (U.length+tl.length) ops.size&&tl.all (fun t=>Nat.ble n t&&Nat.blt t ops.size)&&Af .any ops tl n true (ops.size-U.length-tl.length) t (Dh U (Array.replicate ops.size false))
theorem X7:∀(U:List Nat) (l:Array Bool),(Dh U l).size=l.size
  |[],l=>rfl
  |k::r,l=>by simp only [Dh];rw [X7 r];simp
theorem Z7:∀(U:List Nat) (l:Array Bool),Sv md ops U l=true→(∀j oj,ops[j]? =some oj→l.getD j false=true→∀e∈oj.after,Region.binds md e=true→l.getD e.on false=true)→(∀j oj,ops[j]? =some oj→(Dh U l).getD j false=true→∀e∈oj.after,Region.binds md e=true→(Dh U l).getD e.on false=true)
  |[],l,_,h=>h
  |k::r,l,hB,h=>by
   simp only [Sv,Bool.and_eq_true,decide_eq_true_eq] at hB
   obtain ⟨⟨⟨hk,hr⟩,_⟩,hB⟩:=hB
   have hr:k∈Region.ready md ops l:=by simpa using hr
   obtain ⟨_,ok,hok,hall⟩:=mem_ready.1 hr
   refine Z7 r _ hB fun j oj hj hl e he hb=>?_
   by_cases hij:k=j
   ·subst hij
    have:oj=ok:=Option.some.inj (hj.symm.trans hok)
    subst this
    exact getD_set_true (hall e he hb)
   ·rw [getD_set_ne false hij] at hl
    exact getD_set_true (h j oj hj hl e he hb)
end
def A8 (G:Ka) (ops:List Oper) (U:List Nat) (tl:List Nat) (ks:List Nat) (F FX FR:Td) (p:List (Nat×Bool)) (s:HL F.hs):Option (HL FX.hs⊕HL FR.hs):=Zf G ops [] (Ec ops (U.map fun k=>(k,true))) (F.st s) fun kn st1=>bif Rf st1.h ks then Ud G ops ks kn (Ec ops p) ⟨st1.t,Ic ks st1.h⟩ st1 fun kn' st'=>Ze G ops kn' (Fj ops tl) st' fun st2=>(match FX.get G.M st2 with|some x=>some (.inl x)|none=>G.bad _ 52 none st2) else G.bad _ 41 none st1
section
variable {P:Program} {G:Ka} {C:Pc} {st:St} {a:Act} {w:World} {β:List (Nat×Nat)}
theorem mD {C:Pc} {st:St} {a:Act} {w:World} {β:List (Nat×Nat)} {ks:List Nat} (S:Oa C st a w β) (hb:Rf st.h ks=true):Id ks (Da st.h β) ⟨st.t,Ic ks st.h⟩ w β st w β:=by
  have hbx:=BI hb
  refine ⟨Gc.refl _ _ _ _,fun _ _ h=>h,fun _ _ h=>h,(DI ks st.h).2,fun k hk=>?_⟩
  have hbk:=hbx k hk
  have hkl:∃t cs,st.h[k]? =some (.box t cs):=by
    cases e:st.h[k]? with
    |none=>simp [Li,e] at hbk
    |some o=>cases o<;>first|exact ⟨_,_,rfl⟩|simp [Li,e] at hbk
  obtain ⟨t,cs,hk'⟩:=hkl
  refine ⟨by rw [S.heap.len];exact (List.getElem?_eq_some_iff.1 hk').1,fun b c hβ=>⟨⟨k,_,c,hk',trivial,hβ⟩,fun ⟨j,o,c',h1,h2,h3⟩=>?_⟩⟩
  have hdead:=Cy hk hbk
  rcases Ck h1 with e1|⟨rfl,_⟩|rfl
  ·have:=S.heap.inj j k o _ b c' c e1 hk' h2 trivial h3 hβ
   subst this
   rw [hdead] at h1
   injection h1 with h1
   subst h1
   exact h2
  ·exact h2
  ·exact h2
theorem B8 {ρ:Type} (HB:Hd G) (HT:Qb P G.tab) {ops:List Oper} {K:List (Nat×Bool)→St→Option ρ} {r:ρ} {Q:Exit→Act→World→Prop} (hN:C.N=G.N) (hsel:Region.noSelect ops.toArray=true) (hQ:∀c a w,Q (.panic c) a w→False) {f:Nat}:∀(U:List Nat) (listed:Array Bool) (kn:List (Nat×Bool)) (st:St) (a:Act),Sv .any ops.toArray U listed=true→Zf G ops kn (Ec ops (U.map fun k=>(k,true))) st K=some r→Oa C st a w β →
    (∀kn st a,K kn st=some r→Oa C st a w β→wpAny P .any ops.toArray Q f (Dh U listed) a w)→wpAny P .any ops.toArray Q (U.length+f) listed a w
  |[],listed,kn,st,a,_,h,S,hK=>by
   rw [List.length_nil,Nat.zero_add]
   exact hK kn st a h S
  |k::U,listed,kn,st,a,hB,h,S,hK=>by
   simp only [Sv,Bool.and_eq_true,decide_eq_true_eq] at hB
   obtain ⟨⟨⟨hk,hr⟩,hf⟩,hB⟩:=hB
   have hkl:k<ops.length:=by simpa using hk
   have hk0:ops[k]? =some ops[k]:=List.getElem?_eq_getElem hkl
   generalize ops[k]=o at hk0
   have hk':ops.toArray[k]? =some o:=by simpa using hk0
   rw [List.map_cons,Dl hk0] at h
   obtain ⟨v,kn',st',hy,hx,S'⟩:=O7 HB HT hN (show Ej G ops kn o true st (fun kn' s=>Zf G ops kn' (Ec ops (U.map fun k=>(k,true))) s K)=some r from h) S
   rw [List.length_cons,show U.length+1+f=(U.length+f)+1 by omega]
   exact wpAny_first hk' (Region.noSelect_spec hsel) (fun c a w h=>(hQ c _ w h).elim) _ listed a w (Region.free_spec hk' hf) (by simpa using hr) hy (B8 HB HT hN hsel hQ U _ kn' st' _ hB hx S' hK)
theorem SI (HB:Hd G) (HT:Qb P G.tab) (H:Ma P G.Γ) (hm:P.follows .mixedOrders=true) {id:Nat} {ops:Array Oper} {U:List Nat} {n:Nat} {tl:List Nat} {ks:List Nat} {t:Tr} {F:Td} {eid:Nat} {FX FR:Td} {sh:HL F.hs→Option (HL FX.hs⊕HL FR.hs)} (hB:W7 ops U n tl t=true) (hi:Ae ops.toList t=true)
    (hs:Pv (Wb t) fun p=>∀s,A8 G ops.toList U tl ks F FX FR p s=sh s):Tf P G.M G.N id ops ⟨F,eid,FX,FR,sh⟩:=fun s x hx Q hQ C a w β hN hM S=>by
  have hx:sh s=some (.inl x):=hx
  have hs:=Fy hs
  have h:∀p∈Wb t,A8 G ops.toList U tl ks F FX FR p s=some (.inl x):=fun p hp=>(hs p hp s).trans hx
  have S:Oa C (F.st s) a w β:=S
  have e:ops=ops.toList.toArray:=by simp
  show (Code.region id ops true).wp P (Ff C Q) a w
  rw [e] at hB ⊢
  generalize ops.toList=l at *
  simp only [W7,Bool.and_eq_true] at hB
  obtain ⟨⟨⟨⟨⟨⟨hsel,hho⟩,hsink⟩,hn⟩,hul⟩,htl⟩,htr⟩:=hB
  have hn:=Nat.le_of_ble_eq_true hn
  have hul:=Nat.le_of_ble_eq_true hul
  have htl:∀t∈tl,n≤t∧t<l.length:=fun t ht=>by
    have:=List.all_eq_true.1 htl t ht
    simp only [Bool.and_eq_true] at this
    exact ⟨Nat.le_of_ble_eq_true this.1,by simpa using Nat.blt_eq.mp this.2⟩
  let Q1:AQ:=fun e st2=>e=.normal∧FX.get G.M st2=some x
  have hQ1:∀c a w,Ff C Q1 (.panic c) a w→False:=fun c a w ⟨_,_,⟨h,_⟩,_⟩=>by cases h
  refine wp_mono (Q:=Ff C Q1) ?_ ?_
  rotate_left
  ·rintro e a2 w2 ⟨st2,β2,⟨rfl,hq⟩,S2⟩
   obtain ⟨β3,S3⟩:=FX.imp hq C a2 w2 β2 hM S2
   exact ⟨_,β3,hQ,S3⟩
  refine wp_region_any hm ?_
  have hlen:l.toArray.size=U.length+((l.toArray.size-U.length-tl.length)+tl.length):=by omega
  have first:∀(V:List Nat) (kn:List (Nat×Bool)) (st:St),(∀p∈Wb t,Zf G l kn (Ec l (V.map fun k=>(k,true))) st (fun kn st1=>bif Rf st1.h ks then Ud G l ks kn (Ec l p) ⟨st1.t,Ic ks st1.h⟩ st1 fun kn' st'=>Ze G l kn' (Fj l tl) st' fun st2=>(match FX.get G.M st2 with|some x=>some (Sum.inl x:HL FX.hs⊕HL FR.hs)|none=>G.bad _ 52 none st2) else G.bad _ 41 none st1)=some (.inl x)) →
      ∃y:List (Nat×Bool)×St,Zf G l kn (Ec l (V.map fun k=>(k,true))) st (fun a b=>some (a,b))=some y∧∀p∈Wb t,(bif Rf y.2.h ks then Ud G l ks y.1 (Ec l p) ⟨y.2.t,Ic ks y.2.h⟩ y.2 fun kn' st'=>Ze G l kn' (Fj l tl) st' fun st2=>(match FX.get G.M st2 with|some x=>some (Sum.inl x:HL FX.hs⊕HL FR.hs)|none=>G.bad _ 52 none st2) else G.bad _ 41 none y.2)=some (.inl x):=by
    intro V
    have bind:∀{ρ:Type} (q:List (Oper×Bool)) (kn:List (Nat×Bool)) (st:St) (K:List (Nat×Bool)→St→Option ρ),Zf G l kn q st K=(Zf G l kn q st (fun a b=>some (a,b))).bind fun y=>K y.1 y.2:=by
      intro ρ q
      induction q with
      |nil=>intro kn st K;rfl
      |cons o q ih =>
       intro kn st K
       obtain ⟨o,f⟩:=o
       exact M7 HB fun kn' s=>ih kn' s K
    intro kn st hp
    have e:=fun p=>bind (Ec l (V.map fun k=>(k,true))) kn st (fun kn st1=>bif Rf st1.h ks then Ud G l ks kn (Ec l p) ⟨st1.t,Ic ks st1.h⟩ st1 fun kn' st'=>Ze G l kn' (Fj l tl) st' fun st2=>(match FX.get G.M st2 with|some x=>some (Sum.inl x:HL FX.hs⊕HL FR.hs)|none=>G.bad _ 52 none st2) else G.bad _ 41 none st1)
    generalize Zf G l kn (Ec l (V.map fun k=>(k,true))) st (fun a b=>some (a,b))=z at e
    cases z with
    |none =>
     obtain ⟨p,hp'⟩:=List.exists_mem_of_ne_nil _ (Yf t)
     have:=hp p hp'
     rw [e] at this
     cases this
    |some y=>exact ⟨y,rfl,fun p hp'=>by have:=hp p hp';rw [e] at this;exact this⟩
  obtain ⟨y,hy,hyp⟩:=first U [] (F.st s) h
  suffices hgo:wpAny P .any l.toArray (Ff C Q1) (U.length+((l.toArray.size-U.length-tl.length)+tl.length)) (Array.replicate l.toArray.size false) a w.drew by rw [←hlen] at hgo;exact hgo
  refine B8 (K:=fun a b=>some (a,b)) (r:=y) HB HT hN hsel hQ1 U (Array.replicate l.toArray.size false) [] (F.st s) a hho hy S.drew fun kn st1 a1 hk S1=>?_
  injection hk with hk
  subst hk
  have hh:∀p∈Wb t,Rf st1.h ks=true∧Ud G l ks kn (Ec l p) ⟨st1.t,Ic ks st1.h⟩ st1 (fun kn' st'=>Ze G l kn' (Fj l tl) st' fun st2=>(match FX.get G.M st2 with|some x=>some (Sum.inl x:HL FX.hs⊕HL FR.hs)|none=>G.bad _ 52 none st2))=some (.inl x):=fun p hp=>by
    have h1:=hyp p hp
    simp only at h1
    cases hb:Rf st1.h ks with
    |false=>rw [hb] at h1;simp only [cond_false] at h1;rw [HB] at h1;cases h1
    |true=>rw [hb] at h1;exact ⟨rfl,h1⟩
  obtain ⟨p0,hp0⟩:=List.exists_mem_of_ne_nil _ (Yf t)
  have hb:=(hh p0 hp0).1
  have hl0:(Dh U (Array.replicate l.toArray.size false)).size=l.toArray.size:=by rw [X7];simp
  have inv0:Im .any l.toArray n (Dh U (Array.replicate l.toArray.size false)) (Dh U (Array.replicate l.toArray.size false)) :=
    ⟨hl0,Z7 U _ hho (fun j oj _ hl=>by rw [getD_replicate_false] at hl;cases hl),fun j h=>h,fun t _ h=>h⟩
  have hset:∀l' i,Im .any l.toArray n (Dh U (Array.replicate l.toArray.size false)) l'→i∈Region.ready .any l.toArray l'→i<n→Im .any l.toArray n (Dh U (Array.replicate l.toArray.size false)) (l'.setIfInBounds i true):=fun l' i h1 h2 h3=>h1.set h2 h3
  have hlt:∀l' i j,Im .any l.toArray n (Dh U (Array.replicate l.toArray.size false)) l'→i<n→l'.getD i true=false→j∈Region.ready .any l.toArray l'→j<n:=fun l' i j h1 h2 h3 h4=>by
    rcases Nat.lt_or_ge j n with h|h
    ·exact h
    ·exact absurd h4 (h1.waits hsink hl0 hn _ i rfl h2 h3 j h)
  let Q2:AQ:=Q1
  have evL_ok1:∀{kn st'},Ze G l kn (Fj l tl) st' (fun st2=>(match FX.get G.M st2 with|some x=>some (Sum.inl x:HL FX.hs⊕HL FR.hs)|none=>G.bad _ 52 none st2))=some (.inl x)→RQ P G.M G.N l.toArray Q1 (Fj l tl) st':=fun {kn st'} hk =>
    Kv HB HT H (Q:=Q1) (fun st2 h2=>by
      split at h2
      ·rename_i y hy
       injection h2 with h2
       injection h2 with h2
       subst h2
       exact ⟨rfl,hy⟩
      ·rw [HB] at h2;cases h2) _ kn st' hk
  have hW:=RI (P:=P) (md:=.any) (ops:=l.toArray) (Q:=Ff C Q1) (S:=fun w'=>Gc w.drew w' (Da st1.h β) (Ic ks st1.h) β) (T:=fun a' w'=>wpList P l.toArray (Ff C Q1) (Fj l tl) a' w') hset hlt hsel (fun t ht=>(htl t ht).1) (l.toArray.size-U.length-tl.length) t (Dh U (Array.replicate l.toArray.size false)) a1 w.drew inv0 htr (Gc.refl _ _ _ _)
    (Yn HB HT H hN (fun kn st' a' w' β' hK S'=>evL_ok1 hK C a' w' β' hN hM S') t kn ⟨st1.t,Ic ks st1.h⟩ st1 a1 w.drew β hi (fun p hp=>(hh p hp).2) rfl (S1.kill ks) S1 (mD S1 hb))
  exact Gx Nc.le (fun listed a' w' hL=>QR tl listed a' w' hL.1 (fun t ht=>(htl t ht).2) hL.2) _ _ _ _ hW
end
end
section
open Go.RowKit
theorem Dd {P:Program} {e:TypeId} {z:Value} {size bytes:Nat} (h:(P.info? e).map (fun i=>(i.zero,i.size,i.bytes))=some (some z,size,bytes)):∃i,P.info? e=some i∧i.zero=some z∧i.size=size∧i.bytes=bytes:=by
  obtain ⟨i,h1,h2⟩:=Option.map_eq_some_iff.1 h
  simp only [Prod.mk.injEq] at h2
  exact ⟨i,h1,h2.1,h2.2.1,h2.2.2⟩
theorem mE:Nb Tryz.prog 2 ⟨false,1,[],none,some [.int .i64 0],0,some .i64,[]⟩:=⟨Tryz.sizeOf2,Tryz.isAgg2,(fun _=>rfl),(fun _ _ _ h=>by simp at h),(fun _ _ _ h=>by cases h),(fun _ _ _ _ _ h=>by cases h),(fun zs h=>by cases h;exact ⟨_,Tryz.zeroValue2,rfl,by simp [Value.oneCell']⟩),(fun _ _ h=>by cases h),(fun h=>by cases h),(fun _ h=>by cases h;exact Tryz.runUnderlying2),(fun h=>by cases h),(fun h=>by cases h),(fun h=>by cases h),(fun _ _ _ _ _ h=>by simp at h)⟩
theorem mF:Nb Tryz.prog 3 ⟨false,1,[],none,some [.int .i64 0],0,some .i64,[]⟩:=⟨Tryz.sizeOf3,Tryz.isAgg3,(fun _=>rfl),(fun _ _ _ h=>by simp at h),(fun _ _ _ h=>by cases h),(fun _ _ _ _ _ h=>by cases h),(fun zs h=>by cases h;exact ⟨_,Tryz.zeroValue3,rfl,by simp [Value.oneCell']⟩),(fun _ _ h=>by cases h),(fun h=>by cases h),(fun _ h=>by cases h;exact Tryz.runUnderlying3),(fun h=>by cases h),(fun h=>by cases h),(fun h=>by cases h),(fun _ _ _ _ _ h=>by simp at h)⟩
theorem mG:Nb Tryz.prog 4 ⟨false,1,[],none,some [.bool false],1,none,[]⟩:=⟨Tryz.sizeOf4,Tryz.isAgg4,(fun _=>rfl),(fun _ _ _ h=>by simp at h),(fun _ _ _ h=>by cases h),(fun _ _ _ _ _ h=>by cases h),(fun zs h=>by cases h;exact ⟨_,Tryz.zeroValue4,rfl,by simp [Value.oneCell']⟩),(fun _ _ h=>by cases h),(fun _=>Tryz.underlying4),(fun _ h=>by cases h),(fun h=>by cases h),(fun h=>by cases h),(fun h=>by cases h),(fun _ _ _ _ _ h=>by simp at h)⟩
theorem mH:Nb Tryz.prog 5 ⟨false,1,[],none,some [.int .u8 0],0,some .u8,[]⟩:=⟨Tryz.sizeOf5,Tryz.isAgg5,(fun _=>rfl),(fun _ _ _ h=>by simp at h),(fun _ _ _ h=>by cases h),(fun _ _ _ _ _ h=>by cases h),(fun zs h=>by cases h;exact ⟨_,Tryz.zeroValue5,rfl,by simp [Value.oneCell']⟩),(fun _ _ h=>by cases h),(fun h=>by cases h),(fun _ h=>by cases h;exact Tryz.runUnderlying5),(fun h=>by cases h),(fun h=>by cases h),(fun h=>by cases h),(fun _ _ _ _ _ h=>by simp at h)⟩
theorem mI:Nb Tryz.prog 9 ⟨false,1,[],none,some [.string ⟨#[]⟩],2,none,[]⟩:=⟨Tryz.sizeOf9,Tryz.isAgg9,(fun _=>rfl),(fun _ _ _ h=>by simp at h),(fun _ _ _ h=>by cases h),(fun _ _ _ _ _ h=>by cases h),(fun zs h=>by cases h;exact ⟨_,Tryz.zeroValue9,rfl,by simp [Value.oneCell']⟩),(fun _ _ h=>by cases h),(fun h=>by cases h),(fun _ h=>by cases h),(fun _=>Tryz.underlying9),(fun h=>by cases h),(fun h=>by cases h),(fun _ _ _ _ _ h=>by simp at h)⟩
theorem mJ:Nb Tryz.prog 21 ⟨false,1,[],none,some [.int .i32 0],0,some .i32,[]⟩:=⟨Tryz.sizeOf21,Tryz.isAgg21,(fun _=>rfl),(fun _ _ _ h=>by simp at h),(fun _ _ _ h=>by cases h),(fun _ _ _ _ _ h=>by cases h),(fun zs h=>by cases h;exact ⟨_,Tryz.zeroValue21,rfl,by simp [Value.oneCell']⟩),(fun _ _ h=>by cases h),(fun h=>by cases h),(fun _ h=>by cases h;exact Tryz.runUnderlying21),(fun h=>by cases h),(fun h=>by cases h),(fun h=>by cases h),(fun _ _ _ _ _ h=>by simp at h)⟩
theorem C8:(Tryz.prog.info? 139).map (fun i=>(i.zero,i.size,i.bytes))=some (some (.agg #[.int .i64 0,.int .i64 0,.int .i64 0]),3,24):=by kernel_rfl
theorem mK:Nb Tryz.prog 22 ⟨false,1,[],some (139,.lk,24),some [.slice none 0 0],0,none,[]⟩:=⟨Tryz.sizeOf22,Tryz.isAgg22,(fun _=>rfl),(fun _ _ _ h=>by simp at h),(fun _ _ _ h=>by cases h;exact ⟨Tryz.underlying22,by obtain ⟨i,h1,h2,h3,h4⟩:=Dd C8;exact ⟨i,_,h1,h2,h3,h4,rfl⟩,by decide⟩),(fun _ _ _ inf z h hi hz=>by cases h;obtain ⟨i,h1,h2,h3,h4⟩:=Dd C8;rw [h1] at hi;cases hi;rw [h2] at hz;cases hz;rfl),(fun zs h=>by cases h;exact ⟨_,Tryz.zeroValue22,rfl,by simp [Value.oneCell']⟩),(fun _ _ h=>by cases h),(fun h=>by cases h),(fun _ h=>by cases h),(fun h=>by cases h),(fun h=>by cases h),(fun h=>by cases h),(fun _ _ _ _ _ h=>by simp at h)⟩
theorem mL:Nb Tryz.prog 23 ⟨true,2,[(0,1),(1,1)],none,some [.int .i64 0,.slice none 0 0],0,none,[false,false]⟩:=⟨Tryz.sizeOf23,Tryz.isAgg23,(fun h=>by cases h),(fun j off fs h=>match j,h with|0,h=>by injection h with h;injection h with h1 h2;subst h1 h2;exact ⟨_,_,Tryz.runUnderlying23,rfl,rfl,Tryz.sizeOf3,by decide⟩|1,h=>by injection h with h;injection h with h1 h2;subst h1 h2;exact ⟨_,_,Tryz.runUnderlying23,rfl,rfl,Tryz.sizeOf22,by decide⟩|_+2,h=>by simp at h),(fun _ _ _ h=>by cases h),(fun _ _ _ _ _ h=>by cases h),(fun zs h=>by cases h;exact ⟨_,Tryz.zeroValue23,rfl,by simp [Value.oneCell']⟩),(fun _ _ _=>⟨_,Tryz.runUnderlying23,fun w=>by simp [Tryz.sizeOf22,Tryz.sizeOf3]⟩),(fun h=>by cases h),(fun _ h=>by cases h),(fun h=>by cases h),(fun h=>by cases h),(fun h=>by cases h),(fun j off fs b h h2=>match j,h,h2 with|0,h,h2=>by injection h with h;injection h with h1 h3;subst h1 h3;injection h2 with h2;subst h2;exact ⟨_,_,Tryz.runUnderlying23,rfl,rfl,Tryz.isAgg3,Tryz.sizeOf3⟩|1,h,h2=>by injection h with h;injection h with h1 h3;subst h1 h3;injection h2 with h2;subst h2;exact ⟨_,_,Tryz.runUnderlying23,rfl,rfl,Tryz.isAgg22,Tryz.sizeOf22⟩|_+2,h,_=>by simp at h)⟩
theorem mM:Nb Tryz.prog 24 ⟨true,2,[(0,1),(1,1)],none,some [.int .i64 0,.slice none 0 0],0,none,[false,false]⟩:=⟨Tryz.sizeOf24,Tryz.isAgg24,(fun h=>by cases h),(fun j off fs h=>match j,h with|0,h=>by injection h with h;injection h with h1 h2;subst h1 h2;exact ⟨_,_,Tryz.runUnderlying24,rfl,rfl,Tryz.sizeOf3,by decide⟩|1,h=>by injection h with h;injection h with h1 h2;subst h1 h2;exact ⟨_,_,Tryz.runUnderlying24,rfl,rfl,Tryz.sizeOf22,by decide⟩|_+2,h=>by simp at h),(fun _ _ _ h=>by cases h),(fun _ _ _ _ _ h=>by cases h),(fun zs h=>by cases h;exact ⟨_,Tryz.zeroValue24,rfl,by simp [Value.oneCell']⟩),(fun _ _ _=>⟨_,Tryz.runUnderlying24,fun w=>by simp [Tryz.sizeOf22,Tryz.sizeOf3]⟩),(fun h=>by cases h),(fun _ h=>by cases h),(fun h=>by cases h),(fun h=>by cases h),(fun h=>by cases h),(fun j off fs b h h2=>match j,h,h2 with|0,h,h2=>by injection h with h;injection h with h1 h3;subst h1 h3;injection h2 with h2;subst h2;exact ⟨_,_,Tryz.runUnderlying24,rfl,rfl,Tryz.isAgg3,Tryz.sizeOf3⟩|1,h,h2=>by injection h with h;injection h with h1 h3;subst h1 h3;injection h2 with h2;subst h2;exact ⟨_,_,Tryz.runUnderlying24,rfl,rfl,Tryz.isAgg22,Tryz.sizeOf22⟩|_+2,h,_=>by simp at h)⟩
theorem TR:(Tryz.prog.info? 4).map (fun i=>(i.zero,i.size,i.bytes))=some (some (.bool false),1,1):=by kernel_rfl
theorem mN:Nb Tryz.prog 25 ⟨false,1,[],some (4,.bool,1),some [.slice none 0 0],0,none,[]⟩:=⟨Tryz.sizeOf25,Tryz.isAgg25,(fun _=>rfl),(fun _ _ _ h=>by simp at h),(fun _ _ _ h=>by cases h;exact ⟨Tryz.underlying25,by obtain ⟨i,h1,h2,h3,h4⟩:=Dd TR;exact ⟨i,_,h1,h2,h3,h4,rfl⟩,by decide⟩),(fun _ _ _ inf z h hi hz=>by cases h;obtain ⟨i,h1,h2,h3,h4⟩:=Dd TR;rw [h1] at hi;cases hi;rw [h2] at hz;cases hz;rfl),(fun zs h=>by cases h;exact ⟨_,Tryz.zeroValue25,rfl,by simp [Value.oneCell']⟩),(fun _ _ h=>by cases h),(fun h=>by cases h),(fun _ h=>by cases h),(fun h=>by cases h),(fun h=>by cases h),(fun h=>by cases h),(fun _ _ _ _ _ h=>by simp at h)⟩
theorem VR:(Tryz.prog.info? 3).map (fun i=>(i.zero,i.size,i.bytes))=some (some (.int .i64 0),1,8):=by kernel_rfl
theorem mO:Nb Tryz.prog 26 ⟨false,1,[],some (3,.int,8),some [.slice none 0 0],0,none,[]⟩:=⟨Tryz.sizeOf26,Tryz.isAgg26,(fun _=>rfl),(fun _ _ _ h=>by simp at h),(fun _ _ _ h=>by cases h;exact ⟨Tryz.underlying26,by obtain ⟨i,h1,h2,h3,h4⟩:=Dd VR;exact ⟨i,_,h1,h2,h3,h4,rfl⟩,by decide⟩),(fun _ _ _ inf z h hi hz=>by cases h;obtain ⟨i,h1,h2,h3,h4⟩:=Dd VR;rw [h1] at hi;cases hi;rw [h2] at hz;cases hz;rfl),(fun zs h=>by cases h;exact ⟨_,Tryz.zeroValue26,rfl,by simp [Value.oneCell']⟩),(fun _ _ h=>by cases h),(fun h=>by cases h),(fun _ h=>by cases h),(fun h=>by cases h),(fun h=>by cases h),(fun h=>by cases h),(fun _ _ _ _ _ h=>by simp at h)⟩
theorem D8:(Tryz.prog.info? 96).map (fun i=>(i.zero,i.size,i.bytes))=some (some (.slice none 0 0),1,24):=by kernel_rfl
theorem mP:Nb Tryz.prog 27 ⟨false,1,[],some (96,.db,24),some [.slice none 0 0],0,none,[]⟩:=⟨Tryz.sizeOf27,Tryz.isAgg27,(fun _=>rfl),(fun _ _ _ h=>by simp at h),(fun _ _ _ h=>by cases h;exact ⟨Tryz.underlying27,by obtain ⟨i,h1,h2,h3,h4⟩:=Dd D8;exact ⟨i,_,h1,h2,h3,h4,rfl⟩,by decide⟩),(fun _ _ _ inf z h hi hz=>by cases h;obtain ⟨i,h1,h2,h3,h4⟩:=Dd D8;rw [h1] at hi;cases hi;rw [h2] at hz;cases hz;rfl),(fun zs h=>by cases h;exact ⟨_,Tryz.zeroValue27,rfl,by simp [Value.oneCell']⟩),(fun _ _ h=>by cases h),(fun h=>by cases h),(fun _ h=>by cases h),(fun h=>by cases h),(fun h=>by cases h),(fun h=>by cases h),(fun _ _ _ _ _ h=>by simp at h)⟩
theorem E8:(Tryz.prog.info? 102).map (fun i=>(i.zero,i.size,i.bytes))=some (some (.agg #[.int .i64 0,.int .i64 0,.int .i64 0,.slice none 0 0]),4,48):=by kernel_rfl
theorem mQ:Nb Tryz.prog 28 ⟨false,1,[],some (102,.pk,48),some [.slice none 0 0],0,none,[]⟩:=⟨Tryz.sizeOf28,Tryz.isAgg28,(fun _=>rfl),(fun _ _ _ h=>by simp at h),(fun _ _ _ h=>by cases h;exact ⟨Tryz.underlying28,by obtain ⟨i,h1,h2,h3,h4⟩:=Dd E8;exact ⟨i,_,h1,h2,h3,h4,rfl⟩,by decide⟩),(fun _ _ _ inf z h hi hz=>by cases h;obtain ⟨i,h1,h2,h3,h4⟩:=Dd E8;rw [h1] at hi;cases hi;rw [h2] at hz;cases hz;rfl),(fun zs h=>by cases h;exact ⟨_,Tryz.zeroValue28,rfl,by simp [Value.oneCell']⟩),(fun _ _ h=>by cases h),(fun h=>by cases h),(fun _ h=>by cases h),(fun h=>by cases h),(fun h=>by cases h),(fun h=>by cases h),(fun _ _ _ _ _ h=>by simp at h)⟩
theorem mR:Nb Tryz.prog 29 ⟨true,6,[(0,2),(2,1),(3,1),(4,1),(5,1)],none,some [.int .i64 0,.slice none 0 0,.slice none 0 0,.slice none 0 0,.slice none 0 0,.slice none 0 0],0,none,[true,false,false,false,false]⟩:=⟨Tryz.sizeOf29,Tryz.isAgg29,(fun h=>by cases h),(fun j off fs h=>match j,h with|0,h=>by injection h with h;injection h with h1 h2;subst h1 h2;exact ⟨_,_,Tryz.runUnderlying29,rfl,rfl,Tryz.sizeOf24,by decide⟩|1,h=>by injection h with h;injection h with h1 h2;subst h1 h2;exact ⟨_,_,Tryz.runUnderlying29,rfl,rfl,Tryz.sizeOf25,by decide⟩|2,h=>by injection h with h;injection h with h1 h2;subst h1 h2;exact ⟨_,_,Tryz.runUnderlying29,rfl,rfl,Tryz.sizeOf26,by decide⟩|3,h=>by injection h with h;injection h with h1 h2;subst h1 h2;exact ⟨_,_,Tryz.runUnderlying29,rfl,rfl,Tryz.sizeOf27,by decide⟩|4,h=>by injection h with h;injection h with h1 h2;subst h1 h2;exact ⟨_,_,Tryz.runUnderlying29,rfl,rfl,Tryz.sizeOf28,by decide⟩|_+5,h=>by simp at h),(fun _ _ _ h=>by cases h),(fun _ _ _ _ _ h=>by cases h),(fun zs h=>by cases h;exact ⟨_,Tryz.zeroValue29,rfl,by simp [Value.oneCell']⟩),(fun _ _ _=>⟨_,Tryz.runUnderlying29,fun w=>by simp [Tryz.sizeOf24,Tryz.sizeOf25,Tryz.sizeOf26,Tryz.sizeOf27,Tryz.sizeOf28]⟩),(fun h=>by cases h),(fun _ h=>by cases h),(fun h=>by cases h),(fun h=>by cases h),(fun h=>by cases h),(fun j off fs b h h2=>match j,h,h2 with|0,h,h2=>by injection h with h;injection h with h1 h3;subst h1 h3;injection h2 with h2;subst h2;exact ⟨_,_,Tryz.runUnderlying29,rfl,rfl,Tryz.isAgg24,Tryz.sizeOf24⟩|1,h,h2=>by injection h with h;injection h with h1 h3;subst h1 h3;injection h2 with h2;subst h2;exact ⟨_,_,Tryz.runUnderlying29,rfl,rfl,Tryz.isAgg25,Tryz.sizeOf25⟩|2,h,h2=>by injection h with h;injection h with h1 h3;subst h1 h3;injection h2 with h2;subst h2;exact ⟨_,_,Tryz.runUnderlying29,rfl,rfl,Tryz.isAgg26,Tryz.sizeOf26⟩|3,h,h2=>by injection h with h;injection h with h1 h3;subst h1 h3;injection h2 with h2;subst h2;exact ⟨_,_,Tryz.runUnderlying29,rfl,rfl,Tryz.isAgg27,Tryz.sizeOf27⟩|4,h,h2=>by injection h with h;injection h with h1 h3;subst h1 h3;injection h2 with h2;subst h2;exact ⟨_,_,Tryz.runUnderlying29,rfl,rfl,Tryz.isAgg28,Tryz.sizeOf28⟩|_+5,h,_=>by simp at h)⟩
theorem mS:Nb Tryz.prog 30 ⟨true,6,[(0,2),(2,1),(3,1),(4,1),(5,1)],none,some [.int .i64 0,.slice none 0 0,.slice none 0 0,.slice none 0 0,.slice none 0 0,.slice none 0 0],0,none,[true,false,false,false,false]⟩:=⟨Tryz.sizeOf30,Tryz.isAgg30,(fun h=>by cases h),(fun j off fs h=>match j,h with|0,h=>by injection h with h;injection h with h1 h2;subst h1 h2;exact ⟨_,_,Tryz.runUnderlying30,rfl,rfl,Tryz.sizeOf24,by decide⟩|1,h=>by injection h with h;injection h with h1 h2;subst h1 h2;exact ⟨_,_,Tryz.runUnderlying30,rfl,rfl,Tryz.sizeOf25,by decide⟩|2,h=>by injection h with h;injection h with h1 h2;subst h1 h2;exact ⟨_,_,Tryz.runUnderlying30,rfl,rfl,Tryz.sizeOf26,by decide⟩|3,h=>by injection h with h;injection h with h1 h2;subst h1 h2;exact ⟨_,_,Tryz.runUnderlying30,rfl,rfl,Tryz.sizeOf27,by decide⟩|4,h=>by injection h with h;injection h with h1 h2;subst h1 h2;exact ⟨_,_,Tryz.runUnderlying30,rfl,rfl,Tryz.sizeOf28,by decide⟩|_+5,h=>by simp at h),(fun _ _ _ h=>by cases h),(fun _ _ _ _ _ h=>by cases h),(fun zs h=>by cases h;exact ⟨_,Tryz.zeroValue30,rfl,by simp [Value.oneCell']⟩),(fun _ _ _=>⟨_,Tryz.runUnderlying30,fun w=>by simp [Tryz.sizeOf24,Tryz.sizeOf25,Tryz.sizeOf26,Tryz.sizeOf27,Tryz.sizeOf28]⟩),(fun h=>by cases h),(fun _ h=>by cases h),(fun h=>by cases h),(fun h=>by cases h),(fun h=>by cases h),(fun j off fs b h h2=>match j,h,h2 with|0,h,h2=>by injection h with h;injection h with h1 h3;subst h1 h3;injection h2 with h2;subst h2;exact ⟨_,_,Tryz.runUnderlying30,rfl,rfl,Tryz.isAgg24,Tryz.sizeOf24⟩|1,h,h2=>by injection h with h;injection h with h1 h3;subst h1 h3;injection h2 with h2;subst h2;exact ⟨_,_,Tryz.runUnderlying30,rfl,rfl,Tryz.isAgg25,Tryz.sizeOf25⟩|2,h,h2=>by injection h with h;injection h with h1 h3;subst h1 h3;injection h2 with h2;subst h2;exact ⟨_,_,Tryz.runUnderlying30,rfl,rfl,Tryz.isAgg26,Tryz.sizeOf26⟩|3,h,h2=>by injection h with h;injection h with h1 h3;subst h1 h3;injection h2 with h2;subst h2;exact ⟨_,_,Tryz.runUnderlying30,rfl,rfl,Tryz.isAgg27,Tryz.sizeOf27⟩|4,h,h2=>by injection h with h;injection h with h1 h3;subst h1 h3;injection h2 with h2;subst h2;exact ⟨_,_,Tryz.runUnderlying30,rfl,rfl,Tryz.isAgg28,Tryz.sizeOf28⟩|_+5,h,_=>by simp at h)⟩
theorem F8:(Tryz.prog.info? 114).map (fun i=>(i.zero,i.size,i.bytes))=some (some (.agg #[.int .i64 0,.int .i64 0,.int .i64 0]),3,24):=by kernel_rfl
theorem mT:Nb Tryz.prog 32 ⟨false,1,[],some (114,.lk,24),some [.slice none 0 0],0,none,[]⟩:=⟨Tryz.sizeOf32,Tryz.isAgg32,(fun _=>rfl),(fun _ _ _ h=>by simp at h),(fun _ _ _ h=>by cases h;exact ⟨Tryz.underlying32,by obtain ⟨i,h1,h2,h3,h4⟩:=Dd F8;exact ⟨i,_,h1,h2,h3,h4,rfl⟩,by decide⟩),(fun _ _ _ inf z h hi hz=>by cases h;obtain ⟨i,h1,h2,h3,h4⟩:=Dd F8;rw [h1] at hi;cases hi;rw [h2] at hz;cases hz;rfl),(fun zs h=>by cases h;exact ⟨_,Tryz.zeroValue32,rfl,by simp [Value.oneCell']⟩),(fun _ _ h=>by cases h),(fun h=>by cases h),(fun _ h=>by cases h),(fun h=>by cases h),(fun h=>by cases h),(fun h=>by cases h),(fun _ _ _ _ _ h=>by simp at h)⟩
theorem mU:Nb Tryz.prog 33 ⟨true,2,[(0,1),(1,1)],none,some [.int .i64 0,.slice none 0 0],0,none,[false,false]⟩:=⟨Tryz.sizeOf33,Tryz.isAgg33,(fun h=>by cases h),(fun j off fs h=>match j,h with|0,h=>by injection h with h;injection h with h1 h2;subst h1 h2;exact ⟨_,_,Tryz.runUnderlying33,rfl,rfl,Tryz.sizeOf3,by decide⟩|1,h=>by injection h with h;injection h with h1 h2;subst h1 h2;exact ⟨_,_,Tryz.runUnderlying33,rfl,rfl,Tryz.sizeOf32,by decide⟩|_+2,h=>by simp at h),(fun _ _ _ h=>by cases h),(fun _ _ _ _ _ h=>by cases h),(fun zs h=>by cases h;exact ⟨_,Tryz.zeroValue33,rfl,by simp [Value.oneCell']⟩),(fun _ _ _=>⟨_,Tryz.runUnderlying33,fun w=>by simp [Tryz.sizeOf3,Tryz.sizeOf32]⟩),(fun h=>by cases h),(fun _ h=>by cases h),(fun h=>by cases h),(fun h=>by cases h),(fun h=>by cases h),(fun j off fs b h h2=>match j,h,h2 with|0,h,h2=>by injection h with h;injection h with h1 h3;subst h1 h3;injection h2 with h2;subst h2;exact ⟨_,_,Tryz.runUnderlying33,rfl,rfl,Tryz.isAgg3,Tryz.sizeOf3⟩|1,h,h2=>by injection h with h;injection h with h1 h3;subst h1 h3;injection h2 with h2;subst h2;exact ⟨_,_,Tryz.runUnderlying33,rfl,rfl,Tryz.isAgg32,Tryz.sizeOf32⟩|_+2,h,_=>by simp at h)⟩
theorem mV:Nb Tryz.prog 34 ⟨true,2,[(0,1),(1,1)],none,some [.int .i64 0,.slice none 0 0],0,none,[false,false]⟩:=⟨Tryz.sizeOf34,Tryz.isAgg34,(fun h=>by cases h),(fun j off fs h=>match j,h with|0,h=>by injection h with h;injection h with h1 h2;subst h1 h2;exact ⟨_,_,Tryz.runUnderlying34,rfl,rfl,Tryz.sizeOf3,by decide⟩|1,h=>by injection h with h;injection h with h1 h2;subst h1 h2;exact ⟨_,_,Tryz.runUnderlying34,rfl,rfl,Tryz.sizeOf32,by decide⟩|_+2,h=>by simp at h),(fun _ _ _ h=>by cases h),(fun _ _ _ _ _ h=>by cases h),(fun zs h=>by cases h;exact ⟨_,Tryz.zeroValue34,rfl,by simp [Value.oneCell']⟩),(fun _ _ _=>⟨_,Tryz.runUnderlying34,fun w=>by simp [Tryz.sizeOf3,Tryz.sizeOf32]⟩),(fun h=>by cases h),(fun _ h=>by cases h),(fun h=>by cases h),(fun h=>by cases h),(fun h=>by cases h),(fun j off fs b h h2=>match j,h,h2 with|0,h,h2=>by injection h with h;injection h with h1 h3;subst h1 h3;injection h2 with h2;subst h2;exact ⟨_,_,Tryz.runUnderlying34,rfl,rfl,Tryz.isAgg3,Tryz.sizeOf3⟩|1,h,h2=>by injection h with h;injection h with h1 h3;subst h1 h3;injection h2 with h2;subst h2;exact ⟨_,_,Tryz.runUnderlying34,rfl,rfl,Tryz.isAgg32,Tryz.sizeOf32⟩|_+2,h,_=>by simp at h)⟩
theorem G8:(Tryz.prog.info? 86).map (fun i=>(i.zero,i.size,i.bytes))=some (some (.slice none 0 0),1,24):=by kernel_rfl
theorem mW:Nb Tryz.prog 36 ⟨false,1,[],some (86,.db,24),some [.slice none 0 0],0,none,[]⟩:=⟨Tryz.sizeOf36,Tryz.isAgg36,(fun _=>rfl),(fun _ _ _ h=>by simp at h),(fun _ _ _ h=>by cases h;exact ⟨Tryz.underlying36,by obtain ⟨i,h1,h2,h3,h4⟩:=Dd G8;exact ⟨i,_,h1,h2,h3,h4,rfl⟩,by decide⟩),(fun _ _ _ inf z h hi hz=>by cases h;obtain ⟨i,h1,h2,h3,h4⟩:=Dd G8;rw [h1] at hi;cases hi;rw [h2] at hz;cases hz;rfl),(fun zs h=>by cases h;exact ⟨_,Tryz.zeroValue36,rfl,by simp [Value.oneCell']⟩),(fun _ _ h=>by cases h),(fun h=>by cases h),(fun _ h=>by cases h),(fun h=>by cases h),(fun h=>by cases h),(fun h=>by cases h),(fun _ _ _ _ _ h=>by simp at h)⟩
theorem WR:(Tryz.prog.info? 112).map (fun i=>(i.zero,i.size,i.bytes))=some (some (.agg #[.int .i64 0,.int .i64 0,.int .i64 0,.slice none 0 0]),4,48):=by kernel_rfl
theorem mX:Nb Tryz.prog 37 ⟨false,1,[],some (112,.pk,48),some [.slice none 0 0],0,none,[]⟩:=⟨Tryz.sizeOf37,Tryz.isAgg37,(fun _=>rfl),(fun _ _ _ h=>by simp at h),(fun _ _ _ h=>by cases h;exact ⟨Tryz.underlying37,by obtain ⟨i,h1,h2,h3,h4⟩:=Dd WR;exact ⟨i,_,h1,h2,h3,h4,rfl⟩,by decide⟩),(fun _ _ _ inf z h hi hz=>by cases h;obtain ⟨i,h1,h2,h3,h4⟩:=Dd WR;rw [h1] at hi;cases hi;rw [h2] at hz;cases hz;rfl),(fun zs h=>by cases h;exact ⟨_,Tryz.zeroValue37,rfl,by simp [Value.oneCell']⟩),(fun _ _ h=>by cases h),(fun h=>by cases h),(fun _ h=>by cases h),(fun h=>by cases h),(fun h=>by cases h),(fun h=>by cases h),(fun _ _ _ _ _ h=>by simp at h)⟩
theorem mY:Nb Tryz.prog 38 ⟨true,6,[(0,2),(2,1),(3,1),(4,1),(5,1)],none,some [.int .i64 0,.slice none 0 0,.slice none 0 0,.slice none 0 0,.slice none 0 0,.slice none 0 0],0,none,[true,false,false,false,false]⟩:=⟨Tryz.sizeOf38,Tryz.isAgg38,(fun h=>by cases h),(fun j off fs h=>match j,h with|0,h=>by injection h with h;injection h with h1 h2;subst h1 h2;exact ⟨_,_,Tryz.runUnderlying38,rfl,rfl,Tryz.sizeOf34,by decide⟩|1,h=>by injection h with h;injection h with h1 h2;subst h1 h2;exact ⟨_,_,Tryz.runUnderlying38,rfl,rfl,Tryz.sizeOf25,by decide⟩|2,h=>by injection h with h;injection h with h1 h2;subst h1 h2;exact ⟨_,_,Tryz.runUnderlying38,rfl,rfl,Tryz.sizeOf26,by decide⟩|3,h=>by injection h with h;injection h with h1 h2;subst h1 h2;exact ⟨_,_,Tryz.runUnderlying38,rfl,rfl,Tryz.sizeOf36,by decide⟩|4,h=>by injection h with h;injection h with h1 h2;subst h1 h2;exact ⟨_,_,Tryz.runUnderlying38,rfl,rfl,Tryz.sizeOf37,by decide⟩|_+5,h=>by simp at h),(fun _ _ _ h=>by cases h),(fun _ _ _ _ _ h=>by cases h),(fun zs h=>by cases h;exact ⟨_,Tryz.zeroValue38,rfl,by simp [Value.oneCell']⟩),(fun _ _ _=>⟨_,Tryz.runUnderlying38,fun w=>by simp [Tryz.sizeOf25,Tryz.sizeOf26,Tryz.sizeOf34,Tryz.sizeOf36,Tryz.sizeOf37]⟩),(fun h=>by cases h),(fun _ h=>by cases h),(fun h=>by cases h),(fun h=>by cases h),(fun h=>by cases h),(fun j off fs b h h2=>match j,h,h2 with|0,h,h2=>by injection h with h;injection h with h1 h3;subst h1 h3;injection h2 with h2;subst h2;exact ⟨_,_,Tryz.runUnderlying38,rfl,rfl,Tryz.isAgg34,Tryz.sizeOf34⟩|1,h,h2=>by injection h with h;injection h with h1 h3;subst h1 h3;injection h2 with h2;subst h2;exact ⟨_,_,Tryz.runUnderlying38,rfl,rfl,Tryz.isAgg25,Tryz.sizeOf25⟩|2,h,h2=>by injection h with h;injection h with h1 h3;subst h1 h3;injection h2 with h2;subst h2;exact ⟨_,_,Tryz.runUnderlying38,rfl,rfl,Tryz.isAgg26,Tryz.sizeOf26⟩|3,h,h2=>by injection h with h;injection h with h1 h3;subst h1 h3;injection h2 with h2;subst h2;exact ⟨_,_,Tryz.runUnderlying38,rfl,rfl,Tryz.isAgg36,Tryz.sizeOf36⟩|4,h,h2=>by injection h with h;injection h with h1 h3;subst h1 h3;injection h2 with h2;subst h2;exact ⟨_,_,Tryz.runUnderlying38,rfl,rfl,Tryz.isAgg37,Tryz.sizeOf37⟩|_+5,h,_=>by simp at h)⟩
theorem mZ:Nb Tryz.prog 39 ⟨true,6,[(0,2),(2,1),(3,1),(4,1),(5,1)],none,some [.int .i64 0,.slice none 0 0,.slice none 0 0,.slice none 0 0,.slice none 0 0,.slice none 0 0],0,none,[true,false,false,false,false]⟩:=⟨Tryz.sizeOf39,Tryz.isAgg39,(fun h=>by cases h),(fun j off fs h=>match j,h with|0,h=>by injection h with h;injection h with h1 h2;subst h1 h2;exact ⟨_,_,Tryz.runUnderlying39,rfl,rfl,Tryz.sizeOf34,by decide⟩|1,h=>by injection h with h;injection h with h1 h2;subst h1 h2;exact ⟨_,_,Tryz.runUnderlying39,rfl,rfl,Tryz.sizeOf25,by decide⟩|2,h=>by injection h with h;injection h with h1 h2;subst h1 h2;exact ⟨_,_,Tryz.runUnderlying39,rfl,rfl,Tryz.sizeOf26,by decide⟩|3,h=>by injection h with h;injection h with h1 h2;subst h1 h2;exact ⟨_,_,Tryz.runUnderlying39,rfl,rfl,Tryz.sizeOf36,by decide⟩|4,h=>by injection h with h;injection h with h1 h2;subst h1 h2;exact ⟨_,_,Tryz.runUnderlying39,rfl,rfl,Tryz.sizeOf37,by decide⟩|_+5,h=>by simp at h),(fun _ _ _ h=>by cases h),(fun _ _ _ _ _ h=>by cases h),(fun zs h=>by cases h;exact ⟨_,Tryz.zeroValue39,rfl,by simp [Value.oneCell']⟩),(fun _ _ _=>⟨_,Tryz.runUnderlying39,fun w=>by simp [Tryz.sizeOf25,Tryz.sizeOf26,Tryz.sizeOf34,Tryz.sizeOf36,Tryz.sizeOf37]⟩),(fun h=>by cases h),(fun _ h=>by cases h),(fun h=>by cases h),(fun h=>by cases h),(fun h=>by cases h),(fun j off fs b h h2=>match j,h,h2 with|0,h,h2=>by injection h with h;injection h with h1 h3;subst h1 h3;injection h2 with h2;subst h2;exact ⟨_,_,Tryz.runUnderlying39,rfl,rfl,Tryz.isAgg34,Tryz.sizeOf34⟩|1,h,h2=>by injection h with h;injection h with h1 h3;subst h1 h3;injection h2 with h2;subst h2;exact ⟨_,_,Tryz.runUnderlying39,rfl,rfl,Tryz.isAgg25,Tryz.sizeOf25⟩|2,h,h2=>by injection h with h;injection h with h1 h3;subst h1 h3;injection h2 with h2;subst h2;exact ⟨_,_,Tryz.runUnderlying39,rfl,rfl,Tryz.isAgg26,Tryz.sizeOf26⟩|3,h,h2=>by injection h with h;injection h with h1 h3;subst h1 h3;injection h2 with h2;subst h2;exact ⟨_,_,Tryz.runUnderlying39,rfl,rfl,Tryz.isAgg36,Tryz.sizeOf36⟩|4,h,h2=>by injection h with h;injection h with h1 h3;subst h1 h3;injection h2 with h2;subst h2;exact ⟨_,_,Tryz.runUnderlying39,rfl,rfl,Tryz.isAgg37,Tryz.sizeOf37⟩|_+5,h,_=>by simp at h)⟩
theorem I8:(Tryz.prog.info? 61).map (fun i=>(i.zero,i.size,i.bytes))=some (some (.agg #[.int .i64 0,.int .i64 0]),2,16):=by kernel_rfl
theorem nA:Nb Tryz.prog 48 ⟨false,1,[],some (61,.ev,16),some [.slice none 0 0],0,none,[]⟩:=⟨Tryz.sizeOf48,Tryz.isAgg48,(fun _=>rfl),(fun _ _ _ h=>by simp at h),(fun _ _ _ h=>by cases h;exact ⟨Tryz.underlying48,by obtain ⟨i,h1,h2,h3,h4⟩:=Dd I8;exact ⟨i,_,h1,h2,h3,h4,rfl⟩,by decide⟩),(fun _ _ _ inf z h hi hz=>by cases h;obtain ⟨i,h1,h2,h3,h4⟩:=Dd I8;rw [h1] at hi;cases hi;rw [h2] at hz;cases hz;rfl),(fun zs h=>by cases h;exact ⟨_,Tryz.zeroValue48,rfl,by simp [Value.oneCell']⟩),(fun _ _ h=>by cases h),(fun h=>by cases h),(fun _ h=>by cases h),(fun h=>by cases h),(fun h=>by cases h),(fun h=>by cases h),(fun _ _ _ _ _ h=>by simp at h)⟩
theorem J8:(Tryz.prog.info? 63).map (fun i=>(i.zero,i.size,i.bytes))=some (some (.agg #[.int .i64 0,.int .i64 0]),2,16):=by kernel_rfl
theorem nB:Nb Tryz.prog 54 ⟨false,1,[],some (63,.ev,16),some [.slice none 0 0],0,none,[]⟩:=⟨Tryz.sizeOf54,Tryz.isAgg54,(fun _=>rfl),(fun _ _ _ h=>by simp at h),(fun _ _ _ h=>by cases h;exact ⟨Tryz.underlying54,by obtain ⟨i,h1,h2,h3,h4⟩:=Dd J8;exact ⟨i,_,h1,h2,h3,h4,rfl⟩,by decide⟩),(fun _ _ _ inf z h hi hz=>by cases h;obtain ⟨i,h1,h2,h3,h4⟩:=Dd J8;rw [h1] at hi;cases hi;rw [h2] at hz;cases hz;rfl),(fun zs h=>by cases h;exact ⟨_,Tryz.zeroValue54,rfl,by simp [Value.oneCell']⟩),(fun _ _ h=>by cases h),(fun h=>by cases h),(fun _ h=>by cases h),(fun h=>by cases h),(fun h=>by cases h),(fun h=>by cases h),(fun _ _ _ _ _ h=>by simp at h)⟩
theorem nC:Nb Tryz.prog 60 ⟨true,2,[(0,1),(1,1)],none,some [.int .i64 0,.int .i64 0],0,none,[false,false]⟩:=⟨Tryz.sizeOf60,Tryz.isAgg60,(fun h=>by cases h),(fun j off fs h=>match j,h with|0,h=>by injection h with h;injection h with h1 h2;subst h1 h2;exact ⟨_,_,Tryz.runUnderlying60,rfl,rfl,Tryz.sizeOf3,by decide⟩|1,h=>by injection h with h;injection h with h1 h2;subst h1 h2;exact ⟨_,_,Tryz.runUnderlying60,rfl,rfl,Tryz.sizeOf3,by decide⟩|_+2,h=>by simp at h),(fun _ _ _ h=>by cases h),(fun _ _ _ _ _ h=>by cases h),(fun zs h=>by cases h;exact ⟨_,Tryz.zeroValue60,rfl,by simp [Value.oneCell']⟩),(fun _ _ _=>⟨_,Tryz.runUnderlying60,fun w=>by simp [Tryz.sizeOf3]⟩),(fun h=>by cases h),(fun _ h=>by cases h),(fun h=>by cases h),(fun h=>by cases h),(fun h=>by cases h),(fun j off fs b h h2=>match j,h,h2 with|0,h,h2=>by injection h with h;injection h with h1 h3;subst h1 h3;injection h2 with h2;subst h2;exact ⟨_,_,Tryz.runUnderlying60,rfl,rfl,Tryz.isAgg3,Tryz.sizeOf3⟩|1,h,h2=>by injection h with h;injection h with h1 h3;subst h1 h3;injection h2 with h2;subst h2;exact ⟨_,_,Tryz.runUnderlying60,rfl,rfl,Tryz.isAgg3,Tryz.sizeOf3⟩|_+2,h,_=>by simp at h)⟩
set_option maxRecDepth 100000 in
theorem nD:∀(ps qs:List Int),ps.length=2→qs.length=2→∀x y w,(do eqGuard .eql 61 x y (.agg (ps.map (Value.int .i64)).toArray) (.agg (qs.map (Value.int .i64)).toArray);binOp .eql 61 (.agg (ps.map (Value.int .i64)).toArray) (.agg (qs.map (Value.int .i64)).toArray):Sem Value).run Tryz.prog w=.ok (.bool (Cd ps qs)) w
  |[a0,a1],[b0,b1],_,_,x,y,w=>by
   have hu:Tryz.prog.underlying 61=some (.struct (Tryz.prog.fieldsOf 61)):=by kernel_rfl
   have hst:Tryz.prog.stoodInHeld 61=false:=by kernel_rfl
   simp only [List.map_cons,List.map_nil]
   rw [Sem.run_bind,run_eqGuard_agg w .eql 61 x y _ _ (by kernel_rfl),Result.andThen_ok,run_eql_struct,run_equalIn_struct w 9999 _ _ _ hu hst]
   have hf:(Tryz.prog.fieldsOf 61).toList=(match Tryz.prog.underlying 61 with|some (.struct fs)=>fs|_=> #[]).toList:=rfl
   rw [hf,Tryz.underlying61]
   simp [Op.eqFields,go_sem,Cd]
   by_cases h0:a0=b0<;>by_cases h1:a1=b1<;>simp [h0,h1]
set_option maxRecDepth 100000 in
theorem nE:∀(ps qs:List Int),ps.length=2→qs.length=2→∀x y w,(do eqGuard .neq 61 x y (.agg (ps.map (Value.int .i64)).toArray) (.agg (qs.map (Value.int .i64)).toArray);binOp .neq 61 (.agg (ps.map (Value.int .i64)).toArray) (.agg (qs.map (Value.int .i64)).toArray):Sem Value).run Tryz.prog w=.ok (.bool (!Cd ps qs)) w
  |[a0,a1],[b0,b1],_,_,x,y,w=>by
   have hu:Tryz.prog.underlying 61=some (.struct (Tryz.prog.fieldsOf 61)):=by kernel_rfl
   have hst:Tryz.prog.stoodInHeld 61=false:=by kernel_rfl
   simp only [List.map_cons,List.map_nil]
   rw [Sem.run_bind,run_eqGuard_agg w .neq 61 x y _ _ (by kernel_rfl),Result.andThen_ok,run_neq_struct,run_equalIn_struct w 9999 _ _ _ hu hst]
   have hf:(Tryz.prog.fieldsOf 61).toList=(match Tryz.prog.underlying 61 with|some (.struct fs)=>fs|_=> #[]).toList:=rfl
   rw [hf,Tryz.underlying61]
   simp [Op.eqFields,go_sem,Cd]
   by_cases h0:a0=b0<;>by_cases h1:a1=b1<;>simp [h0,h1]
theorem nF:Nb Tryz.prog 61 ⟨true,2,[(0,1),(1,1)],none,some [.int .i64 0,.int .i64 0],3,none,[false,false]⟩:=⟨Tryz.sizeOf61,Tryz.isAgg61,(fun h=>by cases h),(fun j off fs h=>match j,h with|0,h=>by injection h with h;injection h with h1 h2;subst h1 h2;exact ⟨_,_,Tryz.runUnderlying61,rfl,rfl,Tryz.sizeOf3,by decide⟩|1,h=>by injection h with h;injection h with h1 h2;subst h1 h2;exact ⟨_,_,Tryz.runUnderlying61,rfl,rfl,Tryz.sizeOf3,by decide⟩|_+2,h=>by simp at h),(fun _ _ _ h=>by cases h),(fun _ _ _ _ _ h=>by cases h),(fun zs h=>by cases h;exact ⟨_,Tryz.zeroValue61,rfl,by simp [Value.oneCell']⟩),(fun _ _ _=>⟨_,Tryz.runUnderlying61,fun w=>by simp [Tryz.sizeOf3]⟩),(fun h=>by cases h),(fun _ h=>by cases h),(fun h=>by cases h),(fun _=>nD),(fun _=>nE),(fun j off fs b h h2=>match j,h,h2 with|0,h,h2=>by injection h with h;injection h with h1 h3;subst h1 h3;injection h2 with h2;subst h2;exact ⟨_,_,Tryz.runUnderlying61,rfl,rfl,Tryz.isAgg3,Tryz.sizeOf3⟩|1,h,h2=>by injection h with h;injection h with h1 h3;subst h1 h3;injection h2 with h2;subst h2;exact ⟨_,_,Tryz.runUnderlying61,rfl,rfl,Tryz.isAgg3,Tryz.sizeOf3⟩|_+2,h,_=>by simp at h)⟩
set_option maxRecDepth 100000 in
theorem nG:∀(ps qs:List Int),ps.length=2→qs.length=2→∀x y w,(do eqGuard .eql 63 x y (.agg (ps.map (Value.int .i64)).toArray) (.agg (qs.map (Value.int .i64)).toArray);binOp .eql 63 (.agg (ps.map (Value.int .i64)).toArray) (.agg (qs.map (Value.int .i64)).toArray):Sem Value).run Tryz.prog w=.ok (.bool (Cd ps qs)) w
  |[a0,a1],[b0,b1],_,_,x,y,w=>by
   have hu:Tryz.prog.underlying 63=some (.struct (Tryz.prog.fieldsOf 63)):=by kernel_rfl
   have hst:Tryz.prog.stoodInHeld 63=false:=by kernel_rfl
   simp only [List.map_cons,List.map_nil]
   rw [Sem.run_bind,run_eqGuard_agg w .eql 63 x y _ _ (by kernel_rfl),Result.andThen_ok,run_eql_struct,run_equalIn_struct w 9999 _ _ _ hu hst]
   have hf:(Tryz.prog.fieldsOf 63).toList=(match Tryz.prog.underlying 63 with|some (.struct fs)=>fs|_=> #[]).toList:=rfl
   rw [hf,Tryz.underlying63]
   simp [Op.eqFields,go_sem,Cd]
   by_cases h0:a0=b0<;>by_cases h1:a1=b1<;>simp [h0,h1]
set_option maxRecDepth 100000 in
theorem nH:∀(ps qs:List Int),ps.length=2→qs.length=2→∀x y w,(do eqGuard .neq 63 x y (.agg (ps.map (Value.int .i64)).toArray) (.agg (qs.map (Value.int .i64)).toArray);binOp .neq 63 (.agg (ps.map (Value.int .i64)).toArray) (.agg (qs.map (Value.int .i64)).toArray):Sem Value).run Tryz.prog w=.ok (.bool (!Cd ps qs)) w
  |[a0,a1],[b0,b1],_,_,x,y,w=>by
   have hu:Tryz.prog.underlying 63=some (.struct (Tryz.prog.fieldsOf 63)):=by kernel_rfl
   have hst:Tryz.prog.stoodInHeld 63=false:=by kernel_rfl
   simp only [List.map_cons,List.map_nil]
   rw [Sem.run_bind,run_eqGuard_agg w .neq 63 x y _ _ (by kernel_rfl),Result.andThen_ok,run_neq_struct,run_equalIn_struct w 9999 _ _ _ hu hst]
   have hf:(Tryz.prog.fieldsOf 63).toList=(match Tryz.prog.underlying 63 with|some (.struct fs)=>fs|_=> #[]).toList:=rfl
   rw [hf,Tryz.underlying63]
   simp [Op.eqFields,go_sem,Cd]
   by_cases h0:a0=b0<;>by_cases h1:a1=b1<;>simp [h0,h1]
theorem nJ:Nb Tryz.prog 63 ⟨true,2,[(0,1),(1,1)],none,some [.int .i64 0,.int .i64 0],3,none,[false,false]⟩:=⟨Tryz.sizeOf63,Tryz.isAgg63,(fun h=>by cases h),(fun j off fs h=>match j,h with|0,h=>by injection h with h;injection h with h1 h2;subst h1 h2;exact ⟨_,_,Tryz.runUnderlying63,rfl,rfl,Tryz.sizeOf3,by decide⟩|1,h=>by injection h with h;injection h with h1 h2;subst h1 h2;exact ⟨_,_,Tryz.runUnderlying63,rfl,rfl,Tryz.sizeOf3,by decide⟩|_+2,h=>by simp at h),(fun _ _ _ h=>by cases h),(fun _ _ _ _ _ h=>by cases h),(fun zs h=>by cases h;exact ⟨_,Tryz.zeroValue63,rfl,by simp [Value.oneCell']⟩),(fun _ _ _=>⟨_,Tryz.runUnderlying63,fun w=>by simp [Tryz.sizeOf3]⟩),(fun h=>by cases h),(fun _ h=>by cases h),(fun h=>by cases h),(fun _=>nG),(fun _=>nH),(fun j off fs b h h2=>match j,h,h2 with|0,h,h2=>by injection h with h;injection h with h1 h3;subst h1 h3;injection h2 with h2;subst h2;exact ⟨_,_,Tryz.runUnderlying63,rfl,rfl,Tryz.isAgg3,Tryz.sizeOf3⟩|1,h,h2=>by injection h with h;injection h with h1 h3;subst h1 h3;injection h2 with h2;subst h2;exact ⟨_,_,Tryz.runUnderlying63,rfl,rfl,Tryz.isAgg3,Tryz.sizeOf3⟩|_+2,h,_=>by simp at h)⟩
theorem XR:(Tryz.prog.info? 108).map (fun i=>(i.zero,i.size,i.bytes))=some (some (.agg #[.int .i64 0,.int .i64 0,.slice none 0 0]),3,40):=by kernel_rfl
theorem nK:Nb Tryz.prog 86 ⟨false,1,[],some (108,.ls,40),some [.slice none 0 0],0,none,[]⟩:=⟨Tryz.sizeOf86,Tryz.isAgg86,(fun _=>rfl),(fun _ _ _ h=>by simp at h),(fun _ _ _ h=>by cases h;exact ⟨Tryz.underlying86,by obtain ⟨i,h1,h2,h3,h4⟩:=Dd XR;exact ⟨i,_,h1,h2,h3,h4,rfl⟩,by decide⟩),(fun _ _ _ inf z h hi hz=>by cases h;obtain ⟨i,h1,h2,h3,h4⟩:=Dd XR;rw [h1] at hi;cases hi;rw [h2] at hz;cases hz;rfl),(fun zs h=>by cases h;exact ⟨_,Tryz.zeroValue86,rfl,by simp [Value.oneCell']⟩),(fun _ _ h=>by cases h),(fun h=>by cases h),(fun _ h=>by cases h),(fun h=>by cases h),(fun h=>by cases h),(fun h=>by cases h),(fun _ _ _ _ _ h=>by simp at h)⟩
theorem K8:(Tryz.prog.info? 100).map (fun i=>(i.zero,i.size,i.bytes))=some (some (.agg #[.int .i64 0,.int .i64 0,.slice none 0 0]),3,40):=by kernel_rfl
theorem nL:Nb Tryz.prog 96 ⟨false,1,[],some (100,.ls,40),some [.slice none 0 0],0,none,[]⟩:=⟨Tryz.sizeOf96,Tryz.isAgg96,(fun _=>rfl),(fun _ _ _ h=>by simp at h),(fun _ _ _ h=>by cases h;exact ⟨Tryz.underlying96,by obtain ⟨i,h1,h2,h3,h4⟩:=Dd K8;exact ⟨i,_,h1,h2,h3,h4,rfl⟩,by decide⟩),(fun _ _ _ inf z h hi hz=>by cases h;obtain ⟨i,h1,h2,h3,h4⟩:=Dd K8;rw [h1] at hi;cases hi;rw [h2] at hz;cases hz;rfl),(fun zs h=>by cases h;exact ⟨_,Tryz.zeroValue96,rfl,by simp [Value.oneCell']⟩),(fun _ _ h=>by cases h),(fun h=>by cases h),(fun _ h=>by cases h),(fun h=>by cases h),(fun h=>by cases h),(fun h=>by cases h),(fun _ _ _ _ _ h=>by simp at h)⟩
theorem L8:(Tryz.prog.info? 183).map (fun i=>(i.zero,i.size,i.bytes))=some (some (.agg #[.int .i64 0,.int .i64 0]),2,16):=by kernel_rfl
theorem nM:Nb Tryz.prog 98 ⟨false,1,[],some (183,.en,16),some [.slice none 0 0],0,none,[]⟩:=⟨Tryz.sizeOf98,Tryz.isAgg98,(fun _=>rfl),(fun _ _ _ h=>by simp at h),(fun _ _ _ h=>by cases h;exact ⟨Tryz.underlying98,by obtain ⟨i,h1,h2,h3,h4⟩:=Dd L8;exact ⟨i,_,h1,h2,h3,h4,rfl⟩,by decide⟩),(fun _ _ _ inf z h hi hz=>by cases h;obtain ⟨i,h1,h2,h3,h4⟩:=Dd L8;rw [h1] at hi;cases hi;rw [h2] at hz;cases hz;rfl),(fun zs h=>by cases h;exact ⟨_,Tryz.zeroValue98,rfl,by simp [Value.oneCell']⟩),(fun _ _ h=>by cases h),(fun h=>by cases h),(fun _ h=>by cases h),(fun h=>by cases h),(fun h=>by cases h),(fun h=>by cases h),(fun _ _ _ _ _ h=>by simp at h)⟩
theorem nN:Nb Tryz.prog 99 ⟨true,3,[(0,1),(1,1),(2,1)],none,some [.int .i64 0,.int .i64 0,.slice none 0 0],0,none,[false,false,false]⟩:=⟨Tryz.sizeOf99,Tryz.isAgg99,(fun h=>by cases h),(fun j off fs h=>match j,h with|0,h=>by injection h with h;injection h with h1 h2;subst h1 h2;exact ⟨_,_,Tryz.runUnderlying99,rfl,rfl,Tryz.sizeOf3,by decide⟩|1,h=>by injection h with h;injection h with h1 h2;subst h1 h2;exact ⟨_,_,Tryz.runUnderlying99,rfl,rfl,Tryz.sizeOf3,by decide⟩|2,h=>by injection h with h;injection h with h1 h2;subst h1 h2;exact ⟨_,_,Tryz.runUnderlying99,rfl,rfl,Tryz.sizeOf98,by decide⟩|_+3,h=>by simp at h),(fun _ _ _ h=>by cases h),(fun _ _ _ _ _ h=>by cases h),(fun zs h=>by cases h;exact ⟨_,Tryz.zeroValue99,rfl,by simp [Value.oneCell']⟩),(fun _ _ _=>⟨_,Tryz.runUnderlying99,fun w=>by simp [Tryz.sizeOf3,Tryz.sizeOf98]⟩),(fun h=>by cases h),(fun _ h=>by cases h),(fun h=>by cases h),(fun h=>by cases h),(fun h=>by cases h),(fun j off fs b h h2=>match j,h,h2 with|0,h,h2=>by injection h with h;injection h with h1 h3;subst h1 h3;injection h2 with h2;subst h2;exact ⟨_,_,Tryz.runUnderlying99,rfl,rfl,Tryz.isAgg3,Tryz.sizeOf3⟩|1,h,h2=>by injection h with h;injection h with h1 h3;subst h1 h3;injection h2 with h2;subst h2;exact ⟨_,_,Tryz.runUnderlying99,rfl,rfl,Tryz.isAgg3,Tryz.sizeOf3⟩|2,h,h2=>by injection h with h;injection h with h1 h3;subst h1 h3;injection h2 with h2;subst h2;exact ⟨_,_,Tryz.runUnderlying99,rfl,rfl,Tryz.isAgg98,Tryz.sizeOf98⟩|_+3,h,_=>by simp at h)⟩
theorem nO:Nb Tryz.prog 100 ⟨true,3,[(0,1),(1,1),(2,1)],none,some [.int .i64 0,.int .i64 0,.slice none 0 0],0,none,[false,false,false]⟩:=⟨Tryz.sizeOf100,Tryz.isAgg100,(fun h=>by cases h),(fun j off fs h=>match j,h with|0,h=>by injection h with h;injection h with h1 h2;subst h1 h2;exact ⟨_,_,Tryz.runUnderlying100,rfl,rfl,Tryz.sizeOf3,by decide⟩|1,h=>by injection h with h;injection h with h1 h2;subst h1 h2;exact ⟨_,_,Tryz.runUnderlying100,rfl,rfl,Tryz.sizeOf3,by decide⟩|2,h=>by injection h with h;injection h with h1 h2;subst h1 h2;exact ⟨_,_,Tryz.runUnderlying100,rfl,rfl,Tryz.sizeOf98,by decide⟩|_+3,h=>by simp at h),(fun _ _ _ h=>by cases h),(fun _ _ _ _ _ h=>by cases h),(fun zs h=>by cases h;exact ⟨_,Tryz.zeroValue100,rfl,by simp [Value.oneCell']⟩),(fun _ _ _=>⟨_,Tryz.runUnderlying100,fun w=>by simp [Tryz.sizeOf3,Tryz.sizeOf98]⟩),(fun h=>by cases h),(fun _ h=>by cases h),(fun h=>by cases h),(fun h=>by cases h),(fun h=>by cases h),(fun j off fs b h h2=>match j,h,h2 with|0,h,h2=>by injection h with h;injection h with h1 h3;subst h1 h3;injection h2 with h2;subst h2;exact ⟨_,_,Tryz.runUnderlying100,rfl,rfl,Tryz.isAgg3,Tryz.sizeOf3⟩|1,h,h2=>by injection h with h;injection h with h1 h3;subst h1 h3;injection h2 with h2;subst h2;exact ⟨_,_,Tryz.runUnderlying100,rfl,rfl,Tryz.isAgg3,Tryz.sizeOf3⟩|2,h,h2=>by injection h with h;injection h with h1 h3;subst h1 h3;injection h2 with h2;subst h2;exact ⟨_,_,Tryz.runUnderlying100,rfl,rfl,Tryz.isAgg98,Tryz.sizeOf98⟩|_+3,h,_=>by simp at h)⟩
theorem nP:Nb Tryz.prog 101 ⟨true,4,[(0,1),(1,3)],none,some [.int .i64 0,.int .i64 0,.int .i64 0,.slice none 0 0],0,none,[false,true]⟩:=⟨Tryz.sizeOf101,Tryz.isAgg101,(fun h=>by cases h),(fun j off fs h=>match j,h with|0,h=>by injection h with h;injection h with h1 h2;subst h1 h2;exact ⟨_,_,Tryz.runUnderlying101,rfl,rfl,Tryz.sizeOf3,by decide⟩|1,h=>by injection h with h;injection h with h1 h2;subst h1 h2;exact ⟨_,_,Tryz.runUnderlying101,rfl,rfl,Tryz.sizeOf100,by decide⟩|_+2,h=>by simp at h),(fun _ _ _ h=>by cases h),(fun _ _ _ _ _ h=>by cases h),(fun zs h=>by cases h;exact ⟨_,Tryz.zeroValue101,rfl,by simp [Value.oneCell']⟩),(fun _ _ _=>⟨_,Tryz.runUnderlying101,fun w=>by simp [Tryz.sizeOf100,Tryz.sizeOf3]⟩),(fun h=>by cases h),(fun _ h=>by cases h),(fun h=>by cases h),(fun h=>by cases h),(fun h=>by cases h),(fun j off fs b h h2=>match j,h,h2 with|0,h,h2=>by injection h with h;injection h with h1 h3;subst h1 h3;injection h2 with h2;subst h2;exact ⟨_,_,Tryz.runUnderlying101,rfl,rfl,Tryz.isAgg3,Tryz.sizeOf3⟩|1,h,h2=>by injection h with h;injection h with h1 h3;subst h1 h3;injection h2 with h2;subst h2;exact ⟨_,_,Tryz.runUnderlying101,rfl,rfl,Tryz.isAgg100,Tryz.sizeOf100⟩|_+2,h,_=>by simp at h)⟩
theorem nQ:Nb Tryz.prog 102 ⟨true,4,[(0,1),(1,3)],none,some [.int .i64 0,.int .i64 0,.int .i64 0,.slice none 0 0],0,none,[false,true]⟩:=⟨Tryz.sizeOf102,Tryz.isAgg102,(fun h=>by cases h),(fun j off fs h=>match j,h with|0,h=>by injection h with h;injection h with h1 h2;subst h1 h2;exact ⟨_,_,Tryz.runUnderlying102,rfl,rfl,Tryz.sizeOf3,by decide⟩|1,h=>by injection h with h;injection h with h1 h2;subst h1 h2;exact ⟨_,_,Tryz.runUnderlying102,rfl,rfl,Tryz.sizeOf100,by decide⟩|_+2,h=>by simp at h),(fun _ _ _ h=>by cases h),(fun _ _ _ _ _ h=>by cases h),(fun zs h=>by cases h;exact ⟨_,Tryz.zeroValue102,rfl,by simp [Value.oneCell']⟩),(fun _ _ _=>⟨_,Tryz.runUnderlying102,fun w=>by simp [Tryz.sizeOf100,Tryz.sizeOf3]⟩),(fun h=>by cases h),(fun _ h=>by cases h),(fun h=>by cases h),(fun h=>by cases h),(fun h=>by cases h),(fun j off fs b h h2=>match j,h,h2 with|0,h,h2=>by injection h with h;injection h with h1 h3;subst h1 h3;injection h2 with h2;subst h2;exact ⟨_,_,Tryz.runUnderlying102,rfl,rfl,Tryz.isAgg3,Tryz.sizeOf3⟩|1,h,h2=>by injection h with h;injection h with h1 h3;subst h1 h3;injection h2 with h2;subst h2;exact ⟨_,_,Tryz.runUnderlying102,rfl,rfl,Tryz.isAgg100,Tryz.sizeOf100⟩|_+2,h,_=>by simp at h)⟩
theorem YR:(Tryz.prog.info? 153).map (fun i=>(i.zero,i.size,i.bytes))=some (some (.agg #[.int .i64 0,.int .i64 0]),2,16):=by kernel_rfl
theorem nR:Nb Tryz.prog 106 ⟨false,1,[],some (153,.en,16),some [.slice none 0 0],0,none,[]⟩:=⟨Tryz.sizeOf106,Tryz.isAgg106,(fun _=>rfl),(fun _ _ _ h=>by simp at h),(fun _ _ _ h=>by cases h;exact ⟨Tryz.underlying106,by obtain ⟨i,h1,h2,h3,h4⟩:=Dd YR;exact ⟨i,_,h1,h2,h3,h4,rfl⟩,by decide⟩),(fun _ _ _ inf z h hi hz=>by cases h;obtain ⟨i,h1,h2,h3,h4⟩:=Dd YR;rw [h1] at hi;cases hi;rw [h2] at hz;cases hz;rfl),(fun zs h=>by cases h;exact ⟨_,Tryz.zeroValue106,rfl,by simp [Value.oneCell']⟩),(fun _ _ h=>by cases h),(fun h=>by cases h),(fun _ h=>by cases h),(fun h=>by cases h),(fun h=>by cases h),(fun h=>by cases h),(fun _ _ _ _ _ h=>by simp at h)⟩
theorem nS:Nb Tryz.prog 107 ⟨true,3,[(0,1),(1,1),(2,1)],none,some [.int .i64 0,.int .i64 0,.slice none 0 0],0,none,[false,false,false]⟩:=⟨Tryz.sizeOf107,Tryz.isAgg107,(fun h=>by cases h),(fun j off fs h=>match j,h with|0,h=>by injection h with h;injection h with h1 h2;subst h1 h2;exact ⟨_,_,Tryz.runUnderlying107,rfl,rfl,Tryz.sizeOf3,by decide⟩|1,h=>by injection h with h;injection h with h1 h2;subst h1 h2;exact ⟨_,_,Tryz.runUnderlying107,rfl,rfl,Tryz.sizeOf3,by decide⟩|2,h=>by injection h with h;injection h with h1 h2;subst h1 h2;exact ⟨_,_,Tryz.runUnderlying107,rfl,rfl,Tryz.sizeOf106,by decide⟩|_+3,h=>by simp at h),(fun _ _ _ h=>by cases h),(fun _ _ _ _ _ h=>by cases h),(fun zs h=>by cases h;exact ⟨_,Tryz.zeroValue107,rfl,by simp [Value.oneCell']⟩),(fun _ _ _=>⟨_,Tryz.runUnderlying107,fun w=>by simp [Tryz.sizeOf106,Tryz.sizeOf3]⟩),(fun h=>by cases h),(fun _ h=>by cases h),(fun h=>by cases h),(fun h=>by cases h),(fun h=>by cases h),(fun j off fs b h h2=>match j,h,h2 with|0,h,h2=>by injection h with h;injection h with h1 h3;subst h1 h3;injection h2 with h2;subst h2;exact ⟨_,_,Tryz.runUnderlying107,rfl,rfl,Tryz.isAgg3,Tryz.sizeOf3⟩|1,h,h2=>by injection h with h;injection h with h1 h3;subst h1 h3;injection h2 with h2;subst h2;exact ⟨_,_,Tryz.runUnderlying107,rfl,rfl,Tryz.isAgg3,Tryz.sizeOf3⟩|2,h,h2=>by injection h with h;injection h with h1 h3;subst h1 h3;injection h2 with h2;subst h2;exact ⟨_,_,Tryz.runUnderlying107,rfl,rfl,Tryz.isAgg106,Tryz.sizeOf106⟩|_+3,h,_=>by simp at h)⟩
theorem nT:Nb Tryz.prog 108 ⟨true,3,[(0,1),(1,1),(2,1)],none,some [.int .i64 0,.int .i64 0,.slice none 0 0],0,none,[false,false,false]⟩:=⟨Tryz.sizeOf108,Tryz.isAgg108,(fun h=>by cases h),(fun j off fs h=>match j,h with|0,h=>by injection h with h;injection h with h1 h2;subst h1 h2;exact ⟨_,_,Tryz.runUnderlying108,rfl,rfl,Tryz.sizeOf3,by decide⟩|1,h=>by injection h with h;injection h with h1 h2;subst h1 h2;exact ⟨_,_,Tryz.runUnderlying108,rfl,rfl,Tryz.sizeOf3,by decide⟩|2,h=>by injection h with h;injection h with h1 h2;subst h1 h2;exact ⟨_,_,Tryz.runUnderlying108,rfl,rfl,Tryz.sizeOf106,by decide⟩|_+3,h=>by simp at h),(fun _ _ _ h=>by cases h),(fun _ _ _ _ _ h=>by cases h),(fun zs h=>by cases h;exact ⟨_,Tryz.zeroValue108,rfl,by simp [Value.oneCell']⟩),(fun _ _ _=>⟨_,Tryz.runUnderlying108,fun w=>by simp [Tryz.sizeOf106,Tryz.sizeOf3]⟩),(fun h=>by cases h),(fun _ h=>by cases h),(fun h=>by cases h),(fun h=>by cases h),(fun h=>by cases h),(fun j off fs b h h2=>match j,h,h2 with|0,h,h2=>by injection h with h;injection h with h1 h3;subst h1 h3;injection h2 with h2;subst h2;exact ⟨_,_,Tryz.runUnderlying108,rfl,rfl,Tryz.isAgg3,Tryz.sizeOf3⟩|1,h,h2=>by injection h with h;injection h with h1 h3;subst h1 h3;injection h2 with h2;subst h2;exact ⟨_,_,Tryz.runUnderlying108,rfl,rfl,Tryz.isAgg3,Tryz.sizeOf3⟩|2,h,h2=>by injection h with h;injection h with h1 h3;subst h1 h3;injection h2 with h2;subst h2;exact ⟨_,_,Tryz.runUnderlying108,rfl,rfl,Tryz.isAgg106,Tryz.sizeOf106⟩|_+3,h,_=>by simp at h)⟩
theorem nU:Nb Tryz.prog 111 ⟨true,4,[(0,1),(1,3)],none,some [.int .i64 0,.int .i64 0,.int .i64 0,.slice none 0 0],0,none,[false,true]⟩:=⟨Tryz.sizeOf111,Tryz.isAgg111,(fun h=>by cases h),(fun j off fs h=>match j,h with|0,h=>by injection h with h;injection h with h1 h2;subst h1 h2;exact ⟨_,_,Tryz.runUnderlying111,rfl,rfl,Tryz.sizeOf3,by decide⟩|1,h=>by injection h with h;injection h with h1 h2;subst h1 h2;exact ⟨_,_,Tryz.runUnderlying111,rfl,rfl,Tryz.sizeOf108,by decide⟩|_+2,h=>by simp at h),(fun _ _ _ h=>by cases h),(fun _ _ _ _ _ h=>by cases h),(fun zs h=>by cases h;exact ⟨_,Tryz.zeroValue111,rfl,by simp [Value.oneCell']⟩),(fun _ _ _=>⟨_,Tryz.runUnderlying111,fun w=>by simp [Tryz.sizeOf108,Tryz.sizeOf3]⟩),(fun h=>by cases h),(fun _ h=>by cases h),(fun h=>by cases h),(fun h=>by cases h),(fun h=>by cases h),(fun j off fs b h h2=>match j,h,h2 with|0,h,h2=>by injection h with h;injection h with h1 h3;subst h1 h3;injection h2 with h2;subst h2;exact ⟨_,_,Tryz.runUnderlying111,rfl,rfl,Tryz.isAgg3,Tryz.sizeOf3⟩|1,h,h2=>by injection h with h;injection h with h1 h3;subst h1 h3;injection h2 with h2;subst h2;exact ⟨_,_,Tryz.runUnderlying111,rfl,rfl,Tryz.isAgg108,Tryz.sizeOf108⟩|_+2,h,_=>by simp at h)⟩
theorem nV:Nb Tryz.prog 112 ⟨true,4,[(0,1),(1,3)],none,some [.int .i64 0,.int .i64 0,.int .i64 0,.slice none 0 0],0,none,[false,true]⟩:=⟨Tryz.sizeOf112,Tryz.isAgg112,(fun h=>by cases h),(fun j off fs h=>match j,h with|0,h=>by injection h with h;injection h with h1 h2;subst h1 h2;exact ⟨_,_,Tryz.runUnderlying112,rfl,rfl,Tryz.sizeOf3,by decide⟩|1,h=>by injection h with h;injection h with h1 h2;subst h1 h2;exact ⟨_,_,Tryz.runUnderlying112,rfl,rfl,Tryz.sizeOf108,by decide⟩|_+2,h=>by simp at h),(fun _ _ _ h=>by cases h),(fun _ _ _ _ _ h=>by cases h),(fun zs h=>by cases h;exact ⟨_,Tryz.zeroValue112,rfl,by simp [Value.oneCell']⟩),(fun _ _ _=>⟨_,Tryz.runUnderlying112,fun w=>by simp [Tryz.sizeOf108,Tryz.sizeOf3]⟩),(fun h=>by cases h),(fun _ h=>by cases h),(fun h=>by cases h),(fun h=>by cases h),(fun h=>by cases h),(fun j off fs b h h2=>match j,h,h2 with|0,h,h2=>by injection h with h;injection h with h1 h3;subst h1 h3;injection h2 with h2;subst h2;exact ⟨_,_,Tryz.runUnderlying112,rfl,rfl,Tryz.isAgg3,Tryz.sizeOf3⟩|1,h,h2=>by injection h with h;injection h with h1 h3;subst h1 h3;injection h2 with h2;subst h2;exact ⟨_,_,Tryz.runUnderlying112,rfl,rfl,Tryz.isAgg108,Tryz.sizeOf108⟩|_+2,h,_=>by simp at h)⟩
theorem nW:Nb Tryz.prog 113 ⟨true,3,[(0,1),(1,1),(2,1)],none,some [.int .i64 0,.int .i64 0,.int .i64 0],0,none,[false,false,false]⟩:=⟨Tryz.sizeOf113,Tryz.isAgg113,(fun h=>by cases h),(fun j off fs h=>match j,h with|0,h=>by injection h with h;injection h with h1 h2;subst h1 h2;exact ⟨_,_,Tryz.runUnderlying113,rfl,rfl,Tryz.sizeOf3,by decide⟩|1,h=>by injection h with h;injection h with h1 h2;subst h1 h2;exact ⟨_,_,Tryz.runUnderlying113,rfl,rfl,Tryz.sizeOf3,by decide⟩|2,h=>by injection h with h;injection h with h1 h2;subst h1 h2;exact ⟨_,_,Tryz.runUnderlying113,rfl,rfl,Tryz.sizeOf3,by decide⟩|_+3,h=>by simp at h),(fun _ _ _ h=>by cases h),(fun _ _ _ _ _ h=>by cases h),(fun zs h=>by cases h;exact ⟨_,Tryz.zeroValue113,rfl,by simp [Value.oneCell']⟩),(fun _ _ _=>⟨_,Tryz.runUnderlying113,fun w=>by simp [Tryz.sizeOf3]⟩),(fun h=>by cases h),(fun _ h=>by cases h),(fun h=>by cases h),(fun h=>by cases h),(fun h=>by cases h),(fun j off fs b h h2=>match j,h,h2 with|0,h,h2=>by injection h with h;injection h with h1 h3;subst h1 h3;injection h2 with h2;subst h2;exact ⟨_,_,Tryz.runUnderlying113,rfl,rfl,Tryz.isAgg3,Tryz.sizeOf3⟩|1,h,h2=>by injection h with h;injection h with h1 h3;subst h1 h3;injection h2 with h2;subst h2;exact ⟨_,_,Tryz.runUnderlying113,rfl,rfl,Tryz.isAgg3,Tryz.sizeOf3⟩|2,h,h2=>by injection h with h;injection h with h1 h3;subst h1 h3;injection h2 with h2;subst h2;exact ⟨_,_,Tryz.runUnderlying113,rfl,rfl,Tryz.isAgg3,Tryz.sizeOf3⟩|_+3,h,_=>by simp at h)⟩
set_option maxRecDepth 100000 in
theorem nX:∀(ps qs:List Int),ps.length=3→qs.length=3→∀x y w,(do eqGuard .eql 114 x y (.agg (ps.map (Value.int .i64)).toArray) (.agg (qs.map (Value.int .i64)).toArray);binOp .eql 114 (.agg (ps.map (Value.int .i64)).toArray) (.agg (qs.map (Value.int .i64)).toArray):Sem Value).run Tryz.prog w=.ok (.bool (Cd ps qs)) w
  |[a0,a1,a2],[b0,b1,b2],_,_,x,y,w=>by
   have hu:Tryz.prog.underlying 114=some (.struct (Tryz.prog.fieldsOf 114)):=by kernel_rfl
   have hst:Tryz.prog.stoodInHeld 114=false:=by kernel_rfl
   simp only [List.map_cons,List.map_nil]
   rw [Sem.run_bind,run_eqGuard_agg w .eql 114 x y _ _ (by kernel_rfl),Result.andThen_ok,run_eql_struct,run_equalIn_struct w 9999 _ _ _ hu hst]
   have hf:(Tryz.prog.fieldsOf 114).toList=(match Tryz.prog.underlying 114 with|some (.struct fs)=>fs|_=> #[]).toList:=rfl
   rw [hf,Tryz.underlying114]
   simp [Op.eqFields,go_sem,Cd]
   by_cases h0:a0=b0<;>by_cases h1:a1=b1<;>by_cases h2:a2=b2<;>simp [h0,h1,h2]
set_option maxRecDepth 100000 in
theorem nY:∀(ps qs:List Int),ps.length=3→qs.length=3→∀x y w,(do eqGuard .neq 114 x y (.agg (ps.map (Value.int .i64)).toArray) (.agg (qs.map (Value.int .i64)).toArray);binOp .neq 114 (.agg (ps.map (Value.int .i64)).toArray) (.agg (qs.map (Value.int .i64)).toArray):Sem Value).run Tryz.prog w=.ok (.bool (!Cd ps qs)) w
  |[a0,a1,a2],[b0,b1,b2],_,_,x,y,w=>by
   have hu:Tryz.prog.underlying 114=some (.struct (Tryz.prog.fieldsOf 114)):=by kernel_rfl
   have hst:Tryz.prog.stoodInHeld 114=false:=by kernel_rfl
   simp only [List.map_cons,List.map_nil]
   rw [Sem.run_bind,run_eqGuard_agg w .neq 114 x y _ _ (by kernel_rfl),Result.andThen_ok,run_neq_struct,run_equalIn_struct w 9999 _ _ _ hu hst]
   have hf:(Tryz.prog.fieldsOf 114).toList=(match Tryz.prog.underlying 114 with|some (.struct fs)=>fs|_=> #[]).toList:=rfl
   rw [hf,Tryz.underlying114]
   simp [Op.eqFields,go_sem,Cd]
   by_cases h0:a0=b0<;>by_cases h1:a1=b1<;>by_cases h2:a2=b2<;>simp [h0,h1,h2]
theorem nZ:Nb Tryz.prog 114 ⟨true,3,[(0,1),(1,1),(2,1)],none,some [.int .i64 0,.int .i64 0,.int .i64 0],3,none,[false,false,false]⟩:=⟨Tryz.sizeOf114,Tryz.isAgg114,(fun h=>by cases h),(fun j off fs h=>match j,h with|0,h=>by injection h with h;injection h with h1 h2;subst h1 h2;exact ⟨_,_,Tryz.runUnderlying114,rfl,rfl,Tryz.sizeOf3,by decide⟩|1,h=>by injection h with h;injection h with h1 h2;subst h1 h2;exact ⟨_,_,Tryz.runUnderlying114,rfl,rfl,Tryz.sizeOf3,by decide⟩|2,h=>by injection h with h;injection h with h1 h2;subst h1 h2;exact ⟨_,_,Tryz.runUnderlying114,rfl,rfl,Tryz.sizeOf3,by decide⟩|_+3,h=>by simp at h),(fun _ _ _ h=>by cases h),(fun _ _ _ _ _ h=>by cases h),(fun zs h=>by cases h;exact ⟨_,Tryz.zeroValue114,rfl,by simp [Value.oneCell']⟩),(fun _ _ _=>⟨_,Tryz.runUnderlying114,fun w=>by simp [Tryz.sizeOf3]⟩),(fun h=>by cases h),(fun _ h=>by cases h),(fun h=>by cases h),(fun _=>nX),(fun _=>nY),(fun j off fs b h h2=>match j,h,h2 with|0,h,h2=>by injection h with h;injection h with h1 h3;subst h1 h3;injection h2 with h2;subst h2;exact ⟨_,_,Tryz.runUnderlying114,rfl,rfl,Tryz.isAgg3,Tryz.sizeOf3⟩|1,h,h2=>by injection h with h;injection h with h1 h3;subst h1 h3;injection h2 with h2;subst h2;exact ⟨_,_,Tryz.runUnderlying114,rfl,rfl,Tryz.isAgg3,Tryz.sizeOf3⟩|2,h,h2=>by injection h with h;injection h with h1 h3;subst h1 h3;injection h2 with h2;subst h2;exact ⟨_,_,Tryz.runUnderlying114,rfl,rfl,Tryz.isAgg3,Tryz.sizeOf3⟩|_+3,h,_=>by simp at h)⟩
set_option maxRecDepth 100000 in
theorem oA:∀(ps qs:List Int),ps.length=3→qs.length=3→∀x y w,(do eqGuard .eql 139 x y (.agg (ps.map (Value.int .i64)).toArray) (.agg (qs.map (Value.int .i64)).toArray);binOp .eql 139 (.agg (ps.map (Value.int .i64)).toArray) (.agg (qs.map (Value.int .i64)).toArray):Sem Value).run Tryz.prog w=.ok (.bool (Cd ps qs)) w
  |[a0,a1,a2],[b0,b1,b2],_,_,x,y,w=>by
   have hu:Tryz.prog.underlying 139=some (.struct (Tryz.prog.fieldsOf 139)):=by kernel_rfl
   have hst:Tryz.prog.stoodInHeld 139=false:=by kernel_rfl
   simp only [List.map_cons,List.map_nil]
   rw [Sem.run_bind,run_eqGuard_agg w .eql 139 x y _ _ (by kernel_rfl),Result.andThen_ok,run_eql_struct,run_equalIn_struct w 9999 _ _ _ hu hst]
   have hf:(Tryz.prog.fieldsOf 139).toList=(match Tryz.prog.underlying 139 with|some (.struct fs)=>fs|_=> #[]).toList:=rfl
   rw [hf,Tryz.underlying139]
   simp [Op.eqFields,go_sem,Cd]
   by_cases h0:a0=b0<;>by_cases h1:a1=b1<;>by_cases h2:a2=b2<;>simp [h0,h1,h2]
set_option maxRecDepth 100000 in
theorem oB:∀(ps qs:List Int),ps.length=3→qs.length=3→∀x y w,(do eqGuard .neq 139 x y (.agg (ps.map (Value.int .i64)).toArray) (.agg (qs.map (Value.int .i64)).toArray);binOp .neq 139 (.agg (ps.map (Value.int .i64)).toArray) (.agg (qs.map (Value.int .i64)).toArray):Sem Value).run Tryz.prog w=.ok (.bool (!Cd ps qs)) w
  |[a0,a1,a2],[b0,b1,b2],_,_,x,y,w=>by
   have hu:Tryz.prog.underlying 139=some (.struct (Tryz.prog.fieldsOf 139)):=by kernel_rfl
   have hst:Tryz.prog.stoodInHeld 139=false:=by kernel_rfl
   simp only [List.map_cons,List.map_nil]
   rw [Sem.run_bind,run_eqGuard_agg w .neq 139 x y _ _ (by kernel_rfl),Result.andThen_ok,run_neq_struct,run_equalIn_struct w 9999 _ _ _ hu hst]
   have hf:(Tryz.prog.fieldsOf 139).toList=(match Tryz.prog.underlying 139 with|some (.struct fs)=>fs|_=> #[]).toList:=rfl
   rw [hf,Tryz.underlying139]
   simp [Op.eqFields,go_sem,Cd]
   by_cases h0:a0=b0<;>by_cases h1:a1=b1<;>by_cases h2:a2=b2<;>simp [h0,h1,h2]
theorem oC:Nb Tryz.prog 139 ⟨true,3,[(0,1),(1,1),(2,1)],none,some [.int .i64 0,.int .i64 0,.int .i64 0],3,none,[false,false,false]⟩:=⟨Tryz.sizeOf139,Tryz.isAgg139,(fun h=>by cases h),(fun j off fs h=>match j,h with|0,h=>by injection h with h;injection h with h1 h2;subst h1 h2;exact ⟨_,_,Tryz.runUnderlying139,rfl,rfl,Tryz.sizeOf3,by decide⟩|1,h=>by injection h with h;injection h with h1 h2;subst h1 h2;exact ⟨_,_,Tryz.runUnderlying139,rfl,rfl,Tryz.sizeOf3,by decide⟩|2,h=>by injection h with h;injection h with h1 h2;subst h1 h2;exact ⟨_,_,Tryz.runUnderlying139,rfl,rfl,Tryz.sizeOf3,by decide⟩|_+3,h=>by simp at h),(fun _ _ _ h=>by cases h),(fun _ _ _ _ _ h=>by cases h),(fun zs h=>by cases h;exact ⟨_,Tryz.zeroValue139,rfl,by simp [Value.oneCell']⟩),(fun _ _ _=>⟨_,Tryz.runUnderlying139,fun w=>by simp [Tryz.sizeOf3]⟩),(fun h=>by cases h),(fun _ h=>by cases h),(fun h=>by cases h),(fun _=>oA),(fun _=>oB),(fun j off fs b h h2=>match j,h,h2 with|0,h,h2=>by injection h with h;injection h with h1 h3;subst h1 h3;injection h2 with h2;subst h2;exact ⟨_,_,Tryz.runUnderlying139,rfl,rfl,Tryz.isAgg3,Tryz.sizeOf3⟩|1,h,h2=>by injection h with h;injection h with h1 h3;subst h1 h3;injection h2 with h2;subst h2;exact ⟨_,_,Tryz.runUnderlying139,rfl,rfl,Tryz.isAgg3,Tryz.sizeOf3⟩|2,h,h2=>by injection h with h;injection h with h1 h3;subst h1 h3;injection h2 with h2;subst h2;exact ⟨_,_,Tryz.runUnderlying139,rfl,rfl,Tryz.isAgg3,Tryz.sizeOf3⟩|_+3,h,_=>by simp at h)⟩
theorem oD:Nb Tryz.prog 143 ⟨false,1,[],none,some [.pointer none],0,none,[]⟩:=⟨Tryz.sizeOf143,Tryz.isAgg143,(fun _=>rfl),(fun _ _ _ h=>by simp at h),(fun _ _ _ h=>by cases h),(fun _ _ _ _ _ h=>by cases h),(fun zs h=>by cases h;exact ⟨_,Tryz.zeroValue143,rfl,by simp [Value.oneCell']⟩),(fun _ _ h=>by cases h),(fun h=>by cases h),(fun _ h=>by cases h),(fun h=>by cases h),(fun h=>by cases h),(fun h=>by cases h),(fun _ _ _ _ _ h=>by simp at h)⟩
theorem oE:Nb Tryz.prog 152 ⟨true,2,[(0,1),(1,1)],none,some [.int .i64 0,.int .i64 0],0,none,[false,false]⟩:=⟨Tryz.sizeOf152,Tryz.isAgg152,(fun h=>by cases h),(fun j off fs h=>match j,h with|0,h=>by injection h with h;injection h with h1 h2;subst h1 h2;exact ⟨_,_,Tryz.runUnderlying152,rfl,rfl,Tryz.sizeOf3,by decide⟩|1,h=>by injection h with h;injection h with h1 h2;subst h1 h2;exact ⟨_,_,Tryz.runUnderlying152,rfl,rfl,Tryz.sizeOf3,by decide⟩|_+2,h=>by simp at h),(fun _ _ _ h=>by cases h),(fun _ _ _ _ _ h=>by cases h),(fun zs h=>by cases h;exact ⟨_,Tryz.zeroValue152,rfl,by simp [Value.oneCell']⟩),(fun _ _ _=>⟨_,Tryz.runUnderlying152,fun w=>by simp [Tryz.sizeOf3]⟩),(fun h=>by cases h),(fun _ h=>by cases h),(fun h=>by cases h),(fun h=>by cases h),(fun h=>by cases h),(fun j off fs b h h2=>match j,h,h2 with|0,h,h2=>by injection h with h;injection h with h1 h3;subst h1 h3;injection h2 with h2;subst h2;exact ⟨_,_,Tryz.runUnderlying152,rfl,rfl,Tryz.isAgg3,Tryz.sizeOf3⟩|1,h,h2=>by injection h with h;injection h with h1 h3;subst h1 h3;injection h2 with h2;subst h2;exact ⟨_,_,Tryz.runUnderlying152,rfl,rfl,Tryz.isAgg3,Tryz.sizeOf3⟩|_+2,h,_=>by simp at h)⟩
set_option maxRecDepth 100000 in
theorem oG:∀(ps qs:List Int),ps.length=2→qs.length=2→∀x y w,(do eqGuard .eql 153 x y (.agg (ps.map (Value.int .i64)).toArray) (.agg (qs.map (Value.int .i64)).toArray);binOp .eql 153 (.agg (ps.map (Value.int .i64)).toArray) (.agg (qs.map (Value.int .i64)).toArray):Sem Value).run Tryz.prog w=.ok (.bool (Cd ps qs)) w
  |[a0,a1],[b0,b1],_,_,x,y,w=>by
   have hu:Tryz.prog.underlying 153=some (.struct (Tryz.prog.fieldsOf 153)):=by kernel_rfl
   have hst:Tryz.prog.stoodInHeld 153=false:=by kernel_rfl
   simp only [List.map_cons,List.map_nil]
   rw [Sem.run_bind,run_eqGuard_agg w .eql 153 x y _ _ (by kernel_rfl),Result.andThen_ok,run_eql_struct,run_equalIn_struct w 9999 _ _ _ hu hst]
   have hf:(Tryz.prog.fieldsOf 153).toList=(match Tryz.prog.underlying 153 with|some (.struct fs)=>fs|_=> #[]).toList:=rfl
   rw [hf,Tryz.underlying153]
   simp [Op.eqFields,go_sem,Cd]
   by_cases h0:a0=b0<;>by_cases h1:a1=b1<;>simp [h0,h1]
set_option maxRecDepth 100000 in
theorem oH:∀(ps qs:List Int),ps.length=2→qs.length=2→∀x y w,(do eqGuard .neq 153 x y (.agg (ps.map (Value.int .i64)).toArray) (.agg (qs.map (Value.int .i64)).toArray);binOp .neq 153 (.agg (ps.map (Value.int .i64)).toArray) (.agg (qs.map (Value.int .i64)).toArray):Sem Value).run Tryz.prog w=.ok (.bool (!Cd ps qs)) w
  |[a0,a1],[b0,b1],_,_,x,y,w=>by
   have hu:Tryz.prog.underlying 153=some (.struct (Tryz.prog.fieldsOf 153)):=by kernel_rfl
   have hst:Tryz.prog.stoodInHeld 153=false:=by kernel_rfl
   simp only [List.map_cons,List.map_nil]
   rw [Sem.run_bind,run_eqGuard_agg w .neq 153 x y _ _ (by kernel_rfl),Result.andThen_ok,run_neq_struct,run_equalIn_struct w 9999 _ _ _ hu hst]
   have hf:(Tryz.prog.fieldsOf 153).toList=(match Tryz.prog.underlying 153 with|some (.struct fs)=>fs|_=> #[]).toList:=rfl
   rw [hf,Tryz.underlying153]
   simp [Op.eqFields,go_sem,Cd]
   by_cases h0:a0=b0<;>by_cases h1:a1=b1<;>simp [h0,h1]
theorem oI:Nb Tryz.prog 153 ⟨true,2,[(0,1),(1,1)],none,some [.int .i64 0,.int .i64 0],3,none,[false,false]⟩:=⟨Tryz.sizeOf153,Tryz.isAgg153,(fun h=>by cases h),(fun j off fs h=>match j,h with|0,h=>by injection h with h;injection h with h1 h2;subst h1 h2;exact ⟨_,_,Tryz.runUnderlying153,rfl,rfl,Tryz.sizeOf3,by decide⟩|1,h=>by injection h with h;injection h with h1 h2;subst h1 h2;exact ⟨_,_,Tryz.runUnderlying153,rfl,rfl,Tryz.sizeOf3,by decide⟩|_+2,h=>by simp at h),(fun _ _ _ h=>by cases h),(fun _ _ _ _ _ h=>by cases h),(fun zs h=>by cases h;exact ⟨_,Tryz.zeroValue153,rfl,by simp [Value.oneCell']⟩),(fun _ _ _=>⟨_,Tryz.runUnderlying153,fun w=>by simp [Tryz.sizeOf3]⟩),(fun h=>by cases h),(fun _ h=>by cases h),(fun h=>by cases h),(fun _=>oG),(fun _=>oH),(fun j off fs b h h2=>match j,h,h2 with|0,h,h2=>by injection h with h;injection h with h1 h3;subst h1 h3;injection h2 with h2;subst h2;exact ⟨_,_,Tryz.runUnderlying153,rfl,rfl,Tryz.isAgg3,Tryz.sizeOf3⟩|1,h,h2=>by injection h with h;injection h with h1 h3;subst h1 h3;injection h2 with h2;subst h2;exact ⟨_,_,Tryz.runUnderlying153,rfl,rfl,Tryz.isAgg3,Tryz.sizeOf3⟩|_+2,h,_=>by simp at h)⟩
theorem oJ:Nb Tryz.prog 161 ⟨false,1,[],none,some [.int .u64 0],0,some .u64,[]⟩:=⟨Tryz.sizeOf161,Tryz.isAgg161,(fun _=>rfl),(fun _ _ _ h=>by simp at h),(fun _ _ _ h=>by cases h),(fun _ _ _ _ _ h=>by cases h),(fun zs h=>by cases h;exact ⟨_,Tryz.zeroValue161,rfl,by simp [Value.oneCell']⟩),(fun _ _ h=>by cases h),(fun h=>by cases h),(fun _ h=>by cases h;exact Tryz.runUnderlying161),(fun h=>by cases h),(fun h=>by cases h),(fun h=>by cases h),(fun _ _ _ _ _ h=>by simp at h)⟩
theorem oK:Nb Tryz.prog 173 ⟨false,1,[],none,some [.int .u32 0],0,some .u32,[]⟩:=⟨Tryz.sizeOf173,Tryz.isAgg173,(fun _=>rfl),(fun _ _ _ h=>by simp at h),(fun _ _ _ h=>by cases h),(fun _ _ _ _ _ h=>by cases h),(fun zs h=>by cases h;exact ⟨_,Tryz.zeroValue173,rfl,by simp [Value.oneCell']⟩),(fun _ _ h=>by cases h),(fun h=>by cases h),(fun _ h=>by cases h;exact Tryz.runUnderlying173),(fun h=>by cases h),(fun h=>by cases h),(fun h=>by cases h),(fun _ _ _ _ _ h=>by simp at h)⟩
theorem oL:Nb Tryz.prog 176 ⟨false,1,[],none,some [.int .u64 0],0,some .u64,[]⟩:=⟨Tryz.sizeOf176,Tryz.isAgg176,(fun _=>rfl),(fun _ _ _ h=>by simp at h),(fun _ _ _ h=>by cases h),(fun _ _ _ _ _ h=>by cases h),(fun zs h=>by cases h;exact ⟨_,Tryz.zeroValue176,rfl,by simp [Value.oneCell']⟩),(fun _ _ h=>by cases h),(fun h=>by cases h),(fun _ h=>by cases h;exact Tryz.runUnderlying176),(fun h=>by cases h),(fun h=>by cases h),(fun h=>by cases h),(fun _ _ _ _ _ h=>by simp at h)⟩
set_option maxRecDepth 100000 in
theorem oM:∀(ps qs:List Int),ps.length=2→qs.length=2→∀x y w,(do eqGuard .eql 183 x y (.agg (ps.map (Value.int .i64)).toArray) (.agg (qs.map (Value.int .i64)).toArray);binOp .eql 183 (.agg (ps.map (Value.int .i64)).toArray) (.agg (qs.map (Value.int .i64)).toArray):Sem Value).run Tryz.prog w=.ok (.bool (Cd ps qs)) w
  |[a0,a1],[b0,b1],_,_,x,y,w=>by
   have hu:Tryz.prog.underlying 183=some (.struct (Tryz.prog.fieldsOf 183)):=by kernel_rfl
   have hst:Tryz.prog.stoodInHeld 183=false:=by kernel_rfl
   simp only [List.map_cons,List.map_nil]
   rw [Sem.run_bind,run_eqGuard_agg w .eql 183 x y _ _ (by kernel_rfl),Result.andThen_ok,run_eql_struct,run_equalIn_struct w 9999 _ _ _ hu hst]
   have hf:(Tryz.prog.fieldsOf 183).toList=(match Tryz.prog.underlying 183 with|some (.struct fs)=>fs|_=> #[]).toList:=rfl
   rw [hf,Tryz.underlying183]
   simp [Op.eqFields,go_sem,Cd]
   by_cases h0:a0=b0<;>by_cases h1:a1=b1<;>simp [h0,h1]
set_option maxRecDepth 100000 in
theorem oN:∀(ps qs:List Int),ps.length=2→qs.length=2→∀x y w,(do eqGuard .neq 183 x y (.agg (ps.map (Value.int .i64)).toArray) (.agg (qs.map (Value.int .i64)).toArray);binOp .neq 183 (.agg (ps.map (Value.int .i64)).toArray) (.agg (qs.map (Value.int .i64)).toArray):Sem Value).run Tryz.prog w=.ok (.bool (!Cd ps qs)) w
  |[a0,a1],[b0,b1],_,_,x,y,w=>by
   have hu:Tryz.prog.underlying 183=some (.struct (Tryz.prog.fieldsOf 183)):=by kernel_rfl
   have hst:Tryz.prog.stoodInHeld 183=false:=by kernel_rfl
   simp only [List.map_cons,List.map_nil]
   rw [Sem.run_bind,run_eqGuard_agg w .neq 183 x y _ _ (by kernel_rfl),Result.andThen_ok,run_neq_struct,run_equalIn_struct w 9999 _ _ _ hu hst]
   have hf:(Tryz.prog.fieldsOf 183).toList=(match Tryz.prog.underlying 183 with|some (.struct fs)=>fs|_=> #[]).toList:=rfl
   rw [hf,Tryz.underlying183]
   simp [Op.eqFields,go_sem,Cd]
   by_cases h0:a0=b0<;>by_cases h1:a1=b1<;>simp [h0,h1]
theorem oO:Nb Tryz.prog 183 ⟨true,2,[(0,1),(1,1)],none,some [.int .i64 0,.int .i64 0],3,none,[false,false]⟩:=⟨Tryz.sizeOf183,Tryz.isAgg183,(fun h=>by cases h),(fun j off fs h=>match j,h with|0,h=>by injection h with h;injection h with h1 h2;subst h1 h2;exact ⟨_,_,Tryz.runUnderlying183,rfl,rfl,Tryz.sizeOf3,by decide⟩|1,h=>by injection h with h;injection h with h1 h2;subst h1 h2;exact ⟨_,_,Tryz.runUnderlying183,rfl,rfl,Tryz.sizeOf3,by decide⟩|_+2,h=>by simp at h),(fun _ _ _ h=>by cases h),(fun _ _ _ _ _ h=>by cases h),(fun zs h=>by cases h;exact ⟨_,Tryz.zeroValue183,rfl,by simp [Value.oneCell']⟩),(fun _ _ _=>⟨_,Tryz.runUnderlying183,fun w=>by simp [Tryz.sizeOf3]⟩),(fun h=>by cases h),(fun _ h=>by cases h),(fun h=>by cases h),(fun _=>oM),(fun _=>oN),(fun j off fs b h h2=>match j,h,h2 with|0,h,h2=>by injection h with h;injection h with h1 h3;subst h1 h3;injection h2 with h2;subst h2;exact ⟨_,_,Tryz.runUnderlying183,rfl,rfl,Tryz.isAgg3,Tryz.sizeOf3⟩|1,h,h2=>by injection h with h;injection h with h1 h3;subst h1 h3;injection h2 with h2;subst h2;exact ⟨_,_,Tryz.runUnderlying183,rfl,rfl,Tryz.isAgg3,Tryz.sizeOf3⟩|_+2,h,_=>by simp at h)⟩
theorem oP:Nb Tryz.prog 189 ⟨false,1,[],none,some [.int .i64 0],0,some .i64,[]⟩:=⟨Tryz.sizeOf189,Tryz.isAgg189,(fun _=>rfl),(fun _ _ _ h=>by simp at h),(fun _ _ _ h=>by cases h),(fun _ _ _ _ _ h=>by cases h),(fun zs h=>by cases h;exact ⟨_,Tryz.zeroValue189,rfl,by simp [Value.oneCell']⟩),(fun _ _ h=>by cases h),(fun h=>by cases h),(fun _ h=>by cases h;exact Tryz.runUnderlying189),(fun h=>by cases h),(fun h=>by cases h),(fun h=>by cases h),(fun _ _ _ _ _ h=>by simp at h)⟩
theorem oQ:Nb Tryz.prog 199 ⟨false,1,[],none,some [.int .u64 0],0,some .u64,[]⟩:=⟨Tryz.sizeOf199,Tryz.isAgg199,(fun _=>rfl),(fun _ _ _ h=>by simp at h),(fun _ _ _ h=>by cases h),(fun _ _ _ _ _ h=>by cases h),(fun zs h=>by cases h;exact ⟨_,Tryz.zeroValue199,rfl,by simp [Value.oneCell']⟩),(fun _ _ h=>by cases h),(fun h=>by cases h),(fun _ h=>by cases h;exact Tryz.runUnderlying199),(fun h=>by cases h),(fun h=>by cases h),(fun h=>by cases h),(fun _ _ _ _ _ h=>by simp at h)⟩
theorem oR:Nb Tryz.prog 203 ⟨false,1,[],none,some [.pointer none],0,none,[]⟩:=⟨Tryz.sizeOf203,Tryz.isAgg203,(fun _=>rfl),(fun _ _ _ h=>by simp at h),(fun _ _ _ h=>by cases h),(fun _ _ _ _ _ h=>by cases h),(fun zs h=>by cases h;exact ⟨_,Tryz.zeroValue203,rfl,by simp [Value.oneCell']⟩),(fun _ _ h=>by cases h),(fun h=>by cases h),(fun _ h=>by cases h),(fun h=>by cases h),(fun h=>by cases h),(fun h=>by cases h),(fun _ _ _ _ _ h=>by simp at h)⟩
theorem oS:Nb Tryz.prog 205 ⟨false,1,[],none,some [.pointer none],0,none,[]⟩:=⟨Tryz.sizeOf205,Tryz.isAgg205,(fun _=>rfl),(fun _ _ _ h=>by simp at h),(fun _ _ _ h=>by cases h),(fun _ _ _ _ _ h=>by cases h),(fun zs h=>by cases h;exact ⟨_,Tryz.zeroValue205,rfl,by simp [Value.oneCell']⟩),(fun _ _ h=>by cases h),(fun h=>by cases h),(fun _ h=>by cases h),(fun h=>by cases h),(fun h=>by cases h),(fun h=>by cases h),(fun _ _ _ _ _ h=>by simp at h)⟩
theorem oU:Nb Tryz.prog 209 ⟨true,4,[(0,1),(1,1),(2,1),(3,1)],none,some [.pointer none,.pointer none,.pointer none,.string ⟨#[]⟩],0,none,[false,false,false,false]⟩:=⟨Tryz.sizeOf209,Tryz.isAgg209,(fun h=>by cases h),(fun j off fs h=>match j,h with|0,h=>by injection h with h;injection h with h1 h2;subst h1 h2;exact ⟨_,_,Tryz.runUnderlying209,rfl,rfl,Tryz.sizeOf17,by decide⟩|1,h=>by injection h with h;injection h with h1 h2;subst h1 h2;exact ⟨_,_,Tryz.runUnderlying209,rfl,rfl,Tryz.sizeOf17,by decide⟩|2,h=>by injection h with h;injection h with h1 h2;subst h1 h2;exact ⟨_,_,Tryz.runUnderlying209,rfl,rfl,Tryz.sizeOf17,by decide⟩|3,h=>by injection h with h;injection h with h1 h2;subst h1 h2;exact ⟨_,_,Tryz.runUnderlying209,rfl,rfl,Tryz.sizeOf9,by decide⟩|_+4,h=>by simp at h),(fun _ _ _ h=>by cases h),(fun _ _ _ _ _ h=>by cases h),(fun zs h=>by cases h;exact ⟨_,Tryz.zeroValue209,rfl,by simp [Value.oneCell']⟩),(fun _ _ _=>⟨_,Tryz.runUnderlying209,fun w=>by simp [Tryz.sizeOf17,Tryz.sizeOf9]⟩),(fun h=>by cases h),(fun _ h=>by cases h),(fun h=>by cases h),(fun h=>by cases h),(fun h=>by cases h),(fun j off fs b h h2=>match j,h,h2 with|0,h,h2=>by injection h with h;injection h with h1 h3;subst h1 h3;injection h2 with h2;subst h2;exact ⟨_,_,Tryz.runUnderlying209,rfl,rfl,Tryz.isAgg17,Tryz.sizeOf17⟩|1,h,h2=>by injection h with h;injection h with h1 h3;subst h1 h3;injection h2 with h2;subst h2;exact ⟨_,_,Tryz.runUnderlying209,rfl,rfl,Tryz.isAgg17,Tryz.sizeOf17⟩|2,h,h2=>by injection h with h;injection h with h1 h3;subst h1 h3;injection h2 with h2;subst h2;exact ⟨_,_,Tryz.runUnderlying209,rfl,rfl,Tryz.isAgg17,Tryz.sizeOf17⟩|3,h,h2=>by injection h with h;injection h with h1 h3;subst h1 h3;injection h2 with h2;subst h2;exact ⟨_,_,Tryz.runUnderlying209,rfl,rfl,Tryz.isAgg9,Tryz.sizeOf9⟩|_+4,h,_=>by simp at h)⟩
theorem oV:Nb Tryz.prog 210 ⟨true,4,[(0,1),(1,1),(2,1),(3,1)],none,some [.pointer none,.pointer none,.pointer none,.string ⟨#[]⟩],0,none,[false,false,false,false]⟩:=⟨Tryz.sizeOf210,Tryz.isAgg210,(fun h=>by cases h),(fun j off fs h=>match j,h with|0,h=>by injection h with h;injection h with h1 h2;subst h1 h2;exact ⟨_,_,Tryz.runUnderlying210,rfl,rfl,Tryz.sizeOf17,by decide⟩|1,h=>by injection h with h;injection h with h1 h2;subst h1 h2;exact ⟨_,_,Tryz.runUnderlying210,rfl,rfl,Tryz.sizeOf17,by decide⟩|2,h=>by injection h with h;injection h with h1 h2;subst h1 h2;exact ⟨_,_,Tryz.runUnderlying210,rfl,rfl,Tryz.sizeOf17,by decide⟩|3,h=>by injection h with h;injection h with h1 h2;subst h1 h2;exact ⟨_,_,Tryz.runUnderlying210,rfl,rfl,Tryz.sizeOf9,by decide⟩|_+4,h=>by simp at h),(fun _ _ _ h=>by cases h),(fun _ _ _ _ _ h=>by cases h),(fun zs h=>by cases h;exact ⟨_,Tryz.zeroValue210,rfl,by simp [Value.oneCell']⟩),(fun _ _ _=>⟨_,Tryz.runUnderlying210,fun w=>by simp [Tryz.sizeOf17,Tryz.sizeOf9]⟩),(fun h=>by cases h),(fun _ h=>by cases h),(fun h=>by cases h),(fun h=>by cases h),(fun h=>by cases h),(fun j off fs b h h2=>match j,h,h2 with|0,h,h2=>by injection h with h;injection h with h1 h3;subst h1 h3;injection h2 with h2;subst h2;exact ⟨_,_,Tryz.runUnderlying210,rfl,rfl,Tryz.isAgg17,Tryz.sizeOf17⟩|1,h,h2=>by injection h with h;injection h with h1 h3;subst h1 h3;injection h2 with h2;subst h2;exact ⟨_,_,Tryz.runUnderlying210,rfl,rfl,Tryz.isAgg17,Tryz.sizeOf17⟩|2,h,h2=>by injection h with h;injection h with h1 h3;subst h1 h3;injection h2 with h2;subst h2;exact ⟨_,_,Tryz.runUnderlying210,rfl,rfl,Tryz.isAgg17,Tryz.sizeOf17⟩|3,h,h2=>by injection h with h;injection h with h1 h3;subst h1 h3;injection h2 with h2;subst h2;exact ⟨_,_,Tryz.runUnderlying210,rfl,rfl,Tryz.isAgg9,Tryz.sizeOf9⟩|_+4,h,_=>by simp at h)⟩
theorem oW:Nb Tryz.prog 215 ⟨false,1,[],none,some [.int .u8 0],0,some .u8,[]⟩:=⟨Tryz.sizeOf215,Tryz.isAgg215,(fun _=>rfl),(fun _ _ _ h=>by simp at h),(fun _ _ _ h=>by cases h),(fun _ _ _ _ _ h=>by cases h),(fun zs h=>by cases h;exact ⟨_,Tryz.zeroValue215,rfl,by simp [Value.oneCell']⟩),(fun _ _ h=>by cases h),(fun h=>by cases h),(fun _ h=>by cases h;exact Tryz.runUnderlying215),(fun h=>by cases h),(fun h=>by cases h),(fun h=>by cases h),(fun _ _ _ _ _ h=>by simp at h)⟩
theorem oX:Nb Tryz.prog 216 ⟨false,1,[],none,some [.int .u8 0],0,some .u8,[]⟩:=⟨Tryz.sizeOf216,Tryz.isAgg216,(fun _=>rfl),(fun _ _ _ h=>by simp at h),(fun _ _ _ h=>by cases h),(fun _ _ _ _ _ h=>by cases h),(fun zs h=>by cases h;exact ⟨_,Tryz.zeroValue216,rfl,by simp [Value.oneCell']⟩),(fun _ _ h=>by cases h),(fun h=>by cases h),(fun _ h=>by cases h;exact Tryz.runUnderlying216),(fun h=>by cases h),(fun h=>by cases h),(fun h=>by cases h),(fun _ _ _ _ _ h=>by simp at h)⟩
theorem oY:Nb Tryz.prog 218 ⟨false,1,[],none,some [.pointer none],0,none,[]⟩:=⟨Tryz.sizeOf218,Tryz.isAgg218,(fun _=>rfl),(fun _ _ _ h=>by simp at h),(fun _ _ _ h=>by cases h),(fun _ _ _ _ _ h=>by cases h),(fun zs h=>by cases h;exact ⟨_,Tryz.zeroValue218,rfl,by simp [Value.oneCell']⟩),(fun _ _ h=>by cases h),(fun h=>by cases h),(fun _ h=>by cases h),(fun h=>by cases h),(fun h=>by cases h),(fun h=>by cases h),(fun _ _ _ _ _ h=>by simp at h)⟩
theorem oZ:Nb Tryz.prog 219 ⟨false,1,[],none,some [.int .i32 0],0,some .i32,[]⟩:=⟨Tryz.sizeOf219,Tryz.isAgg219,(fun _=>rfl),(fun _ _ _ h=>by simp at h),(fun _ _ _ h=>by cases h),(fun _ _ _ _ _ h=>by cases h),(fun zs h=>by cases h;exact ⟨_,Tryz.zeroValue219,rfl,by simp [Value.oneCell']⟩),(fun _ _ h=>by cases h),(fun h=>by cases h),(fun _ h=>by cases h;exact Tryz.runUnderlying219),(fun h=>by cases h),(fun h=>by cases h),(fun h=>by cases h),(fun _ _ _ _ _ h=>by simp at h)⟩
theorem pA:Nb Tryz.prog 220 ⟨false,1,[],none,some [.int .i32 0],0,some .i32,[]⟩:=⟨Tryz.sizeOf220,Tryz.isAgg220,(fun _=>rfl),(fun _ _ _ h=>by simp at h),(fun _ _ _ h=>by cases h),(fun _ _ _ _ _ h=>by cases h),(fun zs h=>by cases h;exact ⟨_,Tryz.zeroValue220,rfl,by simp [Value.oneCell']⟩),(fun _ _ h=>by cases h),(fun h=>by cases h),(fun _ h=>by cases h;exact Tryz.runUnderlying220),(fun h=>by cases h),(fun h=>by cases h),(fun h=>by cases h),(fun _ _ _ _ _ h=>by simp at h)⟩
theorem pB:Nb Tryz.prog 221 ⟨true,11,[(0,1),(1,1),(2,1),(3,1),(4,1),(5,1),(6,1),(7,1),(8,1),(9,1),(10,1)],none,some [.int .u64 0,.int .u64 0,.int .u32 0,.int .u8 0,.int .u8 0,.int .u8 0,.int .u8 0,.nilFunc,.pointer none,.int .i32 0,.int .i32 0],0,none,[]⟩:=⟨Tryz.sizeOf221,Tryz.isAgg221,(fun h=>by cases h),(fun j off fs h=>match j,h with|0,h=>by injection h with h;injection h with h1 h2;subst h1 h2;exact ⟨_,_,Tryz.runUnderlying221,rfl,rfl,Tryz.sizeOf12,by decide⟩|1,h=>by injection h with h;injection h with h1 h2;subst h1 h2;exact ⟨_,_,Tryz.runUnderlying221,rfl,rfl,Tryz.sizeOf12,by decide⟩|2,h=>by injection h with h;injection h with h1 h2;subst h1 h2;exact ⟨_,_,Tryz.runUnderlying221,rfl,rfl,Tryz.sizeOf173,by decide⟩|3,h=>by injection h with h;injection h with h1 h2;subst h1 h2;exact ⟨_,_,Tryz.runUnderlying221,rfl,rfl,Tryz.sizeOf215,by decide⟩|4,h=>by injection h with h;injection h with h1 h2;subst h1 h2;exact ⟨_,_,Tryz.runUnderlying221,rfl,rfl,Tryz.sizeOf5,by decide⟩|5,h=>by injection h with h;injection h with h1 h2;subst h1 h2;exact ⟨_,_,Tryz.runUnderlying221,rfl,rfl,Tryz.sizeOf5,by decide⟩|6,h=>by injection h with h;injection h with h1 h2;subst h1 h2;exact ⟨_,_,Tryz.runUnderlying221,rfl,rfl,Tryz.sizeOf216,by decide⟩|7,h=>by injection h with h;injection h with h1 h2;subst h1 h2;exact ⟨_,_,Tryz.runUnderlying221,rfl,rfl,Tryz.sizeOf217,by decide⟩|8,h=>by injection h with h;injection h with h1 h2;subst h1 h2;exact ⟨_,_,Tryz.runUnderlying221,rfl,rfl,Tryz.sizeOf218,by decide⟩|9,h=>by injection h with h;injection h with h1 h2;subst h1 h2;exact ⟨_,_,Tryz.runUnderlying221,rfl,rfl,Tryz.sizeOf219,by decide⟩|10,h=>by injection h with h;injection h with h1 h2;subst h1 h2;exact ⟨_,_,Tryz.runUnderlying221,rfl,rfl,Tryz.sizeOf220,by decide⟩|_+11,h=>by simp at h),(fun _ _ _ h=>by cases h),(fun _ _ _ _ _ h=>by cases h),(fun zs h=>by cases h;exact ⟨_,Tryz.zeroValue221,rfl,by simp [Value.oneCell']⟩),(fun _ _ _=>⟨_,Tryz.runUnderlying221,fun w=>by simp [Tryz.sizeOf12,Tryz.sizeOf173,Tryz.sizeOf215,Tryz.sizeOf216,Tryz.sizeOf217,Tryz.sizeOf218,Tryz.sizeOf219,Tryz.sizeOf220,Tryz.sizeOf5]⟩),(fun h=>by cases h),(fun _ h=>by cases h),(fun h=>by cases h),(fun h=>by cases h),(fun h=>by cases h),(fun _ _ _ _ _ h=>by simp at h)⟩
theorem pC:Nb Tryz.prog 222 ⟨true,11,[(0,1),(1,1),(2,1),(3,1),(4,1),(5,1),(6,1),(7,1),(8,1),(9,1),(10,1)],none,some [.int .u64 0,.int .u64 0,.int .u32 0,.int .u8 0,.int .u8 0,.int .u8 0,.int .u8 0,.nilFunc,.pointer none,.int .i32 0,.int .i32 0],0,none,[]⟩:=⟨Tryz.sizeOf222,Tryz.isAgg222,(fun h=>by cases h),(fun j off fs h=>match j,h with|0,h=>by injection h with h;injection h with h1 h2;subst h1 h2;exact ⟨_,_,Tryz.runUnderlying222,rfl,rfl,Tryz.sizeOf12,by decide⟩|1,h=>by injection h with h;injection h with h1 h2;subst h1 h2;exact ⟨_,_,Tryz.runUnderlying222,rfl,rfl,Tryz.sizeOf12,by decide⟩|2,h=>by injection h with h;injection h with h1 h2;subst h1 h2;exact ⟨_,_,Tryz.runUnderlying222,rfl,rfl,Tryz.sizeOf173,by decide⟩|3,h=>by injection h with h;injection h with h1 h2;subst h1 h2;exact ⟨_,_,Tryz.runUnderlying222,rfl,rfl,Tryz.sizeOf215,by decide⟩|4,h=>by injection h with h;injection h with h1 h2;subst h1 h2;exact ⟨_,_,Tryz.runUnderlying222,rfl,rfl,Tryz.sizeOf5,by decide⟩|5,h=>by injection h with h;injection h with h1 h2;subst h1 h2;exact ⟨_,_,Tryz.runUnderlying222,rfl,rfl,Tryz.sizeOf5,by decide⟩|6,h=>by injection h with h;injection h with h1 h2;subst h1 h2;exact ⟨_,_,Tryz.runUnderlying222,rfl,rfl,Tryz.sizeOf216,by decide⟩|7,h=>by injection h with h;injection h with h1 h2;subst h1 h2;exact ⟨_,_,Tryz.runUnderlying222,rfl,rfl,Tryz.sizeOf217,by decide⟩|8,h=>by injection h with h;injection h with h1 h2;subst h1 h2;exact ⟨_,_,Tryz.runUnderlying222,rfl,rfl,Tryz.sizeOf218,by decide⟩|9,h=>by injection h with h;injection h with h1 h2;subst h1 h2;exact ⟨_,_,Tryz.runUnderlying222,rfl,rfl,Tryz.sizeOf219,by decide⟩|10,h=>by injection h with h;injection h with h1 h2;subst h1 h2;exact ⟨_,_,Tryz.runUnderlying222,rfl,rfl,Tryz.sizeOf220,by decide⟩|_+11,h=>by simp at h),(fun _ _ _ h=>by cases h),(fun _ _ _ _ _ h=>by cases h),(fun zs h=>by cases h;exact ⟨_,Tryz.zeroValue222,rfl,by simp [Value.oneCell']⟩),(fun _ _ _=>⟨_,Tryz.runUnderlying222,fun w=>by simp [Tryz.sizeOf12,Tryz.sizeOf173,Tryz.sizeOf215,Tryz.sizeOf216,Tryz.sizeOf217,Tryz.sizeOf218,Tryz.sizeOf219,Tryz.sizeOf220,Tryz.sizeOf5]⟩),(fun h=>by cases h),(fun _ h=>by cases h),(fun h=>by cases h),(fun h=>by cases h),(fun h=>by cases h),(fun _ _ _ _ _ h=>by simp at h)⟩
def M8:List (Nat×TI):=[(2,⟨false,1,[],none,some [.int .i64 0],0,some .i64,[]⟩),
  (3,⟨false,1,[],none,some [.int .i64 0],0,some .i64,[]⟩),
  (4,⟨false,1,[],none,some [.bool false],1,none,[]⟩),
  (5,⟨false,1,[],none,some [.int .u8 0],0,some .u8,[]⟩),
  (9,⟨false,1,[],none,some [.string ⟨#[]⟩],2,none,[]⟩),
  (21,⟨false,1,[],none,some [.int .i32 0],0,some .i32,[]⟩),
  (22,⟨false,1,[],some (139,.lk,24),some [.slice none 0 0],0,none,[]⟩),
  (23,⟨true,2,[(0,1),(1,1)],none,some [.int .i64 0,.slice none 0 0],0,none,[false,false]⟩),
  (24,⟨true,2,[(0,1),(1,1)],none,some [.int .i64 0,.slice none 0 0],0,none,[false,false]⟩),
  (25,⟨false,1,[],some (4,.bool,1),some [.slice none 0 0],0,none,[]⟩),
  (26,⟨false,1,[],some (3,.int,8),some [.slice none 0 0],0,none,[]⟩),
  (27,⟨false,1,[],some (96,.db,24),some [.slice none 0 0],0,none,[]⟩),
  (28,⟨false,1,[],some (102,.pk,48),some [.slice none 0 0],0,none,[]⟩),
  (29,⟨true,6,[(0,2),(2,1),(3,1),(4,1),(5,1)],none,some [.int .i64 0,.slice none 0 0,.slice none 0 0,.slice none 0 0,.slice none 0 0,.slice none 0 0],0,none,[true,false,false,false,false]⟩),
  (30,⟨true,6,[(0,2),(2,1),(3,1),(4,1),(5,1)],none,some [.int .i64 0,.slice none 0 0,.slice none 0 0,.slice none 0 0,.slice none 0 0,.slice none 0 0],0,none,[true,false,false,false,false]⟩),
  (32,⟨false,1,[],some (114,.lk,24),some [.slice none 0 0],0,none,[]⟩),
  (33,⟨true,2,[(0,1),(1,1)],none,some [.int .i64 0,.slice none 0 0],0,none,[false,false]⟩),
  (34,⟨true,2,[(0,1),(1,1)],none,some [.int .i64 0,.slice none 0 0],0,none,[false,false]⟩),
  (36,⟨false,1,[],some (86,.db,24),some [.slice none 0 0],0,none,[]⟩),
  (37,⟨false,1,[],some (112,.pk,48),some [.slice none 0 0],0,none,[]⟩),
  (38,⟨true,6,[(0,2),(2,1),(3,1),(4,1),(5,1)],none,some [.int .i64 0,.slice none 0 0,.slice none 0 0,.slice none 0 0,.slice none 0 0,.slice none 0 0],0,none,[true,false,false,false,false]⟩),
  (39,⟨true,6,[(0,2),(2,1),(3,1),(4,1),(5,1)],none,some [.int .i64 0,.slice none 0 0,.slice none 0 0,.slice none 0 0,.slice none 0 0,.slice none 0 0],0,none,[true,false,false,false,false]⟩),
  (48,⟨false,1,[],some (61,.ev,16),some [.slice none 0 0],0,none,[]⟩),
  (54,⟨false,1,[],some (63,.ev,16),some [.slice none 0 0],0,none,[]⟩),
  (60,⟨true,2,[(0,1),(1,1)],none,some [.int .i64 0,.int .i64 0],0,none,[false,false]⟩),
  (61,⟨true,2,[(0,1),(1,1)],none,some [.int .i64 0,.int .i64 0],3,none,[false,false]⟩),
  (63,⟨true,2,[(0,1),(1,1)],none,some [.int .i64 0,.int .i64 0],3,none,[false,false]⟩),
  (86,⟨false,1,[],some (108,.ls,40),some [.slice none 0 0],0,none,[]⟩),
  (96,⟨false,1,[],some (100,.ls,40),some [.slice none 0 0],0,none,[]⟩),
  (98,⟨false,1,[],some (183,.en,16),some [.slice none 0 0],0,none,[]⟩),
  (99,⟨true,3,[(0,1),(1,1),(2,1)],none,some [.int .i64 0,.int .i64 0,.slice none 0 0],0,none,[false,false,false]⟩),
  (100,⟨true,3,[(0,1),(1,1),(2,1)],none,some [.int .i64 0,.int .i64 0,.slice none 0 0],0,none,[false,false,false]⟩),
  (101,⟨true,4,[(0,1),(1,3)],none,some [.int .i64 0,.int .i64 0,.int .i64 0,.slice none 0 0],0,none,[false,true]⟩),
  (102,⟨true,4,[(0,1),(1,3)],none,some [.int .i64 0,.int .i64 0,.int .i64 0,.slice none 0 0],0,none,[false,true]⟩),
  (106,⟨false,1,[],some (153,.en,16),some [.slice none 0 0],0,none,[]⟩),
  (107,⟨true,3,[(0,1),(1,1),(2,1)],none,some [.int .i64 0,.int .i64 0,.slice none 0 0],0,none,[false,false,false]⟩),
  (108,⟨true,3,[(0,1),(1,1),(2,1)],none,some [.int .i64 0,.int .i64 0,.slice none 0 0],0,none,[false,false,false]⟩),
  (111,⟨true,4,[(0,1),(1,3)],none,some [.int .i64 0,.int .i64 0,.int .i64 0,.slice none 0 0],0,none,[false,true]⟩),
  (112,⟨true,4,[(0,1),(1,3)],none,some [.int .i64 0,.int .i64 0,.int .i64 0,.slice none 0 0],0,none,[false,true]⟩),
  (113,⟨true,3,[(0,1),(1,1),(2,1)],none,some [.int .i64 0,.int .i64 0,.int .i64 0],0,none,[false,false,false]⟩),
  (114,⟨true,3,[(0,1),(1,1),(2,1)],none,some [.int .i64 0,.int .i64 0,.int .i64 0],3,none,[false,false,false]⟩),
  (139,⟨true,3,[(0,1),(1,1),(2,1)],none,some [.int .i64 0,.int .i64 0,.int .i64 0],3,none,[false,false,false]⟩),
  (143,⟨false,1,[],none,some [.pointer none],0,none,[]⟩),
  (152,⟨true,2,[(0,1),(1,1)],none,some [.int .i64 0,.int .i64 0],0,none,[false,false]⟩),
  (153,⟨true,2,[(0,1),(1,1)],none,some [.int .i64 0,.int .i64 0],3,none,[false,false]⟩),
  (161,⟨false,1,[],none,some [.int .u64 0],0,some .u64,[]⟩),
  (173,⟨false,1,[],none,some [.int .u32 0],0,some .u32,[]⟩),
  (176,⟨false,1,[],none,some [.int .u64 0],0,some .u64,[]⟩),
  (183,⟨true,2,[(0,1),(1,1)],none,some [.int .i64 0,.int .i64 0],3,none,[false,false]⟩),
  (189,⟨false,1,[],none,some [.int .i64 0],0,some .i64,[]⟩),
  (199,⟨false,1,[],none,some [.int .u64 0],0,some .u64,[]⟩),
  (203,⟨false,1,[],none,some [.pointer none],0,none,[]⟩),
  (205,⟨false,1,[],none,some [.pointer none],0,none,[]⟩),
  (209,⟨true,4,[(0,1),(1,1),(2,1),(3,1)],none,some [.pointer none,.pointer none,.pointer none,.string ⟨#[]⟩],0,none,[false,false,false,false]⟩),
  (210,⟨true,4,[(0,1),(1,1),(2,1),(3,1)],none,some [.pointer none,.pointer none,.pointer none,.string ⟨#[]⟩],0,none,[false,false,false,false]⟩),
  (215,⟨false,1,[],none,some [.int .u8 0],0,some .u8,[]⟩),
  (216,⟨false,1,[],none,some [.int .u8 0],0,some .u8,[]⟩),
  (218,⟨false,1,[],none,some [.pointer none],0,none,[]⟩),
  (219,⟨false,1,[],none,some [.int .i32 0],0,some .i32,[]⟩),
  (220,⟨false,1,[],none,some [.int .i32 0],0,some .i32,[]⟩),
  (221,⟨true,11,[(0,1),(1,1),(2,1),(3,1),(4,1),(5,1),(6,1),(7,1),(8,1),(9,1),(10,1)],none,some [.int .u64 0,.int .u64 0,.int .u32 0,.int .u8 0,.int .u8 0,.int .u8 0,.int .u8 0,.nilFunc,.pointer none,.int .i32 0,.int .i32 0],0,none,[]⟩),
  (222,⟨true,11,[(0,1),(1,1),(2,1),(3,1),(4,1),(5,1),(6,1),(7,1),(8,1),(9,1),(10,1)],none,some [.int .u64 0,.int .u64 0,.int .u32 0,.int .u8 0,.int .u8 0,.int .u8 0,.int .u8 0,.nilFunc,.pointer none,.int .i32 0,.int .i32 0],0,none,[]⟩)]
def tab:TypeId→Option TI:=II M8
theorem Ia:Qb Tryz.prog tab:=V6 (l:=M8) ⟨mE,⟨mF,⟨mG,⟨mH,⟨mI,⟨mJ,⟨mK,⟨mL,⟨mM,⟨mN,⟨mO,⟨mP,⟨mQ,⟨mR,⟨mS,⟨mT,⟨mU,⟨mV,⟨mW,⟨mX,⟨mY,⟨mZ,⟨nA,⟨nB,⟨nC,⟨nF,⟨nJ,⟨nK,⟨nL,⟨nM,⟨nN,⟨nO,⟨nP,⟨nQ,⟨nR,⟨nS,⟨nT,⟨nU,⟨nV,⟨nW,⟨nZ,⟨oC,⟨oD,⟨oE,⟨oI,⟨oJ,⟨oK,⟨oL,⟨oO,⟨oP,⟨oQ,⟨oR,⟨oS,⟨oU,⟨oV,⟨oW,⟨oX,⟨oY,⟨oZ,⟨pA,⟨pB,⟨pC,trivial⟩⟩⟩⟩⟩⟩⟩⟩⟩⟩⟩⟩⟩⟩⟩⟩⟩⟩⟩⟩⟩⟩⟩⟩⟩⟩⟩⟩⟩⟩⟩⟩⟩⟩⟩⟩⟩⟩⟩⟩⟩⟩⟩⟩⟩⟩⟩⟩⟩⟩⟩⟩⟩⟩⟩⟩⟩⟩⟩⟩⟩⟩
def UI:Ty→Ty
  | .ls=>.uls
  | .db=>.udb
  | .pk=>.upk
  |t=>t
def ZR (i:TI):TI:=⟨i.agg,i.size,i.fields,(match i.elem with|some (e,τ,b)=>some (e,UI τ,b)|none=>none),i.zero,i.prim,i.ik,i.fg⟩
def Ag (t:TypeId):Option TI:=match tab t with|some i=>some (ZR i)|none=>none
theorem N8 {i:TI} {e:TypeId} {τ:Ty} {b:Nat} (h:(ZR i).elem=some (e,τ,b)):∃σ,i.elem=some (e,σ,b)∧τ=UI σ:=by
  unfold ZR at h
  dsimp only at h
  split at h
  ·rename_i e' σ b' he
   simp only [Option.some.injEq,Prod.mk.injEq] at h
   obtain ⟨rfl,rfl,rfl⟩:=h
   exact ⟨σ,he,rfl⟩
  ·cases h
theorem pD (σ:Ty):sz (UI σ)=sz σ:=by cases σ<;>rfl
theorem pE (σ:Ty):Xl (UI σ)=Xl σ:=by cases σ<;>rfl
theorem Xc:Qb Tryz.prog Ag:=fun t i h=>by
  unfold Ag at h
  split at h
  case h_2=>cases h
  rename_i j hj
  injection h with h
  subst h
  have T:=Ia t j hj
  exact { T with
    el:=fun e τ b h=>by
     obtain ⟨σ,h1,rfl⟩:=N8 h
     rw [pD]
     exact T.el e σ b h1
    elz:=fun e τ b inf z h h2 h3=>by
      obtain ⟨σ,h1,rfl⟩:=N8 h
      rw [pE]
      exact T.elz e σ b inf z h1 h2 h3 }
theorem mixed:Tryz.prog.follows .mixedOrders=true:=by kernel_rfl
end
section
open Go.ChangeShapes Go.WideShapes Go.ChangeAt Go.RowKit Go.Deep Go.Joins
theorem BS:ownKnob Tryz.prog.godebug=none:=by kernel_rfl
theorem VI:laidOutB Tryz.prog=true:=by kernel_rfl
def Holds (f:FuncId) (args:Array Value) (W:World):Prop:=Calls Tryz.prog f args W fun e W'=>e=.returned (.bool true)∧Below W.heap.size W W'
def Bo:Nat→Prop:=Da [] []
theorem pF (b:Nat):¬Bo b:=fun ⟨k,o,c,h,_⟩=>by simp at h
def Kp (w:World) (v:Value) (d:PV):Prop:=Cv w Bo (fun _=>False) [] [] d v
theorem pG {w:World} {x:Addr} {v:Value} (h:w.cell? x=some v):∃b o,x=⟨b,o,none⟩:=by
  obtain ⟨b,o,s⟩:=x
  cases s with
  |none=>exact ⟨b,o,rfl⟩
  |some t =>
   unfold World.cell? at h
   split at h<;>simp at h
theorem pH {w:World} {b o:Nat} {v:Value} (h:w.cell? ⟨b,o,none⟩=some v):b<w.heap.size:=by
  unfold World.cell? at h
  rcases Nat.lt_or_ge b w.heap.size with hb|hb
  ·exact hb
  ·simp [Array.getElem?_eq_none hb] at h
section
variable {H:Type} {enc:TypeId×Value→H} {P:Program} {w:World}
theorem pI {α:Type} {n:Nat} {p:Nat→α→Prop} (h:∀i,i<n→∃x,p i x):∃l:List α,l.length=n∧∀(i:Nat) x,l[i]? =some x→p i x:=by
  induction n with
  |zero=>exact ⟨[],rfl,fun i x hx=>by simp at hx⟩
  |succ n ih =>
   obtain ⟨l,hl,hp⟩:=ih fun i hi=>h i (by omega)
   obtain ⟨x,hx⟩:=h n (by omega)
   refine ⟨l++[x],by simp [hl],fun i y hy=>?_⟩
   rcases Nat.lt_or_ge i n with hi|hi
   ·rw [List.getElem?_append_left (by omega)] at hy
    exact hp i y hy
   ·rw [List.getElem?_append_right (by omega)] at hy
    have hi':i=n:=by
      have:=(List.getElem?_eq_some_iff.1 hy).1
      simp at this
      omega
    subst hi'
    rw [hl,Nat.sub_self] at hy
    simp at hy
    subst hy
    exact hx
end
section
variable {H:Type} {enc:TypeId×Value→H} {W:World} {v:Value} {d:DataW H} {p:List MemPlace}
theorem pJ {r:Reach} {b0:Nat} (hv:Value.okWide Tryz.prog W r b0 3 v) (h:DataW.Trod enc Tryz.prog W 0 (fun _=>true) true 3 v d p):∃z:Int,(Lit.int .i64 z).wf=true∧Kp W v (.im (iI z)):=by
  obtain ⟨z,rfl,h1⟩:=open_int Tryz.underlying3 hv h
  exact ⟨z,h1.2.2,Ri.s _⟩
end
end
section
open Go.ChangeShapes Go.WideShapes Go.ChangeAt Go.RowKit Go.Deep Go.Joins
section
variable {H:Type} {enc:TypeId×Value→H} {P:Program} {w:World}
def Th (enc:TypeId×Value→H) (P:Program) (w:World) (e:TypeId) (τ:Ty):Prop:=∀Fa cs x,DataW.trod enc P w 0 (fun _=>true) true Fa e cs=some x→∃y:El τ,F2 (Ri w Bo (fun _=>False)) (cells τ y) cs
theorem O8 {Q:Nat→Value→Prop} {α:Type} {s:Nat}:∀(l:List (α×List Value)) (k:Nat),(∀(i:Nat) p,l[i]? =some p→p.2.length=s∧∀(j:Nat) u,p.2[j]? =some u→Q ((k+i)*s+j) u)→∀(j:Nat) u,(l.flatMap (·.2))[j]? =some u→Q (k*s+j) u
  |[],k,h,j,u,hj=>by simp at hj
  |p::r,k,h,j,u,hj=>by
   have h0:=h 0 p rfl
   rw [List.flatMap_cons,List.getElem?_append] at hj
   split at hj
   ·simpa using h0.2 j u hj
   ·rename_i hlt
    rw [h0.1] at hj hlt
    have:=O8 r (k+1) (fun i q hq=>by
      have:=h (i+1) q (by simpa using hq)
      rwa [show k+(i+1)=k+1+i by omega] at this) (j-s) u hj
    rwa [Nat.succ_mul,show k*s+s+(j-s)=k*s+j by omega] at this
theorem P8 {τ:Ty}:∀(l:List (El τ×List Value)),(∀p∈l,F2 (Ri w Bo (fun _=>False)) (cells τ p.1) p.2)→F2 (Ri w Bo (fun _=>False)) (Ua τ (l.map (·.1))) (l.flatMap (·.2))
  |[],_=>F2.nil
  |p::r,h=>by
   rw [List.map_cons,In,List.flatMap_cons]
   exact (h p (List.mem_cons_self ..)).app (P8 r fun q hq=>h q (List.mem_cons_of_mem _ hq))
theorem Lp {τ:Ty} {t e:TypeId} {Fa:Nat} {cs:List Value} {x:DataW H×List MemPlace} (ht:P.underlying t=some (.slice e)) (hC:P.cellsOf e=sz τ) (hE:Th enc P w e τ) (h:DataW.trod enc P w 0 (fun _=>true) true Fa t cs=some x) :
    ∃(A:Option Addr) (n cap:Nat) (xs:List (El τ)),cs=[.slice A n cap]∧xs.length=n∧n≤maxLen∧∀g,Ri w Bo (fun _=>False) (.sl g τ xs) (.slice A n cap):=by
  rcases open_slice ht h with ⟨rfl,_⟩|⟨a,len,cap,m,n,D,Pl,rfl,_,hl,hm,hmm,_,hi⟩
  ·exact ⟨none,0,0,[],rfl,rfl,Nat.zero_le _,fun g=>.sl g τ [] none 0 0 0 [] (fun h=>by simp at h) ⟨Nat.le_refl _,Nat.zero_le _⟩ rfl (fun j u hu=>by simp at hu) (fun j x u hx=>by simp [Ua] at hx)⟩
  ·simp only [if_true] at hmm
   have each:∀i,i<len→∃p:El τ×List Value,F2 (Ri w Bo (fun _=>False)) (cells τ p.1) p.2∧∀(j:Nat) u,p.2[j]? =some u→w.cell? (a.add (i*sz τ+j))=some u:=fun i hil=>by
     obtain ⟨cs',hc,htr⟩:=hi i (by omega)
     rw [hC] at hc
     obtain ⟨_,hcl,hat⟩:=World.cells?_some hc
     obtain ⟨y,hy⟩:=hE n cs' _ htr
     refine ⟨⟨y,cs'⟩,hy,fun j u hu=>?_⟩
     have hj:j<sz τ:=by
       have:=(List.getElem?_eq_some_iff.1 hu).1
       rw [←hcl];exact this
     have:=hat j hj
     rw [Go.Deep.add_add] at this
     rw [this]
     exact hu
   obtain ⟨l,hl',hp⟩:=pI each
   have hF:=P8 (w:=w) l fun p hp'=>by
     obtain ⟨i,hi'⟩:=List.getElem?_of_mem hp'
     exact (hp i p hi').1
   have hn:(l.map (·.1)).length=len:=by rw [List.length_map,hl']
   have hsz:∀(i:Nat) p,l[i]? =some p→p.2.length=sz τ:=fun i p hip=>by rw [(hp i p hip).1.1,Yi]
   refine ⟨some a,len,cap,l.map (·.1),rfl,hn,by omega,fun g=>?_⟩
   rcases Nat.eq_zero_or_pos len with h0|h0
   ·have hx:l.map (·.1)=[]:=List.length_eq_zero_iff.1 (by rw [hn,h0])
    rw [hx,h0]
    exact .sl g τ [] (some a) cap 0 0 [] (fun h=>by simp at h) ⟨Nat.zero_le _,by omega⟩ rfl (fun j u hu=>by simp at hu) (fun j x u hx=>by simp [Ua] at hx)
   ·have q0:=hp 0 l[0] (List.getElem?_eq_getElem (by omega))
    have hs0:=hsz 0 l[0] (List.getElem?_eq_getElem (by omega))
    have q1:=q0.2 0 _ (List.getElem?_eq_getElem (by rw [hs0];exact Pf τ))
    simp only [Nat.zero_mul,Nat.add_zero,Addr.add_zero'] at q1
    obtain ⟨b,o,rfl⟩:=pG q1
    have hcell:∀(j:Nat) u,(l.flatMap (·.2))[j]? =some u→w.cell? ⟨b,o+j,none⟩=some u:=fun j u hu=>by
      have:=O8 (Q:=fun j u=>w.cell? ((⟨b,o,none⟩:Addr).add j)=some u) (s:=sz τ) l 0 (fun i p hip=>⟨hsz i p hip,fun j u hu=>by
        rw [Nat.zero_add];exact (hp i p hip).2 j u hu⟩) j u hu
      rw [Nat.zero_mul,Nat.zero_add,Addr.add_lit] at this
      exact this
    have:=Ri.sl (w:=w) (E:=Bo) (X:=fun _=>False) g τ (l.map (·.1)) (some ⟨b,o,none⟩) cap b o (l.flatMap (·.2)) (fun _=>⟨rfl,pH q1,pF b,fun _ h=>h⟩) ⟨by rw [hn];exact hl,hm⟩ hF.1 hcell (fun j x u hx hu=>hF.2 j x u hx hu)
    rwa [hn] at this
theorem pK {τ:Ty} {k:IntKind} {e:TypeId} (f:Int→El τ) (hf:∀z,cells τ (f z)=[.s (.int k z)]) (he:P.underlying e=some (.int k)):Th enc P w e τ:=fun Fa cs x h=>by
  obtain ⟨z,rfl,_⟩:=DataW.trod_int he h
  exact ⟨f z,by rw [hf];exact F2.cons (.s _) F2.nil⟩
theorem pL {e:TypeId} (he:P.underlying e=some .bool):Th enc P w e .bool:=fun Fa cs x h=>by
  obtain ⟨b,rfl,_⟩:=DataW.trod_bool he h
  exact ⟨b,F2.cons (.s _) F2.nil⟩
theorem pM {τ:Ty} {e:TypeId} {f0 f1:Field} (f:Int→Int→El τ) (hf:∀a b,cells τ (f a b)=[iI a,iI b]) (he:P.underlying e=some (.struct #[f0,f1])) (hC:P.cellsOf e=2) (hone:oneCellFields P #[f0,f1]=true)
    (h0:P.underlying f0.type=some (.int .i64)) (h1:P.underlying f1.type=some (.int .i64)):Th enc P w e τ:=fun Fa cs x h=>by
  obtain ⟨y0,y1,n',_,hl,g0,g1⟩:=trod_struct2 he h
  obtain ⟨o0,k0⟩:=hone_of hone 0 f0 rfl
  obtain ⟨o1,k1⟩:=hone_of hone 1 f1 rfl
  rw [o0,k0] at g0
  rw [o1,k1] at g1
  obtain ⟨z0,e0,_⟩:=DataW.trod_int h0 g0
  obtain ⟨z1,e1,_⟩:=DataW.trod_int h1 g1
  rw [hC] at hl
  match cs,hl with
  |[c0,c1],_ =>
   simp at e0 e1
   subst e0 e1
   exact ⟨f z0 z1,by rw [hf];exact F2.cons (.s _) (F2.cons (.s _) F2.nil)⟩
theorem pN {τ:Ty} {e:TypeId} {f0 f1 f2:Field} (f:Int→Int→Int→El τ) (hf:∀a b c,cells τ (f a b c)=[iI a,iI b,iI c]) (he:P.underlying e=some (.struct #[f0,f1,f2])) (hC:P.cellsOf e=3) (hone:oneCellFields P #[f0,f1,f2]=true)
    (h0:P.underlying f0.type=some (.int .i64)) (h1:P.underlying f1.type=some (.int .i64)) (h2:P.underlying f2.type=some (.int .i64)):Th enc P w e τ:=fun Fa cs x h=>by
  obtain ⟨y0,y1,y2,n',_,hl,g0,g1,g2⟩:=trod_struct3 he h
  obtain ⟨o0,k0⟩:=hone_of hone 0 f0 rfl
  obtain ⟨o1,k1⟩:=hone_of hone 1 f1 rfl
  obtain ⟨o2,k2⟩:=hone_of hone 2 f2 rfl
  rw [o0,k0] at g0
  rw [o1,k1] at g1
  rw [o2,k2] at g2
  obtain ⟨z0,e0,_⟩:=DataW.trod_int h0 g0
  obtain ⟨z1,e1,_⟩:=DataW.trod_int h1 g1
  obtain ⟨z2,e2,_⟩:=DataW.trod_int h2 g2
  rw [hC] at hl
  match cs,hl with
  |[c0,c1,c2],_ =>
   simp at e0 e1 e2
   subst e0 e1 e2
   exact ⟨f z0 z1 z2,by rw [hf];exact F2.cons (.s _) (F2.cons (.s _) (F2.cons (.s _) F2.nil))⟩
theorem pO {e u:TypeId} {f0 f1 f2:Field} (he:P.underlying e=some (.struct #[f0,f1,f2])) (hC:P.cellsOf e=3) (hone:oneCellFields P #[f0,f1,f2]=true)
    (h0:P.underlying f0.type=some (.int .i64)) (h1:P.underlying f1.type=some (.int .i64)) (h2:P.underlying f2.type=some (.slice u)) (hu:P.cellsOf u=sz .en) (hE:Th enc P w u .en):Th enc P w e .ls:=fun Fa cs x h=>by
  obtain ⟨y0,y1,y2,n',_,hl,g0,g1,g2⟩:=trod_struct3 he h
  obtain ⟨o0,k0⟩:=hone_of hone 0 f0 rfl
  obtain ⟨o1,k1⟩:=hone_of hone 1 f1 rfl
  obtain ⟨o2,k2⟩:=hone_of hone 2 f2 rfl
  rw [o0,k0] at g0
  rw [o1,k1] at g1
  rw [o2,k2] at g2
  obtain ⟨z0,e0,_⟩:=DataW.trod_int h0 g0
  obtain ⟨z1,e1,_⟩:=DataW.trod_int h1 g1
  obtain ⟨A,m,cap,xs,e2,rfl,_,hr⟩:=Lp h2 hu hE g2
  rw [hC] at hl
  match cs,hl with
  |[c0,c1,c2],_ =>
   simp at e0 e1 e2
   subst e0 e1 e2
   exact ⟨⟨z0,z1,xs⟩,F2.cons (.s _) (F2.cons (.s _) (F2.cons (hr true) F2.nil))⟩
theorem pP {e u:TypeId} (he:P.underlying e=some (.slice u)) (hu:P.cellsOf u=sz .ls) (hE:Th enc P w u .ls):Th enc P w e .db:=fun Fa cs x h=>by
  obtain ⟨A,m,cap,xs,rfl,rfl,_,hr⟩:=Lp he hu hE h
  exact ⟨xs,F2.cons (hr true) F2.nil⟩
theorem pQ {e:TypeId} {f0 f1:Field} (he:P.underlying e=some (.struct #[f0,f1])) (hC:P.cellsOf e=4) (h0:P.underlying f0.type=some (.int .i64)) (o0:f0.offset=0) (k0:P.cellsOf f0.type=1) (o1:f1.offset=1) (k1:P.cellsOf f1.type=3) (hE:Th enc P w f1.type .ls):Th enc P w e .pk:=fun Fa cs x h=>by
  obtain ⟨y0,y1,n',_,hl,g0,g1⟩:=trod_struct2 he h
  rw [o0,k0] at g0
  rw [o1,k1] at g1
  obtain ⟨z0,e0,_⟩:=DataW.trod_int h0 g0
  obtain ⟨l,hl1⟩:=hE n' _ _ g1
  rw [hC] at hl
  match cs,hl with
  |[c0,c1,c2,c3],_ =>
   simp at e0 hl1
   subst e0
   exact ⟨⟨z0,l⟩,F2.cons (.s _) hl1⟩
end
section
variable {H:Type} {enc:TypeId×Value→H} {W:World} {v:Value} {d:DataW H} {p:List MemPlace}
theorem pR:Th enc Tryz.prog W 139 .lk:=pN (fun a b c=>(⟨a,b,c⟩:Lk)) (fun _ _ _=>rfl) Tryz.underlying139 (by kernel_rfl) (by kernel_rfl) Tryz.underlying3 Tryz.underlying3 Tryz.underlying3
theorem pS:Th enc Tryz.prog W 183 .en:=pM (fun a b=>(⟨a,b⟩:En)) (fun _ _=>rfl) Tryz.underlying183 (by kernel_rfl) (by kernel_rfl) Tryz.underlying3 Tryz.underlying3
theorem Oy {E X:Nat→Prop} {g:Bool} {τ:Ty} {xs:List (El τ)} {u:Value} (h:Ri W E X (.sl g τ xs) u):xs.length≤maxLen∧∀y∈Ua τ xs,∃u',Ri W E X y u':=by
  cases h with
  |sl _ _ _ A cap b o us hA hcap hl hc hr =>
   refine ⟨Nat.le_trans hcap.1 hcap.2,fun y hy=>?_⟩
   obtain ⟨j,hj⟩:=List.getElem?_of_mem hy
   have hlt:j<us.length:=by rw [hl];exact (List.getElem?_eq_some_iff.1 hj).1
   exact ⟨_,hr j y _ hj (List.getElem?_eq_getElem hlt)⟩
theorem pT {t:TypeId} {f0 f1 f2 f3 f4:Field} {Fa:Nat} {cs:List Value} {x:DataW H×List MemPlace} (ht:Tryz.prog.underlying t=some (.struct #[f0,f1,f2,f3,f4])) (h:DataW.trod enc Tryz.prog W 0 (fun _=>true) true Fa t cs=some x) :
    ∃y0 y1 y2 y3 y4 n,DataW.trod enc Tryz.prog W 0 (fun _=>true) true n f0.type ((cs.drop f0.offset).take (Tryz.prog.cellsOf f0.type))=some y0∧DataW.trod enc Tryz.prog W 0 (fun _=>true) true n f1.type ((cs.drop f1.offset).take (Tryz.prog.cellsOf f1.type))=some y1∧DataW.trod enc Tryz.prog W 0 (fun _=>true) true n f2.type ((cs.drop f2.offset).take (Tryz.prog.cellsOf f2.type))=some y2 ∧
     DataW.trod enc Tryz.prog W 0 (fun _=>true) true n f3.type ((cs.drop f3.offset).take (Tryz.prog.cellsOf f3.type))=some y3∧DataW.trod enc Tryz.prog W 0 (fun _=>true) true n f4.type ((cs.drop f4.offset).take (Tryz.prog.cellsOf f4.type))=some y4:=by
  obtain ⟨xs,n,_,rfl,hl,hlen,hf⟩:=DataW.trod_struct ht h
  match xs,hlen with
  |[y0,y1,y2,y3,y4],_=>exact ⟨y0,y1,y2,y3,y4,n,by simpa using hf 0 f0 rfl,by simpa using hf 1 f1 rfl,by simpa using hf 2 f2 rfl,by simpa using hf 3 f3 rfl,by simpa using hf 4 f4 rfl⟩
theorem Q8:Th enc Tryz.prog W 100 .ls:=pO Tryz.underlying100 (by kernel_rfl) (by kernel_rfl) Tryz.underlying3 Tryz.underlying3 Tryz.underlying98 (by kernel_rfl) pS
theorem CS {r:Reach} {b0:Nat} (hv:Value.okWide Tryz.prog W r b0 30 v) (h:DataW.Trod enc Tryz.prog W 0 (fun _=>true) true 30 v d p):∃(n:Int) (ls:List Lk) (up:List Bool) (sq:List Int) (db:List (List Ls)) (net:List Pk),(ls.length≤maxLen∧up.length≤maxLen∧sq.length≤maxLen∧db.length≤maxLen∧net.length≤maxLen∧(∀d∈db,d.length≤maxLen∧∀l∈d,l.e.length≤maxLen)∧∀p∈net,p.p.e.length≤maxLen)∧∀g,Kp W v (.agg [.im (iI n),.im (.sl g .lk ls),.im (.sl g .bool up),.im (.sl g .int sq),.im (.sl g .db db),.im (.sl g .pk net)]):=by
  obtain ⟨cs,rfl,hsz⟩:=okWide_struct Tryz.underlying30 hv
  have h6:Tryz.prog.cellsOf 30=6:=by kernel_rfl
  rw [h6] at hsz
  obtain ⟨c0,c1,c2,c3,c4,c5,rfl⟩:∃c0 c1 c2 c3 c4 c5,cs= #[c0,c1,c2,c3,c4,c5]:=by
    obtain ⟨l⟩:=cs
    match l,hsz with
    |[c0,c1,c2,c3,c4,c5],_=>exact ⟨c0,c1,c2,c3,c4,c5,rfl⟩
  obtain ⟨Fa,hf⟩:=h
  have hf:DataW.trod enc Tryz.prog W 0 (fun _=>true) true Fa 30 [c0,c1,c2,c3,c4,c5]=some (d,p):=hf
  obtain ⟨y0,y1,y2,y3,y4,k,g0,g1,g2,g3,g4⟩:=pT Tryz.underlying30 hf
  have k0:Tryz.prog.cellsOf 24=2:=by kernel_rfl
  have k1:Tryz.prog.cellsOf 25=1:=by kernel_rfl
  have k2:Tryz.prog.cellsOf 26=1:=by kernel_rfl
  have k3:Tryz.prog.cellsOf 27=1:=by kernel_rfl
  have k4:Tryz.prog.cellsOf 28=1:=by kernel_rfl
  simp only [k0,k1,k2,k3,k4,List.drop_zero,List.drop_succ_cons,List.take_succ_cons,List.take_zero] at g0 g1 g2 g3 g4
  obtain ⟨z0,z1,k',_,_,e0,e1⟩:=trod_struct2 Tryz.underlying24 g0
  have m0:Tryz.prog.cellsOf 3=1:=by kernel_rfl
  have m1:Tryz.prog.cellsOf 22=1:=by kernel_rfl
  simp only [m0,m1,List.drop_zero,List.drop_succ_cons,List.take_succ_cons,List.take_zero] at e0 e1
  obtain ⟨n,q0,_⟩:=DataW.trod_int Tryz.underlying3 e0
  obtain ⟨A1,n1,cap1,ls,q1,hl1,hm1,hr1⟩:=Lp Tryz.underlying22 (by kernel_rfl) pR e1
  obtain ⟨A2,n2,cap2,up,q2,hl2,hm2,hr2⟩:=Lp Tryz.underlying25 (by kernel_rfl) (pL Tryz.underlying4) g1
  obtain ⟨A3,n3,cap3,sq,q3,hl3,hm3,hr3⟩:=Lp Tryz.underlying26 (by kernel_rfl) (pK (τ:=.int) (k:=.i64) (fun z=>z) (fun _=>rfl) Tryz.underlying3) g2
  obtain ⟨A4,n4,cap4,db,q4,hl4,hm4,hr4⟩:=Lp Tryz.underlying27 (by kernel_rfl) (pP Tryz.underlying96 (by kernel_rfl) Q8) g3
  obtain ⟨A5,n5,cap5,net,q5,hl5,hm5,hr5⟩:=Lp Tryz.underlying28 (by kernel_rfl) (pQ Tryz.underlying102 (by kernel_rfl) Tryz.underlying3 (by kernel_rfl) (by kernel_rfl) (by kernel_rfl) (by kernel_rfl) Q8) g4
  simp only [List.cons.injEq,and_true] at q0 q1 q2 q3 q4 q5
  subst q0 q1 q2 q3 q4 q5
  have hdb:=(Oy (hr4 true)).2
  have hnet:=(Oy (hr5 true)).2
  refine ⟨n,ls,up,sq,db,net,⟨by omega,by omega,by omega,by omega,by omega,fun d hd=>?_,fun p hp=>?_⟩,fun g=>⟨_,rfl,F2.cons (Ri.s _) (F2.cons (by subst hl1;exact hr1 g) (F2.cons (by subst hl2;exact hr2 g) (F2.cons (by subst hl3;exact hr3 g) (F2.cons (by subst hl4;exact hr4 g) (F2.cons (by subst hl5;exact hr5 g) F2.nil)))))⟩⟩
  ·obtain ⟨u,hu⟩:=hdb (.sl true .ls d) (List.mem_flatMap.2 ⟨d,hd,by simp [cells]⟩)
   obtain ⟨h1,h2⟩:=Oy hu
   refine ⟨h1,fun l hl=>?_⟩
   obtain ⟨u2,hu2⟩:=h2 (.sl true .en l.e) (List.mem_flatMap.2 ⟨l,hl,by simp [cells]⟩)
   exact (Oy hu2).1
  ·obtain ⟨u,hu⟩:=hnet (.sl true .en p.p.e) (List.mem_flatMap.2 ⟨p,hp,by simp [cells]⟩)
   exact (Oy hu).1
end
end
section
open Go.RowKit
section
variable {w w':World} {E X:Nat→Prop} {h:List Ca} {β:List (Nat×Nat)}
theorem Pb.keepE (hh:Pb w E X h β) (hs:w.heap.size≤w'.heap.size) (hl:∀b,Da h β b→w'.heap[b]? =w.heap[b]?) (hk:∀b,b<w.heap.size→¬E b→w'.heap[b]? =w.heap[b]?):Pb w' E X h β:=by
  have back:∀{k:Nat} {p:Nat×Nat} {σ:Ty} {u:Value},Va w' h β k p σ u→Va w h β k p σ u:=fun {k p σ u} ho=>by
    have ho':=ho
    obtain ⟨t,τ,xs,b,c,us,junk,z1,z2,z3,_⟩:=ho'
    exact Tu hh z1 z1 (fun _ h=>h) (fun b' c' h1 h2 h3=>hl b' ⟨k,_,c',z1,h3,h1⟩) hk ho
  have backO:∀{k:Nat} {p:Nat×Nat} {n:Nat},Mb w' h β k p n→Mb w h β k p n:=fun {k p n} ⟨σ,u,h1,h2⟩=>⟨σ,u,back h1,h2⟩
  exact ⟨hh.len,hh.sub,hh.nx,fun k o hk'=>(hh.ok k o hk').keep (fun b c h1 h2=>hl b ⟨k,o,c,hk',h2,h1⟩) hk hs (fun _ _ h=>h) (Cc.refl _) (fun _ _ h=>h),hh.inj,fun k p k' p' n h1 h2=>hh.uq k p k' p' n (backO h1) (backO h2),fun k p σ u n h1 h2=>by
    have h3:=back h1
    have h4:=De hh.ok h3 h2
    exact (hh.pl k p σ u n h3 h2).keep h2 (hk n h4.1 h4.2)⟩
def Jm:Ca→Bool
  | .dead=>true
  | .row _ τ _=>τ.flat||τ.u
  |_=>false
theorem R8 {E':Nat→Prop} {τ:Ty} (hf:τ.flat=true) {xs:List (El τ)}:∀x∈Ua τ xs,∀u,Ri w E X x u→Ri w E' (fun _=>False) x u:=fun x hx u hr=>by
  have h1:=Bp (gv:=true) τ xs (fun _=>hf) x hx
  cases h1 with
  |s v=>cases hr;exact .s _
  |nil=>cases hr;exact .nil _
  |sl _ _ h=>cases h
theorem WI {E':Nat→Prop} {ys:List (El .en)} {u:Value} (hr:Ri w E X (.sl true .en ys) u) (hn:∀n,Jc u n→¬E' n):Ri w E' (fun _=>False) (.sl true .en ys) u:=by
  cases hr with
  |sl _ _ _ A cap b o us hA hcap hl hc hr =>
   exact .sl true .en ys A cap b o us (fun h=>⟨(hA h).1,(hA h).2.1,hn b ⟨o,_,_,by rw [(hA h).1],h⟩,fun _=>id⟩) hcap hl hc (fun j x u hx hu=>R8 rfl x (List.mem_of_getElem? hx) u (hr j x u hx hu))
theorem Co (τ:Ty) (hu:τ.u=true∨τ=.ls) (xs:List (El τ)) (i:Nat) (σ:Ty) (ys:List (El σ)) (hx:(Ua τ xs)[i]? =some (.sl true σ ys)):i % sz τ=(if τ.u=true then Yb τ else 2)∧((τ=.udb∧σ=.ls)∨(τ≠.udb∧σ=.en)):=by
  have hil:i<(Ua τ xs).length:=(List.getElem?_eq_some_iff.1 hx).1
  rw [Kb] at hil
  have hz:=Pf τ
  have hq:i / sz τ<xs.length:=by
    apply Nat.div_lt_of_lt_mul;rw [Nat.mul_comm];exact hil
  have hf:=Ro τ xs (i / sz τ) _ (To τ xs (i / sz τ) hq)
  have hm:=Nat.mod_lt i hz
  have h9:(cells τ (Ba τ xs (i / sz τ)))[i % sz τ]? =some (.sl true σ ys):=by
    rw [←hf,List.getElem?_take,if_pos hm,List.getElem?_drop]
    rw [show i / sz τ*sz τ+i % sz τ=i by rw [Nat.mul_comm];exact Nat.div_add_mod i (sz τ)]
    exact hx
  generalize Ba τ xs (i / sz τ)=z at h9
  generalize i % sz τ=r at *
  cases τ<;>simp [Ty.u] at hu<;>simp only [cells] at h9<;>simp only [sz] at hm
  ·match r,hm,h9 with
   |0,_,h9=>simp [iI] at h9
   |1,_,h9=>simp [iI] at h9
   |2,_,h9=>simp at h9;exact ⟨rfl,.inr ⟨by simp,h9.1.symm⟩⟩
  ·match r,hm,h9 with
   |0,_,h9=>simp [iI] at h9
   |1,_,h9=>simp [iI] at h9
   |2,_,h9=>simp at h9;exact ⟨rfl,.inr ⟨by simp,h9.1.symm⟩⟩
  ·match r,hm,h9 with
   |0,_,h9=>simp at h9;exact ⟨rfl,.inl ⟨rfl,h9.1.symm⟩⟩
  ·match r,hm,h9 with
   |0,_,h9=>simp [iI] at h9
   |1,_,h9=>simp [iI] at h9
   |2,_,h9=>simp [iI] at h9
   |3,_,h9=>simp at h9;exact ⟨rfl,.inr ⟨by simp,h9.1.symm⟩⟩
theorem Pb.up {E':Nat→Prop} (hh:Pb w (Da h β) X h β) (hp:∀o∈h,Jm o=true) (hsub:∀b,Da h β b→E' b) (hO:∀k p n,Mb w h β k p n→¬E' n):Pb w E' (fun _=>False) h β:=by
  refine ⟨hh.len,hsub,fun _ _ h=>h,fun k o hk=>?_,hh.inj,hh.uq,hh.pl⟩
  have ho:=hh.ok k o hk
  have hpo:=hp o (List.mem_of_getElem? hk)
  cases o with
  |dead=>trivial
  |vrow t τ=>cases hpo
  |box t cs=>cases hpo
  |row t τ xs =>
   obtain ⟨b,c,h1,h2,h3,h4⟩:=ho
   refine ⟨b,c,h1,h2,h3,fun hc=>?_⟩
   obtain ⟨us,junk,h5,h6,h7,h8⟩:=h4 hc
   refine ⟨us,junk,h5,⟨h6.1,fun i x u hx hu=>?_⟩,h7,h8⟩
   have hr:=h6.2 i x u hx hu
   simp only [Jm,Bool.or_eq_true] at hpo
   rcases hpo with hf|hu'
   ·exact R8 hf x (List.mem_of_getElem? hx) u hr
   ·have hul:us.length=xs.length*sz τ:=by rw [h6.1,Kb]
    have hocc:i % sz τ=Yb τ→Va w h β k (i,0) (Fi τ) u:=fun hm=>⟨t,τ,xs,b,c,us,junk,hk,h1,hc,h5,hul,.inl ⟨hu',rfl,hu,rfl,hm⟩⟩
    rcases Ul τ (.inl hu') xs x (List.mem_of_getElem? hx) with ⟨z,rfl⟩|⟨σ,ys,rfl,_⟩
    ·cases hr;exact .s _
    ·obtain ⟨hm,hk2⟩:=Co τ (.inl hu') xs i σ ys hx
     have hm:i % sz τ=Yb τ:=by
       rw [hm,if_pos hu']
     have hno:∀n,Jc u n→¬E' n:=fun n hs=>hO k (i,0) n ⟨_,u,hocc hm,hs⟩
     rcases hk2 with ⟨rfl,rfl⟩|⟨_,rfl⟩
     ·cases hr with
      |sl _ _ _ A cap b1 o1 us1 hA hcap hl hcc hrr =>
       refine .sl true .ls ys A cap b1 o1 us1 (fun h=>⟨(hA h).1,(hA h).2.1,hno b1 ⟨o1,_,_,by rw [(hA h).1],h⟩,fun _=>id⟩) hcap hl hcc (fun j x u2 hx2 hu2=>?_)
       have hr2:=hrr j x u2 hx2 hu2
       have hpos:0<ys.length:=by
         have:=(List.getElem?_eq_some_iff.1 hx2).1
         rw [Kb] at this
         rcases Nat.eq_zero_or_pos ys.length with e|e
         ·rw [e] at this;simp at this
         ·exact e
       rcases Ul .ls (.inr rfl) ys x (List.mem_of_getElem? hx2) with ⟨z,rfl⟩|⟨σ,zs,rfl,_⟩
       ·cases hr2;exact .s _
       ·obtain ⟨hm2,hk3⟩:=Co .ls (.inr rfl) ys j σ zs hx2
        rcases hk3 with ⟨e,_⟩|⟨_,rfl⟩
        ·cases e
        ·have hj:j<ys.length*3:=by
           have:=(List.getElem?_eq_some_iff.1 hx2).1
           rw [Kb] at this;exact this
         rw [(hA hpos).1] at hu
         exact WI hr2 fun n hs=>hO k (i,j+1) n ⟨.en,u2,⟨t,.udb,xs,b,c,us,junk,hk,h1,hc,h5,hul,.inr ⟨rfl,rfl,b1,o1,ys.length,cap,j,hu,rfl,hj,hm2,hcc j u2 hu2⟩⟩,hs⟩
     ·exact WI hr hno
end
end
section
open Go.RowKit
section
variable {w w':World} {E E' X:Nat→Prop} {h:List Ca} {β:List (Nat×Nat)}
structure UR (w:World) (E:Nat→Prop) (t:TypeId) (τ:Ty) (xs:List (El τ)) (b c:Nat) (u:Value):Prop where
  heap:Pb w E (fun _=>False) [.row t τ xs] [(b,c)]
  val:C1 w E (fun _=>False) [.row t τ xs] [(b,c)] (.own 0) u
structure Hc (w w':World) (S:Nat→Prop):Prop where
  os:w'.os=w.os
  tape:w'.tape=w.tape
  output:w'.output=w.output
  size:w.heap.size≤w'.heap.size
  block:∀n,n<w.heap.size→¬S n→w'.heap[n]? =w.heap[n]?
theorem Hc.refl (w:World) (S:Nat→Prop):Hc w w S:=⟨rfl,rfl,rfl,Nat.le_refl _,fun _ _ _=>rfl⟩
theorem Hc.trans {w'':World} {S:Nat→Prop} (a:Hc w w' S) (b:Hc w' w'' S):Hc w w'' S:=⟨b.os.trans a.os,b.tape.trans a.tape,b.output.trans a.output,Nat.le_trans a.size b.size,fun n hn h=>(b.block n (Nat.lt_of_lt_of_le hn a.size) h).trans (a.block n hn h)⟩
theorem Hc.mono {S S':Nat→Prop} (a:Hc w w' S) (h:∀n,n<w.heap.size→S n→S' n):Hc w w' S':=⟨a.os,a.tape,a.output,a.size,fun n hn hs=>a.block n hn fun h'=>hs (h n hn h')⟩
theorem Pb.down (hh:Pb w E X h β) (hE:∀b,E' b→E b) (hs:∀b,Da h β b→E' b):Pb w E' X h β :=
  ⟨hh.len,hs,hh.nx,fun k o hk=>(hh.ok k o hk).keep (fun _ _ _ _=>rfl) (fun _ _ _=>rfl) (Nat.le_refl _) (fun b _ hn h=>hn (hE b h)) (Cc.refl _) (fun _ _ h=>h),hh.inj,hh.uq,hh.pl⟩
theorem DS {ys:List (El .en)} {u:Value} (hr:Ri w E X (.sl true .en ys) u) (hs:w.heap.size≤w'.heap.size) (hk:∀n,Jc u n→w'.heap[n]? =w.heap[n]?):Ri w' E X (.sl true .en ys) u:=by
  cases hr with
  |sl _ _ _ A cap b o us hA hcap hl hc hr =>
   refine .sl true .en ys A cap b o us (fun h=>⟨(hA h).1,Nat.lt_of_lt_of_le (hA h).2.1 hs,(hA h).2.2⟩) hcap hl (fun j u hu=>?_) (fun j x u hx hu=>?_)
   ·have hp:0<ys.length:=by
      have:=(List.getElem?_eq_some_iff.1 hu).1
      rw [hl,Kb] at this
      rcases Nat.eq_zero_or_pos ys.length with e|e
      ·rw [e] at this;simp at this
      ·exact e
    exact (World.cell?_of_block (a:=⟨b,o+j,none⟩) (hk b ⟨o,_,_,by rw [(hA hp).1],hp⟩)).trans (hc j u hu)
   ·have h1:=Bp (gv:=true) .en ys (fun _=>rfl) x (List.mem_of_getElem? hx)
    have:=hr j x u hx hu
    cases h1 with
    |s v=>cases this;exact .s _
    |nil=>cases this;exact .nil _
    |sl _ _ h=>cases h
theorem S8 {g:Bool} {τ:Ty} {u:Value} (hr:Ri w E X (.sl g τ []) u):∃A c,u=.slice A 0 c∧∀n,¬Jc u n:=by
  cases hr with
  |sl _ _ _ A cap b o us hA hcap hl hc hr=>exact ⟨A,cap,rfl,fun n ⟨_,_,_,e,h⟩=>by injection e with _ e;simp at e;omega⟩
theorem T8 {g:Bool} {τ:Ty} {xs:List (El τ)} {u:Value} (hr:Ri w E X (.sl g τ xs) u) (hp:0<xs.length):∃n,Jc u n:=by
  cases hr with
  |sl _ _ _ A cap b o us hA hcap hl hc hr=>exact ⟨b,o,_,_,by rw [(hA hp).1],hp⟩
theorem pU {ys:List (El .en)} {u:Value} {n:Nat} (hr:Ri w E X (.sl true .en ys) u) (hp:Gg w .en u) (hs:Jc u n):∃c,0<c∧UR w (fun x=>x=n) (Wf .en) .en ys n c u:=by
  obtain ⟨m,len,c,cs,rfl,h1,h2,h3⟩:=hp
  obtain ⟨o,len',c',e,hl⟩:=hs
  injection e with e e2 e3
  injection e with e
  injection e with e1 e4
  subst e1 e2 e3 e4
  cases hr with
  |sl _ _ _ A cap b o us hA hcap hl' hc hr =>
  obtain ⟨e,hb,_⟩:=hA hl
  injection e with e
  injection e with e1 e2
  subst e1 e2
  obtain ⟨l,rfl⟩:∃l:List Value,cs=l.toArray:=⟨cs.toList,by simp⟩
  have hcs:l.length=c*2:=by simpa [sz] using h2
  have hul:us.length=ys.length*2:=by rw [hl',Kb];rfl
  have hc0:0<c:=by omega
  have e1:us=l.take us.length:=by
    refine List.ext_getElem? fun j=>?_
    rcases Nat.lt_or_ge j us.length with hj|hj
    ·have h5:=hc j _ (List.getElem?_eq_getElem hj)
     rw [Nat.zero_add,cell_of_row w m j l.toArray (Wf .en) (0,0) h1,List.getElem?_toArray] at h5
     rw [List.getElem?_take,if_pos hj,h5,List.getElem?_eq_getElem hj]
    ·rw [List.getElem?_eq_none hj,List.getElem?_eq_none (by rw [List.length_take];omega)]
  have e2:us++l.drop us.length=l:=by
    have:=List.take_append_drop us.length l
    rwa [←e1] at this
  have hF:∀{E2 X2:Nat→Prop},F2 (Ri w E2 X2) (Ua .en ys) us:=⟨hl',fun j x u hx hu=>by
    have h1:=Bp (gv:=true) .en ys (fun _=>rfl) x (List.mem_of_getElem? hx)
    have:=hr j x u hx hu
    cases h1 with
    |s v=>cases this;exact .s _
    |nil=>cases this;exact .nil _
    |sl _ _ h=>cases h⟩
  have one:∀{k:Nat} {o:Ca},[Ca.row (Wf .en) .en ys][k]? =some o→k=0∧o=.row (Wf .en) .en ys:=fun {k o} hk=>by
    cases k with
    |zero=>simp at hk;exact ⟨rfl,hk.symm⟩
    |succ k=>simp at hk
  have noocc:∀{k:Nat} {p:Nat×Nat} {σ:Ty} {v:Value},¬Va w [Ca.row (Wf .en) .en ys] [(m,c)] k p σ v:=fun {k p σ v} ⟨t,τ,xs,b,c1,us1,junk,z1,_,_,_,_,z6⟩=>by
    obtain ⟨_,e⟩:=one z1
    injection e with _ e
    subst e
    rcases z6 with ⟨z,_⟩|⟨z,_⟩<;>cases z
  refine ⟨c,hc0,⟨rfl,fun b hb=>?_,fun _ _ h=>h,fun k o hk=>?_,fun j k o o' b c1 c2 hj hk _ _ _ _=>?_,fun k p k' p' n ⟨_,_,z,_⟩=>(noocc z).elim,fun k p σ u n z=>(noocc z).elim⟩,by simp,by simp [Vb],⟨_,_,_,rfl⟩,fun t τ xs hx=>?_⟩
  ·obtain ⟨k,o,c1,z1,z2,z3⟩:=hb
   obtain ⟨rfl,rfl⟩:=one z1
   simp at z3
   exact z3.1.symm
  ·obtain ⟨rfl,rfl⟩:=one hk
   exact ⟨m,c,rfl,fun h=>by omega,hcap.2,fun _=>⟨us,l.drop us.length,by rw [e2];exact h1,hF,Ji (E:=fun _=>False) (X:=fun _=>False) hF,by rw [e2,hcs];rfl⟩⟩
  ·rw [(one hj).1,(one hk).1]
  ·obtain ⟨_,e⟩:=one hx
   cases e
   exact ⟨m,c,_,rfl,rfl,fun _=>rfl,fun _=>trivial⟩
theorem Oc {t:TypeId} {τ:Ty} {xs:List (El τ)} {k:Nat} {o:Ca} (hk:[Ca.row t τ xs][k]? =some o):k=0∧o=.row t τ xs:=by
  cases k with
  |zero=>simp at hk;exact ⟨rfl,hk.symm⟩
  |succ k=>simp at hk
theorem Mp {t:TypeId} {τ:Ty} {xs ys:List (El τ)} {b c n:Nat} (h:Da [.row t τ xs] [(b,c)] n):Da [.row t τ ys] [(b,c)] n:=by
  obtain ⟨k,o,c1,z1,z2,z3⟩:=h
  obtain ⟨rfl,rfl⟩:=Oc z1
  exact ⟨0,_,c1,rfl,z2,z3⟩
section
variable {t:TypeId} {τ:Ty} {xs xs':List (El τ)} {b c:Nat} {u:Value}
theorem UR.liv (H:UR w E t τ xs b c u) (hc:0<c):E b∧b<w.heap.size:=⟨H.heap.sub b ⟨0,_,c,rfl,hc,rfl⟩,Da.lt H.heap ⟨0,_,c,rfl,hc,rfl⟩⟩
theorem UR.cells (H:UR w E t τ xs b c u):(c=0→xs=[])∧c≤maxLen∧(0<c→∃us junk,w.heap[b]? =some (.cells (us++junk).toArray t (0,0))∧F2 (Ri w E (fun _=>False)) (Ua τ xs) us∧(∀u∈us,u.oneCell'=true)∧(us++junk).length=c*sz τ)∧∃A,u=.slice A xs.length c∧(0<c→A=some ⟨b,0,none⟩):=by
  obtain ⟨b',c',h1,h2,h3,h4⟩:=H.heap.ok 0 _ rfl
  obtain ⟨rfl,rfl⟩:b=b'∧c=c':=by simpa using h1
  obtain ⟨_,_,_,h5⟩:=H.val
  obtain ⟨b1,c1,A,q1,q2,q3,_⟩:=h5 t τ xs rfl
  obtain ⟨rfl,rfl⟩:b=b1∧c=c1:=by simpa using q1
  exact ⟨h2,h3,h4,A,q2,q3⟩
theorem pV {ys:List (El .en)} {n:Nat} {v:Value} {E2 X2:Nat→Prop} (H:UR w E t .en ys n c v) (hn:0<c→¬E2 n∧¬X2 n):Ri w E2 X2 (.sl true .en ys) v:=by
  obtain ⟨h1,h2,h3,A,rfl,h4⟩:=H.cells
  rcases Nat.eq_zero_or_pos c with hc|hc
  ·have:=h1 hc
   subst this hc
   exact Nn (A:=A) .en
  ·obtain ⟨us,junk,q1,q2,q3,q4⟩:=h3 hc
   have hle:ys.length≤c:=by
     have:ys.length*sz .en≤c*sz .en:=by rw [←q4,←Kb,←q2.1];simp
     exact Nat.le_of_mul_le_mul_right this (Pf _)
   refine .sl true .en ys A c n 0 us (fun _=>⟨h4 hc,(H.liv hc).2,(hn hc).1,fun _=>(hn hc).2⟩) ⟨hle,h2⟩ q2.1 (fun j u hu=>by rw [Nat.zero_add];exact Qg q1 hu) (fun j x u hx hu=>?_)
   have g1:=Bp (gv:=true) .en ys (fun _=>rfl) x (List.mem_of_getElem? hx)
   have:=q2.2 j x u hx hu
   cases g1 with
   |s v=>cases this;exact .s _
   |nil=>cases this;exact .nil _
   |sl _ _ h=>cases h
theorem U8 {σ:Ty} {ys:List (El σ)} {n:Nat} {v:Value} (H:UR w E (Wf σ) σ ys n c v) (hc:0<c):Gg w σ v:=by
  obtain ⟨h1,h2,h3,A,rfl,h4⟩:=H.cells
  obtain ⟨us,junk,q1,q2,q3,q4⟩:=h3 hc
  have hle:ys.length≤c:=by
    have:ys.length*sz σ≤c*sz σ:=by rw [←q4,←Kb,←q2.1];simp
    exact Nat.le_of_mul_le_mul_right this (Pf _)
  exact ⟨n,_,c,_,by rw [h4 hc],q1,by simpa using q4,hle⟩
theorem V8 {us junk us' junk':List Value} (hb:w.heap[b]? =some (.cells (us++junk).toArray t (0,0))) (hb':w'.heap[b]? =some (.cells (us'++junk').toArray t (0,0))) (hl:us.length=xs.length*sz τ) (hl':us'.length=xs'.length*sz τ) (hx:xs'.length=xs.length) (hτ:τ≠.udb) (hs:∀i,i % sz τ=Yb τ→us'[i]? =us[i]?) {k:Nat} {p:Nat×Nat} {σ:Ty} {v:Value} (ho:Va w' [.row t τ xs'] [(b,c)] k p σ v):Va w [.row t τ xs] [(b,c)] k p σ v:=by
  obtain ⟨t1,τ1,ys,b1,c1,us1,junk1,z1,z2,z3,z4,z5,z6⟩:=ho
  obtain ⟨rfl,e⟩:=Oc z1
  have e:=e.symm
  injection e with e1 e2 e3
  subst e1 e2
  have e3:=eq_of_heq e3
  subst e3
  obtain ⟨rfl,rfl⟩:b=b1∧c=c1:=by simpa using z2
  rw [hb'] at z4
  injection z4 with z4;injection z4 with e1
  have e1:=congrArg Array.toList e1
  simp only [List.toList_toArray] at e1
  obtain rfl:=Qf e1 (by rw [hl',z5])
  rcases z6 with ⟨g1,g2,g3,g4,g5⟩|⟨g1,_⟩
  ·exact ⟨_,τ,xs,b,c,us,junk,rfl,rfl,z3,hb,hl,.inl ⟨g1,g2,by rw [←hs _ g5];exact g3,g4,g5⟩⟩
  ·exact absurd g1 hτ
theorem pW (H:UR w E t τ xs b c u) (hu:τ.u=true) (hτ:τ≠.udb) {q n c1:Nat} {v:Value} {ys ys':List (El .en)} (ho:Va w [.row t τ xs] [(b,c)] 0 (q,0) .en v) (hs:Jc v n) (hC:Hc w w' (·=n)) (H':UR w' (·=n) (Wf .en) .en ys' n c1 v) (hc1:0<c1) (hx:Ua τ xs'=(Ua τ xs).set q (.sl true .en ys')) (hlen:xs'.length=xs.length):UR w' E t τ xs' b c u∧∀k p σ v',Va w' [.row t τ xs'] [(b,c)] k p σ v'→Va w [.row t τ xs] [(b,c)] k p σ v':=by
  have hn:=De H.heap.ok ho hs
  obtain ⟨t1,τ1,zs,b1,c2,us1,junk1,z1,z2,z3,z4,z5,z6⟩:=ho
  obtain ⟨_,e⟩:=Oc z1
  have e:=e.symm
  injection e with e1 e2 e3
  subst e1 e2
  have e3:=eq_of_heq e3
  subst e3
  obtain ⟨rfl,rfl⟩:b=b1∧c=c2:=by simpa using z2
  have hE:=H.liv z3
  have hbn:b≠n:=by rintro rfl;exact hn.2 hE.1
  have hb:=hC.block b hE.2 hbn
  obtain ⟨h1,h2,h3,A,rfl,h4⟩:=H.cells
  obtain ⟨us,junk,q1,q2,q3,q4⟩:=h3 z3
  have hul:us.length=xs.length*sz τ:=by rw [q2.1,Kb]
  have hq:us[q]? =some v∧q % sz τ=Yb τ:=by
    rw [q1] at z4
    injection z4 with z4;injection z4 with e1
    have e1:=congrArg Array.toList e1
    simp only [List.toList_toArray] at e1
    obtain rfl:=Qf e1 (by rw [hul,z5])
    rcases z6 with ⟨_,_,g3,_,g5⟩|⟨g1,_⟩
    ·exact ⟨g3,g5⟩
    ·exact absurd g1 hτ
  have occ:∀{k:Nat} {p:Nat×Nat} {σ:Ty} {v':Value},Va w' [.row t τ xs'] [(b,c)] k p σ v'→Va w [.row t τ xs] [(b,c)] k p σ v':=fun h=>V8 q1 (by rw [hb];exact q1) hul (by rw [hul,hlen]) hlen hτ (fun _ _=>rfl) h
  have place:∀{j:Nat} {v':Value},us[j]? =some v'→j % sz τ=Yb τ→Va w [.row t τ xs] [(b,c)] 0 (j,0) .en v':=fun {j v'} h5 h6=>⟨_,τ,xs,b,c,us,junk,rfl,rfl,z3,q1,hul,.inl ⟨hu,rfl,h5,by cases τ<;>first|rfl|(exact absurd rfl hτ),h6⟩⟩
  have hql:q<(Ua τ xs).length:=by rw [←q2.1];exact (List.getElem?_eq_some_iff.1 hq.1).1
  refine ⟨⟨⟨rfl,fun n h=>H.heap.sub n (Mp h),fun _ _ h=>h,fun k o hk=>?_,fun j k o o' b1 c2 c3 hj hk _ _ _ _=>by rw [(Oc hj).1,(Oc hk).1],fun k p k' p' m ⟨σ,v1,y1,y2⟩ ⟨σ',v2,y3,y4⟩=>H.heap.uq k p k' p' m ⟨σ,v1,occ y1,y2⟩ ⟨σ',v2,occ y3,y4⟩,fun k p σ v1 m y1 y2=>?_⟩,by simp,by simp [Vb],⟨_,_,_,rfl⟩,fun t2 τ2 ws hw=>?_⟩,fun _ _ _ _=>occ⟩
  ·obtain ⟨rfl,rfl⟩:=Oc hk
   refine ⟨b,c,rfl,fun h=>by omega,h2,fun _=>⟨us,junk,by rw [hb];exact q1,⟨by rw [hx,List.length_set];exact q2.1,fun j x u1 hx1 hu1=>?_⟩,q3,q4⟩⟩
   rw [hx,List.getElem?_set] at hx1
   by_cases e:q=j
   ·subst e
    rw [if_pos rfl,if_pos hql] at hx1
    injection hx1 with hx1
    subst hx1
    obtain rfl:v=u1:=by rw [hq.1] at hu1;injection hu1
    exact pV H' fun _=>⟨hn.2,fun h=>h⟩
   ·rw [if_neg e] at hx1
    have hr:=q2.2 j x u1 hx1 hu1
    rcases Ul τ (.inl hu) xs x (List.mem_of_getElem? hx1) with ⟨z,rfl⟩|⟨σ,ws,rfl,_⟩
    ·cases hr;exact .s _
    ·obtain ⟨g1,g2⟩:=Co τ (.inl hu) xs j σ ws hx1
     rw [if_pos hu] at g1
     rcases g2 with ⟨g2,_⟩|⟨_,rfl⟩
     ·exact absurd g2 hτ
     ·refine DS hr hC.size fun m hm=>?_
      have hm2:=De H.heap.ok (place hu1 g1) hm
      refine hC.block m hm2.1 fun e2=>e ?_
      subst e2
      have:=(H.heap.uq 0 (q,0) 0 (j,0) m ⟨_,_,place hq.1 hq.2,hs⟩ ⟨_,_,place hu1 g1,hm⟩).2
      exact (Prod.mk.inj this).1
  ·by_cases e:m=n
   ·subst e
    have:=(H.heap.uq k p 0 (q,0) m ⟨σ,v1,occ y1,y2⟩ ⟨_,_,place hq.1 hq.2,hs⟩)
    obtain ⟨rfl,rfl⟩:=this
    have hv:v1=v∧σ=.en:=by
      obtain ⟨t1,τ1,zs,b1,c2,us1,junk1,y1a,y1b,y1c,y1d,y1e,y1f⟩:=occ y1
      obtain ⟨_,e⟩:=Oc y1a
      have e:=e.symm
      injection e with e1 e2 e3
      subst e1 e2
      have e3:=eq_of_heq e3
      subst e3
      obtain ⟨rfl,rfl⟩:b=b1∧c=c2:=by simpa using y1b
      rw [q1] at y1d
      injection y1d with y1d;injection y1d with e1
      have e1:=congrArg Array.toList e1
      simp only [List.toList_toArray] at e1
      obtain rfl:=Qf e1 (by rw [hul,y1e])
      rcases y1f with ⟨_,_,g3,g4,_⟩|⟨g1,_⟩
      ·rw [hq.1] at g3
       injection g3 with g3
       exact ⟨g3.symm,by rw [g4];cases τ<;>first|rfl|(exact absurd rfl hτ)⟩
      ·exact absurd g1 hτ
    obtain ⟨rfl,rfl⟩:=hv
    exact U8 H' hc1
   ·have hm:=De H.heap.ok (occ y1) y2
    exact (H.heap.pl k p σ v1 m (occ y1) y2).keep y2 (hC.block m hm.1 e)
  ·obtain ⟨_,e⟩:=Oc hw
   have e:=e.symm
   injection e with e1 e2 e3
   subst e1 e2
   have e3:=eq_of_heq e3
   subst e3
   exact ⟨b,c,A,rfl,by rw [hlen],h4,fun _=>trivial⟩
end
end
end
section
open Go.RowKit
section
variable {w w':World} {E E' X:Nat→Prop} {t:TypeId} {τ:Ty} {xs xs':List (El τ)} {b c:Nat} {u:Value}
theorem pX (us junk:List Value) (q:Nat) (v:Value) (hq:q<us.length):(us++junk).toArray.setIfInBounds q v=(us.set q v++junk).toArray:=by
  apply Array.toList_inj.1
  simp [List.set_append_left _ _ hq]
theorem pY (H:UR w E t τ xs b c u) (hτ:τ≠.udb) {q:Nat} {z:Int} (hq:q<(Ua τ xs).length) (hm:τ.u=true→q % sz τ≠Yb τ) (hx:Ua τ xs'=(Ua τ xs).set q (iI z)) (hlen:xs'.length=xs.length):UR (w.setCell ⟨b,q,none⟩ (.int .i64 z)) E t τ xs' b c u∧Hc w (w.setCell ⟨b,q,none⟩ (.int .i64 z)) (·=b)∧∀k p σ v',Va (w.setCell ⟨b,q,none⟩ (.int .i64 z)) [.row t τ xs'] [(b,c)] k p σ v'→Va w [.row t τ xs] [(b,c)] k p σ v':=by
  obtain ⟨h1,h2,h3,A,rfl,h4⟩:=H.cells
  have hc:0<c:=by
    rcases Nat.eq_zero_or_pos c with e|e
    ·have:=h1 e
     subst this
     simp [Ua] at hq
    ·exact e
  have hE:=H.liv hc
  obtain ⟨us,junk,q1,q2,q3,q4⟩:=h3 hc
  have hul:us.length=xs.length*sz τ:=by rw [q2.1,Kb]
  have hqu:q<us.length:=by rw [q2.1];exact hq
  have hb:(w.setCell ⟨b,q,none⟩ (.int .i64 z)).heap[b]? =some (.cells (us.set q (.int .i64 z)++junk).toArray t (0,0)):=by
    have:=Zd.set_ (w:=w) (g:=b) (t:=t) (cs:=(us++junk).toArray) q1 q (.int .i64 z)
    rw [pX _ _ _ _ hqu] at this
    exact this
  have hoth:∀n,n≠b→(w.setCell ⟨b,q,none⟩ (.int .i64 z)).heap[n]? =w.heap[n]? :=fun n hn=>Below.heap_setCell w ⟨b,q,none⟩ _ n hn
  have hsz:(w.setCell ⟨b,q,none⟩ (.int .i64 z)).heap.size=w.heap.size:=by simp [World.setCell]
  have occ:∀{k:Nat} {p:Nat×Nat} {σ:Ty} {v':Value},Va (w.setCell ⟨b,q,none⟩ (.int .i64 z)) [.row t τ xs'] [(b,c)] k p σ v'→Va w [.row t τ xs] [(b,c)] k p σ v':=fun {k p σ v'} h=>by
    cases hu:τ.u with
    |false =>
     obtain ⟨t1,τ1,ys,b1,c1,us1,junk1,z1,z2,z3,z4,z5,z6⟩:=h
     obtain ⟨_,e⟩:=Oc z1
     have e:=e.symm
     injection e with e1 e2 e3
     subst e1 e2
     rcases z6 with ⟨z,_⟩|⟨rfl,_⟩
     ·rw [hu] at z;cases z
     ·cases hu
    |true =>
     refine V8 q1 hb hul (by rw [List.length_set,hul,hlen]) hlen hτ (fun i hi=>?_) h
     rw [List.getElem?_set,if_neg]
     rintro rfl
     exact hm hu hi
  refine ⟨⟨⟨rfl,fun n h=>H.heap.sub n (Mp h),fun _ _ h=>h,fun k o hk=>?_,fun j k o o' b1 c2 c3 hj hk _ _ _ _=>by rw [(Oc hj).1,(Oc hk).1],fun k p k' p' m ⟨σ,v1,y1,y2⟩ ⟨σ',v2,y3,y4⟩=>H.heap.uq k p k' p' m ⟨σ,v1,occ y1,y2⟩ ⟨σ',v2,occ y3,y4⟩,fun k p σ v1 m y1 y2=>?_⟩,by simp,by simp [Vb],⟨_,_,_,rfl⟩,fun t2 τ2 ws hw=>?_⟩,⟨rfl,rfl,rfl,by rw [hsz];exact Nat.le_refl _,fun n _ hn=>hoth n hn⟩,fun _ _ _ _=>occ⟩
  ·obtain ⟨rfl,rfl⟩:=Oc hk
   refine ⟨b,c,rfl,fun h=>by omega,h2,fun _=>⟨us.set q (.int .i64 z),junk,hb,⟨by rw [hx,List.length_set,List.length_set];exact q2.1,fun j x u1 hx1 hu1=>?_⟩,fun u1 hu1=>?_,by rw [List.length_append,List.length_set,←List.length_append];exact q4⟩⟩
   ·rw [hx,List.getElem?_set] at hx1
    rw [List.getElem?_set] at hu1
    by_cases e:q=j
    ·subst e
     rw [if_pos rfl,if_pos hq] at hx1
     rw [if_pos rfl,if_pos hqu] at hu1
     injection hx1 with hx1
     injection hu1 with hu1
     subst hx1 hu1
     exact Ri.s _
    ·rw [if_neg e] at hx1 hu1
     exact (q2.2 j x u1 hx1 hu1).keep (fun m _ hm=>hoth m fun e2=>hm (e2▸hE.1)) (by rw [hsz];exact Nat.le_refl _) (fun _ _ h=>h) (fun _ _ _ h=>h)
   ·rcases List.mem_or_eq_of_mem_set hu1 with h|h
    ·exact q3 _ h
    ·subst h;rfl
  ·have hm:=De H.heap.ok (occ y1) y2
   exact (H.heap.pl k p σ v1 m (occ y1) y2).keep y2 (hoth m fun e=>hm.2 (e▸hE.1))
  ·obtain ⟨_,e⟩:=Oc hw
   have e:=e.symm
   injection e with e1 e2 e3
   subst e1 e2
   have e3:=eq_of_heq e3
   subst e3
   exact ⟨b,c,A,rfl,by rw [hlen],h4,fun _=>trivial⟩
theorem pZ {xs:List (El .udb)} (H:UR w E t .udb xs b c u) {q n:Nat} {v:Value} {ys:List Ls} (ho:Va w [.row t .udb xs] [(b,c)] 0 (q,0) .uls v) (hs:Jc v n) (hy:xs[q]? =some ys):∃c1,0<c1∧UR w (·=n) (Wf .uls) .uls ys n c1 v∧∀p σ v',Va w [.row (Wf .uls) .uls ys] [(n,c1)] 0 p σ v'→p.2=0∧Va w [.row t .udb xs] [(b,c)] 0 (q,p.1+1) σ v':=by
  have hp:=H.heap.pl 0 (q,0) .uls v n ho hs
  have hn:=De H.heap.ok ho hs
  have ho0:=ho
  obtain ⟨t1,τ1,zs,b1,c2,us1,junk1,z1,z2,z3,z4,z5,z6⟩:=ho
  obtain ⟨_,e⟩:=Oc z1
  have e:=e.symm
  injection e with e1 e2 e3
  subst e1 e2
  have e3:=eq_of_heq e3
  subst e3
  obtain ⟨rfl,rfl⟩:b=b1∧c=c2:=by simpa using z2
  obtain ⟨h1,h2,h3,A,rfl,h4⟩:=H.cells
  obtain ⟨us,junk,q1,q2,q3,q4⟩:=h3 z3
  rw [q1] at z4
  injection z4 with z4;injection z4 with e1
  have e1:=congrArg Array.toList e1
  simp only [List.toList_toArray] at e1
  obtain rfl:=Qf e1 (by rw [q2.1,Kb,z5])
  have hq:us[q]? =some v:=by
    rcases z6 with ⟨_,_,g3,_⟩|⟨_,g,_⟩
    ·exact g3
    ·cases g
  have hfl:(Ua .udb xs)[q]? =some (.sl true .ls ys):=by
    have e:∀(l:List (El .udb)),Ua .udb l=l.map fun x=>IV.sl true .ls x:=fun l=>by
      induction l with
      |nil=>rfl
      |cons x r ih=>rw [In,ih];rfl
    rw [e,List.getElem?_map,hy];rfl
  have hr:=q2.2 q _ v hfl hq
  obtain ⟨m,len,c1,cs,rfl,g1,g2,g3⟩:=hp
  obtain ⟨o,len',c',e,hl⟩:=hs
  injection e with e e2 e3
  injection e with e
  injection e with e1 e4
  subst e1 e2 e3 e4
  cases hr with
  |sl _ _ _ A1 cap b1 o1 us2 hA hcap hl' hcc hrr =>
  obtain ⟨e,hb,_⟩:=hA hl
  injection e with e
  injection e with e1 e2
  subst e1 e2
  obtain ⟨l,rfl⟩:∃l:List Value,cs=l.toArray:=⟨cs.toList,by simp⟩
  have hcs:l.length=c1*3:=by simpa [sz] using g2
  have hul:us2.length=ys.length*3:=by rw [hl',Kb];rfl
  have hc0:0<c1:=by omega
  have e1:us2=l.take us2.length:=by
    refine List.ext_getElem? fun j=>?_
    rcases Nat.lt_or_ge j us2.length with hj|hj
    ·have h5:=hcc j _ (List.getElem?_eq_getElem hj)
     rw [Nat.zero_add,cell_of_row w m j l.toArray (Wf .uls) (0,0) g1,List.getElem?_toArray] at h5
     rw [List.getElem?_take,if_pos hj,h5,List.getElem?_eq_getElem hj]
    ·rw [List.getElem?_eq_none hj,List.getElem?_eq_none (by rw [List.length_take];omega)]
  have e2:us2++l.drop us2.length=l:=by
    have:=List.take_append_drop us2.length l
    rwa [←e1] at this
  have occ:∀{k:Nat} {p:Nat×Nat} {σ:Ty} {v':Value},Va w [.row (Wf .uls) .uls ys] [(m,c1)] k p σ v'→k=0∧p.2=0∧σ=.en∧us2[p.1]? =some v'∧Va w [.row t .udb xs] [(b,c)] 0 (q,p.1+1) σ v':=fun {k p σ v'} ⟨t1,τ1,ws,b1,c2,us3,junk3,y1,y2,y3,y4,y5,y6⟩=>by
    obtain ⟨rfl,e⟩:=Oc y1
    have e:=e.symm
    injection e with e1 e2 e3
    subst e1 e2
    have e3:=eq_of_heq e3
    subst e3
    obtain ⟨rfl,rfl⟩:m=b1∧c1=c2:=by simpa using y2
    rw [g1] at y4
    injection y4 with y4;injection y4 with e5
    have e5:=congrArg Array.toList e5
    simp only [List.toList_toArray] at e5
    rw [←e2] at e5
    obtain rfl:=Qf e5 (by rw [hul,y5];rfl)
    rcases y6 with ⟨_,y7,y8,y9,y10⟩|⟨y7,_⟩
    ·refine ⟨rfl,y7,y9,y8,t,.udb,xs,b,c,us,junk,rfl,rfl,z3,q1,z5,.inr ⟨rfl,y9,m,0,ys.length,_,p.1,hq,rfl,?_,y10,?_⟩⟩
     ·have:=(List.getElem?_eq_some_iff.1 y8).1;omega
     ·exact hcc p.1 v' y8
    ·cases y7
  have hF:F2 (Ri w (·=m) (fun _=>False)) (Ua .uls ys) us2:=⟨hl',fun j x u2 hx hu2=>by
    have hr2:=hrr j x u2 hx hu2
    rcases Ul .ls (.inr rfl) ys x (List.mem_of_getElem? hx) with ⟨z,rfl⟩|⟨σ,ws,rfl,_⟩
    ·cases hr2;exact .s _
    ·obtain ⟨k1,k2⟩:=Co .ls (.inr rfl) ys j σ ws hx
     rcases k2 with ⟨k2,_⟩|⟨_,rfl⟩
     ·cases k2
     ·refine WI hr2 fun n2 hn2 e=>?_
      subst e
      have hj:=(List.getElem?_eq_some_iff.1 hu2).1
      have hj3:j % 3=2:=k1
      have:=(H.heap.uq 0 (q,0) 0 (q,j+1) n2 ⟨_,_,ho0,⟨0,_,_,rfl,hl⟩⟩ ⟨.en,u2,⟨t,.udb,xs,b,c,us,junk,rfl,rfl,z3,q1,z5,.inr ⟨rfl,rfl,n2,0,ys.length,_,j,hq,rfl,by omega,hj3,hcc j u2 hu2⟩⟩,hn2⟩).2
      have:=(Prod.mk.inj this).2
      omega⟩
  refine ⟨c1,hc0,⟨⟨rfl,fun b2 hb2=>?_,fun _ _ h=>h,fun k o hk=>?_,fun j k o o' b1 c1 c2 hj hk _ _ _ _=>by rw [(Oc hj).1,(Oc hk).1],fun k p k' p' n2 ⟨σ,v1,y1,y2⟩ ⟨σ',v2,y3,y4⟩=>?_,fun k p σ v1 n2 y1 y2=>?_⟩,by simp,by simp [Vb],⟨_,_,_,rfl⟩,fun t2 τ2 ws hw=>?_⟩,fun p σ v' h=>⟨(occ h).2.1,(occ h).2.2.2.2⟩⟩
  ·obtain ⟨k,o,c3,y1,y2,y3⟩:=hb2
   obtain ⟨rfl,rfl⟩:=Oc y1
   simp at y3
   exact y3.1.symm
  ·obtain ⟨rfl,rfl⟩:=Oc hk
   exact ⟨m,c1,rfl,fun h=>by omega,hcap.2,fun _=>⟨us2,l.drop us2.length,by rw [e2];exact g1,hF,Ji (τ:=.uls) hF,by rw [e2,hcs];rfl⟩⟩
  ·obtain ⟨o1,o2,o3,o4,o5⟩:=occ y1
   obtain ⟨r1,r2,r3,r4,r5⟩:=occ y3
   have:=(H.heap.uq 0 _ 0 _ n2 ⟨_,_,o5,y2⟩ ⟨_,_,r5,y4⟩).2
   have:=(Prod.mk.inj this).2
   exact ⟨o1.trans r1.symm,Prod.ext (by omega) (o2.trans r2.symm)⟩
  ·obtain ⟨o1,o2,o3,o4,o5⟩:=occ y1
   exact H.heap.pl 0 _ σ v1 n2 o5 y2
  ·obtain ⟨_,e⟩:=Oc hw
   have e:=e.symm
   injection e with e1 e2 e3
   subst e1 e2
   have e3:=eq_of_heq e3
   subst e3
   exact ⟨m,c1,_,rfl,rfl,fun _=>rfl,fun _=>trivial⟩
theorem W8 {ys:List (El .ls)} {v:Value} (hr:Ri w E X (.sl true .ls ys) v) (hs:w.heap.size≤w'.heap.size) (hk:∀n,Jc v n→w'.heap[n]? =w.heap[n]?) (hk2:∀b o len c j u2 n,v=.slice (some ⟨b,o,none⟩) len c→j<len*3→j % 3=2→w.cell? ⟨b,o+j,none⟩=some u2→Jc u2 n→w'.heap[n]? =w.heap[n]?):Ri w' E X (.sl true .ls ys) v:=by
  cases hr with
  |sl _ _ _ A cap b o us hA hcap hl hc hr =>
   have hp:∀{j:Nat} {u:Value},us[j]? =some u→0<ys.length:=fun {j u} hu=>by
     have:=(List.getElem?_eq_some_iff.1 hu).1
     rw [hl,Kb] at this
     rcases Nat.eq_zero_or_pos ys.length with e|e
     ·rw [e] at this;simp at this
     ·exact e
   refine .sl true .ls ys A cap b o us (fun h=>⟨(hA h).1,Nat.lt_of_lt_of_le (hA h).2.1 hs,(hA h).2.2⟩) hcap hl (fun j u hu=>?_) (fun j x u hx hu=>?_)
   ·exact (World.cell?_of_block (a:=⟨b,o+j,none⟩) (hk b ⟨o,_,_,by rw [(hA (hp hu)).1],hp hu⟩)).trans (hc j u hu)
   ·have hr2:=hr j x u hx hu
    rcases Ul .ls (.inr rfl) ys x (List.mem_of_getElem? hx) with ⟨z,rfl⟩|⟨σ,ws,rfl,_⟩
    ·cases hr2;exact .s _
    ·obtain ⟨k1,k2⟩:=Co .ls (.inr rfl) ys j σ ws hx
     rcases k2 with ⟨k2,_⟩|⟨_,rfl⟩
     ·cases k2
     ·have hj:j<ys.length*3:=by
        have:=(List.getElem?_eq_some_iff.1 hx).1
        rw [Kb] at this;exact this
      exact DS hr2 hs fun n hn=>hk2 b o _ cap j u n (by rw [(hA (hp hu)).1]) hj k1 (hc j u hu) hn
theorem X8 (l:List (El .udb)):Ua .udb l=l.map fun x=>IV.sl true .ls x:=by
  induction l with
  |nil=>rfl
  |cons x r ih=>rw [In,ih];rfl
theorem qA {xs:List (El .udb)} (H:UR w E t .udb xs b c u) {q n c1:Nat} {v:Value} {ys':List Ls} (ho:Va w [.row t .udb xs] [(b,c)] 0 (q,0) .uls v) (hs:Jc v n) (hC:Hc w w' (fun m=>m=n∨∃j,Mb w [.row t .udb xs] [(b,c)] 0 (q,j+1) m)) (H':UR w' (·=n) (Wf .uls) .uls ys' n c1 v) (hc1:0<c1)
    (hb:∀p σ v',Va w' [.row (Wf .uls) .uls ys'] [(n,c1)] 0 p σ v'→Va w [.row t .udb xs] [(b,c)] 0 (q,p.1+1) σ v'):UR w' E t .udb (xs.set q ys') b c u∧∀k p σ v',Va w' [.row t .udb (xs.set q ys')] [(b,c)] k p σ v'→Va w [.row t .udb xs] [(b,c)] k p σ v':=by
  have hn:=De H.heap.ok ho hs
  have ho0:=ho
  obtain ⟨t1,τ1,zs,b1,c2,us1,junk1,z1,z2,z3,z4,z5,z6⟩:=ho
  obtain ⟨_,e⟩:=Oc z1
  have e:=e.symm
  injection e with e1 e2 e3
  subst e1 e2
  have e3:=eq_of_heq e3
  subst e3
  obtain ⟨rfl,rfl⟩:b=b1∧c=c2:=by simpa using z2
  have hE:=H.liv z3
  have hbn:¬(b=n∨∃j,Mb w [.row t .udb xs] [(b,c)] 0 (q,j+1) b):=by
    rintro (rfl|⟨j,h⟩)
    ·exact hn.2 hE.1
    ·exact (H.heap.occ h).2 hE.1
  have hbb:=hC.block b hE.2 hbn
  obtain ⟨h1,h2,h3,A,rfl,h4⟩:=H.cells
  obtain ⟨us,junk,q1,q2,q3,q4⟩:=h3 z3
  rw [q1] at z4
  injection z4 with z4;injection z4 with e1
  have e1:=congrArg Array.toList e1
  simp only [List.toList_toArray] at e1
  obtain rfl:=Qf e1 (by rw [q2.1,Kb,z5])
  have hq:us[q]? =some v:=by
    rcases z6 with ⟨_,_,g3,_⟩|⟨_,g,_⟩
    ·exact g3
    ·cases g
  have hlq:(xs.set q ys').length=xs.length:=List.length_set
  have hul:us.length=xs.length:=by have:=z5;simpa [sz] using this
  have hql:q<xs.length:=by rw [←hul];exact (List.getElem?_eq_some_iff.1 hq).1
  have place:∀{j:Nat} {v':Value},us[j]? =some v'→Va w [.row t .udb xs] [(b,c)] 0 (j,0) .uls v':=fun {j v'} h5=>⟨_,.udb,xs,b,c,us,junk,rfl,rfl,z3,q1,z5,.inl ⟨rfl,rfl,h5,rfl,by simp [sz,Yb,Nat.mod_one]⟩⟩
  have place2:∀{j i b1 o1 len c3:Nat} {v':Value},us[j]? =some (.slice (some ⟨b1,o1,none⟩) len c3)→i<len*3→i % 3=2→w.cell? ⟨b1,o1+i,none⟩=some v'→Va w [.row t .udb xs] [(b,c)] 0 (j,i+1) .en v':=fun h5 h6 h7 h8=>⟨_,.udb,xs,b,c,us,junk,rfl,rfl,z3,q1,z5,.inr ⟨rfl,rfl,_,_,_,_,_,h5,rfl,h6,h7,h8⟩⟩
  have far:∀{j i m:Nat} {σ:Ty} {v':Value},j≠q→Va w [.row t .udb xs] [(b,c)] 0 (j,i) σ v'→Jc v' m→w'.heap[m]? =w.heap[m]? :=fun {j i m σ v'} hj h5 h6=>by
    refine hC.block m (De H.heap.ok h5 h6).1 ?_
    rintro (rfl|⟨i',h⟩)
    ·exact hj (Prod.mk.inj (H.heap.uq 0 (j,i) 0 (q,0) m ⟨_,_,h5,h6⟩ ⟨_,_,ho0,hs⟩).2).1
    ·exact hj (Prod.mk.inj (H.heap.uq 0 (j,i) 0 (q,i'+1) m ⟨_,_,h5,h6⟩ h).2).1
  obtain ⟨g1,g2,g3,A1,rfl,g4⟩:=H'.cells
  obtain ⟨us2,junk2,r1,r2,r3,r4⟩:=g3 hc1
  have hA1:=g4 hc1
  subst hA1
  have hul2:us2.length=ys'.length*3:=by rw [r2.1,Kb];rfl
  have occ2:∀{i:Nat} {v':Value},i<ys'.length*3→i % 3=2→us2[i]? =some v'→Va w [.row t .udb xs] [(b,c)] 0 (q,i+1) .en v':=fun {i v'} h5 h6 h7=>hb (i,0) .en v' ⟨_,.uls,ys',n,c1,us2,junk2,rfl,rfl,hc1,r1,by rw [hul2];rfl,.inl ⟨rfl,rfl,h7,rfl,h6⟩⟩
  have occ:∀{k:Nat} {p:Nat×Nat} {σ:Ty} {v':Value},Va w' [.row t .udb (xs.set q ys')] [(b,c)] k p σ v'→k=0∧Va w [.row t .udb xs] [(b,c)] 0 p σ v':=fun {k p σ v'} ⟨t1,τ1,ws,b1,c3,us3,junk3,y1,y2,y3,y4,y5,y6⟩=>by
    obtain ⟨rfl,e⟩:=Oc y1
    have e:=e.symm
    injection e with e1 e2 e3
    subst e1 e2
    have e3:=eq_of_heq e3
    subst e3
    obtain ⟨rfl,rfl⟩:b=b1∧c=c3:=by simpa using y2
    rw [hbb,q1] at y4
    injection y4 with y4;injection y4 with e1
    have e1:=congrArg Array.toList e1
    simp only [List.toList_toArray] at e1
    obtain rfl:=Qf e1 (by rw [y5,hlq,z5])
    refine ⟨rfl,?_⟩
    rcases y6 with ⟨_,y7,y8,y9,y10⟩|⟨_,rfl,b2,o2,len,c4,i,y8,y9,y10,y11,y12⟩
    ·have:=place y8
     rw [y9,show p=(p.1,0) from Prod.ext rfl y7]
     exact this
    ·rw [show p=(p.1,i+1) from Prod.ext rfl y9]
     by_cases e:p.1=q
     ·rw [e] at y8 ⊢
      rw [hq] at y8
      injection y8 with y8
      injection y8 with e2 e4 e5
      injection e2 with e2
      injection e2 with e6 e7
      subst e6 e7 e4
      have hlt:i<us2.length:=by omega
      have h9:=Qg r1 (List.getElem?_eq_getElem hlt)
      rw [Nat.zero_add,h9] at y12
      exact occ2 y10 y11 (by rw [List.getElem?_eq_getElem hlt];exact y12)
     ·have hsl:Jc (.slice (some ⟨b2,o2,none⟩) len c4) b2:=⟨o2,len,c4,rfl,by omega⟩
      have h9:=far e (place y8) hsl
      exact place2 y8 y10 y11 ((World.cell?_of_block (a:=⟨b2,o2+i,none⟩) h9).symm.trans y12)
  have hen:∀{i:Nat} {ws:List (El .en)} {v':Value},(Ua .uls ys')[i]? =some (.sl true .en ws)→us2[i]? =some v'→Ri w' E (fun _=>False) (.sl true .en ws) v':=fun {i ws v'} h5 h6=>by
    refine WI (r2.2 i _ v' h5 h6) fun m hm=>?_
    have h7:=(Co .uls (.inl rfl) ys' i .en ws h5).1
    have h8:i % 3=2:=h7
    have h9:i<ys'.length*3:=by
      have:=(List.getElem?_eq_some_iff.1 h6).1;omega
    exact (De H.heap.ok (occ2 h9 h8 h6) hm).2
  refine ⟨⟨⟨rfl,fun n h=>H.heap.sub n (Mp h),fun _ _ h=>h,fun k o hk=>?_,fun j k o o' b1 c2 c3 hj hk _ _ _ _=>by rw [(Oc hj).1,(Oc hk).1],fun k p k' p' m ⟨σ,v1,y1,y2⟩ ⟨σ',v2,y3,y4⟩=>?_,fun k p σ v1 m y1 y2=>?_⟩,by simp,by simp [Vb],⟨_,_,_,rfl⟩,fun t2 τ2 ws hw=>?_⟩,fun k p σ v' h=>(occ h).1▸(occ h).2⟩
  ·obtain ⟨rfl,rfl⟩:=Oc hk
   refine ⟨b,c,rfl,fun h=>by omega,h2,fun _=>⟨us,junk,by rw [hbb];exact q1,⟨by rw [Kb,hlq,←Kb];exact q2.1,fun j x u1 hx1 hu1=>?_⟩,q3,q4⟩⟩
   rw [X8,List.getElem?_map,List.getElem?_set] at hx1
   by_cases e:q=j
   ·subst e
    rw [if_pos rfl,if_pos hql] at hx1
    injection hx1 with hx1
    subst hx1
    rw [hq] at hu1
    injection hu1 with hu1
    subst hu1
    have hle:ys'.length≤c1:=by
      have h4:(us2++junk2).length=c1*3:=r4
      rw [List.length_append,hul2] at h4
      omega
    refine .sl true .ls ys' _ c1 n 0 us2 (fun _=>⟨rfl,(H'.liv hc1).2,hn.2,fun _=>id⟩) ⟨hle,g2⟩ r2.1 (fun j u hu=>by rw [Nat.zero_add];exact Qg r1 hu) (fun j x u hx hu=>?_)
    rcases Ul .uls (.inl rfl) ys' x (List.mem_of_getElem? hx) with ⟨z,rfl⟩|⟨σ,ws,rfl,_⟩
    ·have hr:=r2.2 j _ u hx hu
     cases hr;exact .s _
    ·rcases (Co .uls (.inl rfl) ys' j σ ws hx).2 with ⟨k2,_⟩|⟨_,rfl⟩
     ·cases k2
     ·exact hen hx hu
   ·rw [if_neg e] at hx1
    have hx0:(Ua .udb xs)[j]? =some x:=by rw [X8,List.getElem?_map];exact hx1
    have hr:=q2.2 j x u1 hx0 hu1
    obtain ⟨ws,_,rfl⟩:=Option.map_eq_some_iff.1 hx1
    refine W8 hr hC.size (fun m hm=>far (Ne.symm e) (place hu1) hm) (fun b2 o2 len c4 i u2 m h5 h6 h7 h8 h9=>?_)
    subst h5
    exact far (Ne.symm e) (place2 hu1 h6 h7 h8) h9
  ·obtain ⟨e1,o1⟩:=occ y1
   obtain ⟨e2,o2⟩:=occ y3
   exact ⟨e1.trans e2.symm,(H.heap.uq 0 p 0 p' m ⟨_,_,o1,y2⟩ ⟨_,_,o2,y4⟩).2⟩
  ·obtain ⟨e1,o1⟩:=occ y1
   by_cases e:p.1=q
   ·obtain ⟨t1,τ1,ws,b1,c3,us3,junk3,y1a,y1b,y1c,y1d,y1e,y1f⟩:=y1
    obtain ⟨rfl,e4⟩:=Oc y1a
    have e4:=e4.symm
    injection e4 with e5 e6 e7
    subst e5 e6
    have e7:=eq_of_heq e7
    subst e7
    obtain ⟨rfl,rfl⟩:b=b1∧c=c3:=by simpa using y1b
    rw [hbb,q1] at y1d
    injection y1d with y1d;injection y1d with e8
    have e8:=congrArg Array.toList e8
    simp only [List.toList_toArray] at e8
    obtain rfl:=Qf e8 (by rw [y1e,hlq,z5])
    rcases y1f with ⟨_,y7,y8,y9,y10⟩|⟨_,rfl,b2,o2,len,c4,i,y8,y9,y10,y11,y12⟩
    ·rw [e,hq] at y8
     injection y8 with y8
     subst y8
     rw [y9]
     exact U8 H' hc1
    ·rw [e,hq] at y8
     injection y8 with y8
     injection y8 with e2 e4 e5
     injection e2 with e2
     injection e2 with e6 e7
     subst e6 e7 e4
     have hlt:i<us2.length:=by omega
     have h9:=Qg r1 (List.getElem?_eq_getElem hlt)
     rw [Nat.zero_add,h9] at y12
     exact H'.heap.pl 0 (i,0) .en v1 m ⟨_,.uls,ys',n,c1,us2,junk2,rfl,rfl,hc1,r1,by rw [hul2];rfl,.inl ⟨rfl,rfl,by rw [List.getElem?_eq_getElem hlt];exact y12,rfl,y11⟩⟩ y2
   ·exact (H.heap.pl 0 p σ v1 m o1 y2).keep y2 (far (i:=p.2) e o1 y2)
  ·obtain ⟨_,e⟩:=Oc hw
   have e:=e.symm
   injection e with e1 e2 e3
   subst e1 e2
   have e3:=eq_of_heq e3
   subst e3
   exact ⟨b,c,A,rfl,by rw [hlq],h4,fun _=>trivial⟩
end
end
section
open Go.RowKit
section
variable {w w':World} {E X:Nat→Prop} {h h':List Ca} {β β':List (Nat×Nat)}
theorem qB {k:Nat} {t:TypeId} {τ:Ty} {xs:List (El τ)} (hh:Pb w E X h β) (hk:h[k]? =some (.row t τ xs)) (hp:Jm (.row t τ xs)=true) (hβ:∀q,β[k]? =some q→β'[k]? =some q) (hs:w.heap.size≤w'.heap.size) (hb:∀b c,β[k]? =some (b,c)→0<c→w'.heap[b]? =w.heap[b]?) (hO:∀p n,Mb w h β k p n→w'.heap[n]? =w.heap[n]?):Vf w' E X h' β' k (.row t τ xs):=by
  obtain ⟨b,c,h1,h2,h3,h4⟩:=hh.ok k _ hk
  refine ⟨b,c,hβ _ h1,h2,h3,fun hc=>?_⟩
  obtain ⟨us,junk,h5,h6,h7,h8⟩:=h4 hc
  refine ⟨us,junk,(hb b c h1 hc).trans h5,⟨h6.1,fun i x u hx hu=>?_⟩,h7,h8⟩
  have hr:=h6.2 i x u hx hu
  simp only [Jm,Bool.or_eq_true] at hp
  have hul:us.length=xs.length*sz τ:=by rw [h6.1,Kb]
  rcases hp with hf|hu'
  ·have h1:=Bp (gv:=true) τ xs (fun _=>hf) x (List.mem_of_getElem? hx)
   cases h1 with
   |s v=>cases hr;exact .s _
   |nil=>cases hr;exact .nil _
   |sl _ _ h=>cases h
  ·rcases Ul τ (.inl hu') xs x (List.mem_of_getElem? hx) with ⟨z,rfl⟩|⟨σ,ys,rfl,_⟩
   ·cases hr;exact .s _
   ·obtain ⟨hm,hk2⟩:=Co τ (.inl hu') xs i σ ys hx
    rw [if_pos hu'] at hm
    have ho:Va w h β k (i,0) (Fi τ) u:=⟨t,τ,xs,b,c,us,junk,hk,h1,hc,h5,hul,.inl ⟨hu',rfl,hu,rfl,hm⟩⟩
    rcases hk2 with ⟨rfl,rfl⟩|⟨_,rfl⟩
    ·refine W8 hr hs (fun n hn=>hO _ n ⟨_,_,ho,hn⟩) (fun b2 o2 len c4 j u2 m e h9 h10 h11 h12=>hO (i,j+1) m ⟨.en,u2,⟨t,.udb,xs,b,c,us,junk,hk,h1,hc,h5,hul,.inr ⟨rfl,rfl,b2,o2,len,c4,j,by rw [←e];exact hu,rfl,h9,h10,h11⟩⟩,h12⟩)
    ·exact DS hr hs fun n hn=>hO _ n ⟨_,_,ho,hn⟩
theorem Np {k:Nat} {t:TypeId} {τ:Ty} {xs:List (El τ)} {b c:Nat} (hk:h[k]? =some (.row t τ xs)) (hβ:β[k]? =some (b,c)) {k':Nat} {p:Nat×Nat} {σ:Ty} {v:Value} (ho:Va w [.row t τ xs] [(b,c)] k' p σ v):k'=0∧Va w h β k p σ v:=by
  obtain ⟨t1,τ1,ys,b1,c1,us1,junk1,z1,z2,z3,z4,z5,z6⟩:=ho
  obtain ⟨rfl,e⟩:=Oc z1
  have e:=e.symm
  injection e with e1 e2 e3
  subst e1 e2
  have e3:=eq_of_heq e3
  subst e3
  obtain ⟨rfl,rfl⟩:b=b1∧c=c1:=by simpa using z2
  exact ⟨rfl,t,τ,xs,b,c,us1,junk1,hk,hβ,z3,z4,z5,z6⟩
theorem Z8 {k:Nat} {t:TypeId} {τ:Ty} {xs:List (El τ)} {b c:Nat} (hk:h[k]? =some (.row t τ xs)) (hβ:β[k]? =some (b,c)) {p:Nat×Nat} {σ:Ty} {v:Value} (ho:Va w h β k p σ v):Va w [.row t τ xs] [(b,c)] 0 p σ v:=by
  obtain ⟨t1,τ1,ys,b1,c1,us1,junk1,z1,z2,z3,z4,z5,z6⟩:=ho
  rw [hk] at z1
  injection z1 with e
  injection e with e1 e2 e3
  subst e1 e2
  have e3:=eq_of_heq e3
  subst e3
  rw [hβ] at z2
  injection z2 with z2
  obtain ⟨rfl,rfl⟩:=Prod.mk.inj z2
  exact ⟨t,τ,xs,b,c,us1,junk1,rfl,rfl,z3,z4,z5,z6⟩
theorem qC {k:Nat} {t:TypeId} {τ:Ty} {xs:List (El τ)} {u:Value} (hh:Pb w E (fun _=>False) h β) (hk:h[k]? =some (.row t τ xs)) (hp:Jm (.row t τ xs)=true) (hc:C1 w E (fun _=>False) h β (.own k) u):∃b c,β[k]? =some (b,c)∧UR w E t τ xs b c u:=by
  obtain ⟨_,_,_,h2⟩:=hc
  obtain ⟨b,c,A,h3,rfl,h4,_⟩:=h2 t τ xs hk
  have hlv:∀n,Da [.row t τ xs] [(b,c)] n→Da h β n:=fun n ⟨j,o,c1,z1,z2,z3⟩=>by
    obtain ⟨rfl,rfl⟩:=Oc z1
    simp at z3
    obtain ⟨rfl,rfl⟩:=z3
    exact ⟨k,_,c,hk,z2,h3⟩
  refine ⟨b,c,h3,⟨rfl,fun n hn=>hh.sub n (hlv n hn),fun _ _ h=>h,fun j o hj=>?_,fun i j o o' b1 c2 c3 hi hj _ _ _ _=>by rw [(Oc hi).1,(Oc hj).1],fun i p j q n ⟨σ,v,z1,z2⟩ ⟨σ',v',y1,y2⟩=>?_,fun i p σ v n z1 z2=>hh.pl k p σ v n (Np hk h3 z1).2 z2⟩,by simp,by simp [Vb],⟨_,_,_,rfl⟩,fun t2 τ2 ws hw=>?_⟩
  ·obtain ⟨rfl,rfl⟩:=Oc hj
   obtain ⟨b',c',q1,q2,q3,q4⟩:=hh.ok k _ hk
   rw [h3] at q1
   injection q1 with q1
   obtain ⟨rfl,rfl⟩:=Prod.mk.inj q1
   exact ⟨b,c,rfl,q2,q3,q4⟩
  ·obtain ⟨e1,o1⟩:=Np hk h3 z1
   obtain ⟨e2,o2⟩:=Np hk h3 y1
   exact ⟨e1.trans e2.symm,(hh.uq k p k q n ⟨_,_,o1,z2⟩ ⟨_,_,o2,y2⟩).2⟩
  ·obtain ⟨_,e⟩:=Oc hw
   cases e
   exact ⟨b,c,A,rfl,rfl,h4,fun _=>trivial⟩
def XI (w:World) (t:TypeId) (τ:Ty) (xs:List (El τ)) (b c:Nat) (m:Nat):Prop:=(0<c∧m=b)∨∃p,Mb w [.row t τ xs] [(b,c)] 0 p m
theorem qD {k:Nat} {t:TypeId} {τ:Ty} {xs xs':List (El τ)} {b c:Nat} {u:Value} (hh:Pb w E (fun _=>False) h β) (hp:∀o∈h,Jm o=true) (hk:h[k]? =some (.row t τ xs)) (hβ:β[k]? =some (b,c)) (H':UR w' E t τ xs' b c u) (hC:Hc w w' (XI w t τ xs b c)) (hO:∀p σ v,Va w' [.row t τ xs'] [(b,c)] 0 p σ v→Va w [.row t τ xs] [(b,c)] 0 p σ v):Pb w' E (fun _=>False) (h.set k (.row t τ xs')) β:=by
  have hkl:=(List.getElem?_eq_some_iff.1 hk).1
  have far:∀{j:Nat} {p:Nat×Nat} {n:Nat},j≠k→Mb w h β j p n→w'.heap[n]? =w.heap[n]? :=fun {j p n} hj ho=>by
    have hn:=hh.occ ho
    refine hC.block n hn.1 ?_
    rintro (⟨hc,rfl⟩|⟨p',σ,v,z1,z2⟩)
    ·exact hn.2 (hh.sub _ ⟨k,_,c,hk,hc,hβ⟩)
    ·exact hj (hh.uq j p k p' n ho ⟨σ,v,(Np hk hβ z1).2,z2⟩).1
  have farb:∀{j:Nat} {o:Ca} {b1 c1:Nat},j≠k→h[j]? =some o→Bc o c1→β[j]? =some (b1,c1)→w'.heap[b1]? =w.heap[b1]? :=fun {j o b1 c1} hj ho hl hb1=>by
    have hlv:Da h β b1:=⟨j,o,c1,ho,hl,hb1⟩
    refine hC.block b1 (Da.lt hh hlv) ?_
    rintro (⟨hc,rfl⟩|⟨p',σ,v,z1,z2⟩)
    ·exact hj (hh.inj j k o _ b1 c1 c ho hk hl hc hb1 hβ)
    ·exact (De hh.ok (Np hk hβ z1).2 z2).2 (hh.sub b1 hlv)
  have at_:∀{j:Nat} {o:Ca},(h.set k (.row t τ xs'))[j]? =some o→(j=k∧o=.row t τ xs')∨(j≠k∧h[j]? =some o):=fun {j o} hj=>by
    rw [List.getElem?_set] at hj
    by_cases e:k=j
    ·rw [if_pos e,if_pos hkl] at hj
     injection hj with hj
     exact .inl ⟨e.symm,hj.symm⟩
    ·rw [if_neg e] at hj
     exact .inr ⟨Ne.symm e,hj⟩
  have lv:∀n,Da (h.set k (.row t τ xs')) β n→Da h β n:=fun n ⟨j,o,c1,z1,z2,z3⟩=>by
    rcases at_ z1 with ⟨rfl,rfl⟩|⟨_,z4⟩
    ·exact ⟨j,_,c1,hk,z2,z3⟩
    ·exact ⟨j,o,c1,z4,z2,z3⟩
  have occ:∀{j:Nat} {p:Nat×Nat} {σ:Ty} {v:Value},Va w' (h.set k (.row t τ xs')) β j p σ v→Va w h β j p σ v:=fun {j p σ v} ho=>by
    have ho0:=ho
    obtain ⟨t1,τ1,ys,b1,c1,us1,junk1,z1,z2,z3,z4,z5,z6⟩:=ho0
    rcases at_ z1 with ⟨rfl,e⟩|⟨hj,hj0⟩
    ·have hk':(h.set j (.row t τ xs'))[j]? =some (.row t τ xs'):=by rw [List.getElem?_set,if_pos rfl,if_pos hkl]
     exact (Np hk hβ (hO p σ v (Z8 hk' hβ ho))).2
    ·obtain ⟨b',c',q1,q2,q3,q4⟩:=hh.ok j _ hj0
     rw [z2] at q1
     injection q1 with q1
     obtain ⟨rfl,rfl⟩:=Prod.mk.inj q1
     obtain ⟨us2,junk2,q5,q6,_⟩:=q4 z3
     have hb:=farb hj hj0 z3 z2
     rw [hb,q5] at z4
     injection z4 with z4;injection z4 with e1
     have e1:=congrArg Array.toList e1
     simp only [List.toList_toArray] at e1
     obtain rfl:=Qf e1 (by rw [q6.1,Kb,z5])
     rcases z6 with g|⟨rfl,rfl,b2,o2,len,c2,i,g3,g4,g5,g6,g7⟩
     ·exact ⟨t1,τ1,ys,b1,c1,us2,junk2,hj0,z2,z3,q5,z5,.inl g⟩
     ·have:=far hj (p:=(p.1,0)) (n:=b2) ⟨.uls,_,⟨t1,.udb,ys,b1,c1,us2,junk2,hj0,z2,z3,q5,z5,.inl ⟨rfl,rfl,g3,rfl,by simp [sz,Yb,Nat.mod_one]⟩⟩,⟨o2,len,c2,rfl,by omega⟩⟩
      exact ⟨t1,.udb,ys,b1,c1,us2,junk2,hj0,z2,z3,q5,z5,.inr ⟨rfl,rfl,b2,o2,len,c2,i,g3,g4,g5,g6,(World.cell?_of_block (a:=⟨b2,o2+i,none⟩) this).symm.trans g7⟩⟩
  have occO:∀{j:Nat} {p:Nat×Nat} {n:Nat},Mb w' (h.set k (.row t τ xs')) β j p n→Mb w h β j p n:=fun {j p n} ⟨σ,v,z1,z2⟩=>⟨σ,v,occ z1,z2⟩
  refine ⟨by rw [List.length_set];exact hh.len,fun n hn=>hh.sub n (lv n hn),fun _ _ h=>h,fun j o hj=>?_,fun i j o o' b1 c1 c2 hi hj li lj bi bj=>?_,fun i p j q n z1 z2=>hh.uq i p j q n (occO z1) (occO z2),fun j p σ v n z1 z2=>?_⟩
  ·rcases at_ hj with ⟨rfl,rfl⟩|⟨hjk,hj0⟩
   ·obtain ⟨b',c',q1,q2,q3,q4⟩:=H'.heap.ok 0 _ rfl
    obtain ⟨rfl,rfl⟩:b=b'∧c=c':=by simpa using q1
    exact ⟨b,c,hβ,q2,q3,q4⟩
   ·have hpo:=hp o (List.mem_of_getElem? hj0)
    cases o with
    |dead=>trivial
    |vrow t1 τ1=>cases hpo
    |box t1 cs=>cases hpo
    |row t1 τ1 ys=>exact qB hh hj0 hpo (fun _ h=>h) hC.size (fun b1 c1 h1 h2=>farb hjk hj0 h2 h1) (fun p n ho=>far hjk ho)
  ·have cs:∀{j o c1},(h.set k (.row t τ xs'))[j]? =some o→Bc o c1→∃o1,h[j]? =some o1∧Bc o1 c1:=fun {j o c1} h1 h2=>by
     rcases at_ h1 with ⟨rfl,rfl⟩|⟨_,h3⟩
     ·exact ⟨_,hk,h2⟩
     ·exact ⟨_,h3,h2⟩
   obtain ⟨o1,g1,g2⟩:=cs hi li
   obtain ⟨o2,g3,g4⟩:=cs hj lj
   exact hh.inj i j o1 o2 b1 c1 c2 g1 g3 g2 g4 bi bj
  ·by_cases e:j=k
   ·subst e
    have hk':(h.set j (.row t τ xs'))[j]? =some (.row t τ xs'):=by rw [List.getElem?_set,if_pos rfl,if_pos hkl]
    exact H'.heap.pl 0 p σ v n (Z8 hk' hβ z1) z2
   ·exact (hh.pl j p σ v n (occ z1) z2).keep z2 (far e ⟨σ,v,occ z1,z2⟩)
end
end
section
open Go.RowKit
abbrev Wl:=Int×List Lk×List Bool×List Int×List (List Ls)×List Pk
def Ni (W:Wl):PV:=.agg [.im (iI W.1),.im (.sl false .lk W.2.1),.im (.sl false .bool W.2.2.1),.im (.sl false .int W.2.2.2.1),.im (.sl false .db W.2.2.2.2.1),.im (.sl false .pk W.2.2.2.2.2)]
def Tv (n:Int):PV:=.agg [.im (iI n),.own 0,.own 1,.own 2,.own 3,.own 4]
def Uc (W:Wl):List Ca:=[.row 114 .lk W.2.1,.row 4 .bool W.2.2.1,.row 3 .int W.2.2.2.1,.row 86 .udb W.2.2.2.2.1,.row 112 .upk W.2.2.2.2.2]
def Rw (w:World) (lo hi:Nat) (W:Wl) (v:Value):Prop:=Cv w (fun b=>b<lo∨hi≤b) (fun _=>False) [] [] (Ni W) v
def WM (w:World) (lo hi:Nat) (W:Wl) (v:Value):Prop:=hi≤w.heap.size∧∃β,Pb w (fun b=>Da (Uc W) β b∨(b<lo∨hi≤b)) (fun _=>False) (Uc W) β∧(∀b,Da (Uc W) β b→lo≤b∧b<hi)∧Cv w (fun b=>Da (Uc W) β b∨(b<lo∨hi≤b)) (fun _=>False) (Uc W) β (Tv W.1) v
section
variable {w w':World} {lo hi:Nat} {W:Wl} {v:Value}
theorem Rw.keep (h:Rw w lo hi W v) (hs:w.heap.size≤w'.heap.size) (hk:∀b,lo≤b→b<hi→b<w.heap.size→w'.heap[b]? =w.heap[b]?):Rw w' lo hi W v :=
  Cv.keep (fun b hb hn=>hk b (by omega) (by omega) hb) hs (fun _ _ h=>h) (fun _ _ _ h=>h) (Cc.refl _) (fun _ _ h=>h) h
theorem WM.keep (h:WM w lo hi W v) (hs:w.heap.size≤w'.heap.size) (hk:∀b,lo≤b→b<hi→w'.heap[b]? =w.heap[b]?):WM w' lo hi W v:=by
  obtain ⟨h0,β,h1,h2,h3⟩:=h
  have hh:∀b,¬(Da (Uc W) β b∨(b<lo∨hi≤b))→w'.heap[b]? =w.heap[b]? :=fun b hn=>hk b (by omega) (by omega)
  exact ⟨by omega,β,h1.keepE hs (fun b hl=>hk b (h2 b hl).1 (h2 b hl).2) (fun b _ hn=>hh b hn),h2,h3.keep (fun b _ hn=>hh b hn) hs (fun _ _ h=>h) (fun _ _ _ h=>h) (Cc.refl _) (fun _ _ h=>h)⟩
theorem Pp {b:Nat}:¬Da [] [] b:=fun ⟨k,o,c,h,_⟩=>by simp at h
theorem ES {w:World} {k:Nat} {p:Nat×Nat} {n:Nat}:¬Mb w [] [] k p n:=fun ⟨σ,u,⟨t,τ,xs,b,c,us,junk,h,_⟩,_⟩=>by simp at h
theorem qE (w:World) {E:Nat→Prop}:Pb w E (fun _=>False) [] []:=⟨rfl,fun b h=>(Pp h).elim,fun _ _ h=>h,fun k o h=>by simp at h,fun j k o o' b c c' h=>by simp at h,fun k p k' p' n h=>(ES h).elim,fun k p σ u n h hs=>(ES ⟨σ,u,h,hs⟩).elim⟩
theorem Gb.below {h':List Ca} {β':List (Nat×Nat)} (h:Gb w [] [] w' h' β'):Below w.heap.size w w':=⟨h.os,h.tape,h.output,h.size,fun b hb=>h.block b hb Pp⟩
theorem Gj {P:Program} {f:FuncId} {e:Na} (hg:GC P f e) {s:HL e.ah} {r:HL e.rh} (hs:e.sh s=some r) {ds:List PV} (hf:e.AS.fill (up e.ah s)=some (ds,[])) {d:PV} {h':List Ca} (hr:e.RS.fill (up e.rh r)=some ([d],h')) {args:List Value} (ha:F2 (Cv w (Da [] []) (fun _=>False) [] []) ds args) (hG:Gi w [] []):Calls P f args.toArray w fun ex w'=>∃u β',ex=.returned u∧Gb w [] [] w' h' β'∧Pb w' (Da h' β') (fun _=>False) h' β'∧Cv w' (Da h' β') (fun _=>False) h' β' d u:=hg s r hs ds [] hf d h' hr w _ [] args (fun _ h=>h.elim) (qE w) ha hG
theorem j1 {h:List Ca} {β:List (Nat×Nat)} {E E' X:Nat→Prop} {k:Nat} {t:TypeId} {τ:Ty} {xs:List (El τ)} (hh:Pb w E X h β) (hk:h[k]? =some (.row t τ xs)) (hE:∀b,¬E b→¬E' b) (hkE:∀b c,β[k]? =some (b,c)→0<c→¬E' b) {u:Value} (hc:C1 w E X h β (.own k) u):Ri w E' (fun _=>False) (.sl false τ xs) u:=by
  obtain ⟨_,_,_,h2⟩:=hc
  obtain ⟨b,c,A,h3,rfl,h4,h5⟩:=h2 t τ xs hk
  obtain ⟨b',c',h6,h7,h8,h9⟩:=hh.ok k _ hk
  rw [h3] at h6
  injection h6 with h6;injection h6 with e1 e2
  subst e1 e2
  rcases Nat.eq_zero_or_pos c with hc|hc
  ·have hx:=h7 hc
   subst hx hc
   exact Nn (A:=A) τ
  ·obtain ⟨us,junk,q1,q2,q3,q4⟩:=h9 hc
   have hlen:xs.length≤c:=by
     have:xs.length*sz τ≤c*sz τ:=by rw [←q4,←Kb,←q2.1];simp
     exact Nat.le_of_mul_le_mul_right this (Pf τ)
   refine .sl false τ xs A c b 0 us (fun _=>⟨h4 hc,(Array.getElem?_eq_some_iff.1 q1).1,hkE b c h3 hc,fun h=>by cases h⟩) ⟨hlen,h8⟩ q2.1 (fun j u hu=>by rw [Nat.zero_add];exact Qg q1 hu) (fun j x u hx hu=>?_)
   exact (q2.2 j x u hx hu).keep (fun _ _ _=>rfl) (Nat.le_refl _) (fun b _=>hE b) (fun _ _ _ _ h=>h)
theorem WM.rw (h:WM w lo hi W v):Rw w lo hi W v:=by
  obtain ⟨h0,β,h1,h2,us,rfl,h3⟩:=h
  obtain ⟨u0,r,rfl,g0,h3⟩:=h3.cons_inv
  obtain ⟨u1,r,rfl,g1,h3⟩:=h3.cons_inv
  obtain ⟨u2,r,rfl,g2,h3⟩:=h3.cons_inv
  obtain ⟨u3,r,rfl,g3,h3⟩:=h3.cons_inv
  obtain ⟨u4,r,rfl,g4,h3⟩:=h3.cons_inv
  obtain ⟨u5,r,rfl,g5,h3⟩:=h3.cons_inv
  obtain rfl:=h3.nil_inv
  have rd:∀{k:Nat} {t:TypeId} {τ:Ty} {xs:List (El τ)} {u:Value},(Uc W)[k]? =some (.row t τ xs)→C1 w (fun b=>Da (Uc W) β b∨(b<lo∨hi≤b)) (fun _=>False) (Uc W) β (.own k) u→Ri w (fun b=>b<lo∨hi≤b) (fun _=>False) (.sl false τ xs) u:=fun {k t τ xs u} hk hc=>j1 h1 hk (fun b hn h=>hn (.inr h)) (fun b c q1 q2 h=>by
    have:=h2 b ⟨k,_,c,hk,q2,q1⟩
    omega) hc
  refine ⟨_,rfl,F2.cons ?_ (F2.cons (rd (k:=0) rfl g1) (F2.cons (rd (k:=1) rfl g2) (F2.cons (rd (k:=2) rfl g3) (F2.cons (DQ (σ:=.udb) (τ:=.db) rfl (rd (k:=3) rfl g4)) (F2.cons (DQ (σ:=.upk) (τ:=.pk) rfl (rd (k:=4) rfl g5)) F2.nil)))))⟩
  have g0:Ri w _ _ (iI W.1) u0:=g0
  cases g0
  exact Ri.s _
theorem A9 {w':World} {β:List (Nat×Nat)} (hst:Gb w [] [] w' (Uc W) β) (hh:Pb w' (Da (Uc W) β) (fun _=>False) (Uc W) β) (hc:Cv w' (Da (Uc W) β) (fun _=>False) (Uc W) β (Tv W.1) v):WM w' w.heap.size w'.heap.size W v:=by
  refine ⟨Nat.le_refl _,β,hh.up (fun o ho=>?_) (fun b h=>.inl h) (fun k p n ho hx=>?_),fun b hb=>⟨?_,Da.lt hh hb⟩,?_⟩
  ·simp only [Uc,List.mem_cons,List.not_mem_nil,or_false] at ho
   rcases ho with rfl|rfl|rfl|rfl|rfl<;>rfl
  ·have h1:=hh.occ ho
   rcases hx with h|h|h
   ·exact h1.2 h
   ·rcases hst.fp k p n h ho with ⟨k',p',h2⟩|h2
    ·exact ES h2
    ·exact Pp h2
   ·omega
  ·rcases Nat.lt_or_ge b w.heap.size with h|h
   ·exact (Pp (hst.new b h hb)).elim
   ·exact h
  ·obtain ⟨us,rfl,h3⟩:=hc
   refine ⟨us,rfl,h3.monoI fun x hx u hu=>?_⟩
   simp only [List.mem_cons,List.not_mem_nil,or_false] at hx
   rcases hx with rfl|rfl|rfl|rfl|rfl|rfl
   ·have hu:Ri w' _ _ (iI W.1) u:=hu
    cases hu
    exact Ri.s _
   all_goals exact hu
theorem Rw.arg (h:Rw w lo hi W v):Cv w (Da [] []) (fun _=>False) [] [] (Ni W) v :=
  Cv.keep (w':=w) (h':=[]) (β':=[]) (fun _ _ _=>rfl) (Nat.le_refl _) (fun _ _ _ h=>Pp h) (fun _ _ _ h=>h) (Cc.refl _) (fun _ _ h=>h) h
end
end
end Go.Proofs.YtknkhdjhongklaaGreat
