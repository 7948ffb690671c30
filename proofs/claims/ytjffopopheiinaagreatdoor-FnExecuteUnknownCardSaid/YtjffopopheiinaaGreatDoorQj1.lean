/- Part 1 of the proof: Ka. -/
import Derived.WalkKit
import Derived.WalkSpells
import Derived.WalkLawsBesides
import Derived.Laws.OwnMore
import Derived.Laws.MakeOwn
import Derived.Maps.AppendAt
import Derived.Deep.AppendLies
import Derived.Deep.Draws
import Derived.Lib.Hide
import Derived.Below
import Derived.BigQuiet
import Derived.Deep.QuietTactic
import Derived.Deep.DeepCutAuto
import Derived.Deep.LoopGhost
import Derived.Deep.RegionHeld3
import Derived.Deep.RegionWith
import Derived.OrdersHeld
import Derived.StillTail
import Derived.StillTailTactics
import Derived.IntWalk
import Derived.Great.BuildSlice
import Derived.Lib.SliceRun
import Derived.Laws.BytesArg
import Derived.Laws.Concat
import Derived.Lib.ItoaNum
set_option linter.unusedSimpArgs false
set_option linter.unusedVariables false
set_option maxRecDepth 100000
section
namespace Go.Proofs.YtjffopopheiinaaGreatDoor
open Go.RowKit
theorem dT {p:Prop} [Decidable p] (h:p):decide p=true:=decide_eq_true h
theorem dF {p:Prop} [Decidable p] (h:¬p):decide p=false:=decide_eq_false h
theorem oT {p:Prop} [Decidable p] (h:decide p=true):p:=of_decide_eq_true h
theorem oF {p:Prop} [Decidable p] (h:decide p=false):¬p:=of_decide_eq_false h
def Db (a b c:Int):Bool:=decide (b≤a∧a≤c)
theorem De {a b c:Int} (h:Db a b c=true):b≤a∧a≤c:=oT h
theorem Zh {a b c:Int} (h:Db a b c=false):¬(b≤a∧a≤c):=oF h
theorem Kx {a b c:Int} (h:b≤a∧a≤c):Db a b c=true:=decide_eq_true h
theorem Ih {a b c:Int}:(Db a b c=true)=(b≤a∧a≤c):=by simp [Db]
theorem Jh {a b c:Int}:(Db a b c=false)=¬(b≤a∧a≤c):=by unfold Db;rw [decide_eq_false_iff_not]
theorem mH (p:Bool):p=false∨p=true:=by cases p<;>simp
theorem Wg:(∀a b c:Int,(Db a b c=true)=(b≤a∧a≤c))∧(∀a b c:Int,(Db a b c=false)=¬(b≤a∧a≤c))∧(∀b:Bool,((!b)=true)=(b=false))∧(∀b:Bool,((!b)=false)=(b=true)) ∧
    (∀(p:Prop) [Decidable p],(decide p=true)=p)∧(∀(p:Prop) [Decidable p],(decide p=false)=¬p)∧(∀a b:Int,((a==b)=true)=(a=b))∧(∀a b:Int,((a==b)=false)=¬(a=b)) ∧
    (∀a b:Int,((a != b)=true)=¬(a=b))∧(∀a b:Int,((a != b)=false)=(a=b))∧(∀b:Bool,(¬(b=true))=(b=false))∧(∀b:Bool,(¬(b=false))=(b=true)) :=
  ⟨fun _ _ _=>Ih,fun _ _ _=>Jh,fun b=>by cases b<;>simp,fun b=>by cases b<;>simp,fun p _=>by simp,fun p _=>by simp,fun _ _=>by simp,fun _ _=>by simp,fun _ _=>by simp,fun _ _=>by simp,fun b=>by simp,fun b=>by simp⟩
theorem mI {B:Nat} {a w:World} (h:Below B a w) (n:Nat):Below B a (w.drewN n):=⟨h.os,h.tape,h.output,h.size,h.block⟩
theorem mJ {a w:World} (h:a.grownBy w none):Below a.heap.size a w:=⟨h.os,h.tape,h.output,h.size,fun i hi=>h.block i hi (by simp)⟩
def Jo (w w':World):Prop:=∃n,w'=w.drewN n
theorem Jo.refl (w:World):Jo w w:=⟨0,rfl⟩
theorem Jo.more {w:World} (n:Nat):Jo w (w.drewN n):=⟨n,rfl⟩
theorem Jo.two {w:World} (n m:Nat):Jo w ((w.drewN n).drewN m):=⟨n+m,World.drewN_drewN _ _ _⟩
theorem Jo.below {w w':World} (h:Jo w w') (B:Nat):Below B w w':=by obtain ⟨n,rfl⟩:=h;exact mI (Below.refl _ _) n
structure mK (w:World) where
  now:World
  ok:Below w.heap.size w now
instance (w:World):Nonempty (mK w):=⟨⟨w,Below.refl _ _⟩⟩
def Ee (w:World) (g:Nat) (t:TypeId) (cs:Array Value):Prop:=w.heap[g]? =some (.cells cs t (0,0))
section
variable {w w':World} {g:Nat} {t:TypeId} {cs:Array Value}
theorem Ee.lt (h:Ee w g t cs):g<w.heap.size:=by
  rcases Nat.lt_or_ge g w.heap.size with hlt|hge
  ·exact hlt
  ·unfold Ee at h;rw [Array.getElem?_eq_none hge] at h;cases h
theorem Ee.cell (h:Ee w g t cs) (i:Nat):w.cell? ⟨g,i,none⟩=cs[i]? :=cell_of_row w g i cs t (0,0) h
theorem Ee.new (w:World) (t:TypeId) (cs:Array Value):Ee (w.alloc (.cells cs t)) w.heap.size t cs:=heap_alloc_new w _
theorem Ee.drew (h:Ee w g t cs):Ee w.drew g t cs:=h
theorem Ee.drewN (h:Ee w g t cs) (n:Nat):Ee (w.drewN n) g t cs:=h
theorem Ee.alloc (h:Ee w g t cs) (o:Obj):Ee (w.alloc o) g t cs:=(Below.heap_alloc w o g h.lt).trans h
theorem Ee.below (h:Ee w g t cs) (hb:Below w.heap.size w w'):Ee w' g t cs:=(hb.block g h.lt).trans h
theorem Ee.grown {row:Option Nat} (h:Ee w g t cs) (hb:w.grownBy w' row) (hg:row≠some g):Ee w' g t cs:=(hb.block g h.lt (fun e=>hg e.symm)).trans h
end
def Rd (w:World) (size:Nat) (A:Option Addr) (n:Nat) (xs:List Value):Prop :=
  xs.length=n*size∧(0<n→∃b o,A=some ⟨b,o,none⟩∧∀j u,xs[j]? =some u→w.cell? ⟨b,o+j,none⟩=some u)
theorem LB {w:World} {b o:Nat} {v:Value} (h:w.cell? ⟨b,o,none⟩=some v):b<w.heap.size:=World.block_lt_of_cell? w ⟨b,o,none⟩ h
section
variable {w w':World} {size n:Nat} {A:Option Addr} {xs:List Value}
theorem Rd.keep (h:Rd w size A n xs) (hk:∀b o,b<w.heap.size→(∃o',A=some ⟨b,o',none⟩)→w'.cell? ⟨b,o,none⟩=w.cell? ⟨b,o,none⟩):Rd w' size A n xs :=
  ⟨h.1,fun hn=>by
    obtain ⟨b,o,e,hc⟩:=h.2 hn
    exact ⟨b,o,e,fun j u hu=>(hk b _ (LB (hc j u hu)) ⟨o,e⟩).trans (hc j u hu)⟩⟩
theorem Rd.below (h:Rd w size A n xs) (hb:Below w.heap.size w w'):Rd w' size A n xs:=h.keep fun b o hlt _=>hb.cell (p:=⟨b,o,none⟩) hlt
theorem Rd.drewN (h:Rd w size A n xs) (k:Nat):Rd (w.drewN k) size A n xs:=h
theorem Rd.drew (h:Rd w size A n xs):Rd w.drew size A n xs:=h
theorem Rd.alloc (h:Rd w size A n xs) (o:Obj):Rd (w.alloc o) size A n xs:=h.below ((Below.refl _ _).alloc (Nat.le_refl _) o)
theorem Rd.grown {row:Option Nat} (h:Rd w size A n xs) (hg:w.grownBy w' row) (hr:∀b o,A=some ⟨b,o,none⟩→row≠some b):Rd w' size A n xs :=
  h.keep fun b o hlt ⟨o',e⟩=>World.cell?_of_block (a:=⟨b,o,none⟩) (hg.block b hlt (fun e'=>hr b o' e e'.symm))
theorem Rd.cell (h:Rd w size A n xs) {j:Nat} (hj:j<xs.length):∃b o u,A=some ⟨b,o,none⟩∧b<w.heap.size∧xs[j]? =some u∧w.cell? ⟨b,o+j,none⟩=some u:=by
  have hn:0<n:=by
    rcases Nat.eq_zero_or_pos n with h0|h0
    ·have:=h.1;rw [h0] at this;omega
    ·exact h0
  obtain ⟨b,o,e,hc⟩:=h.2 hn
  have hu:xs[j]? =some xs[j]:=List.getElem?_eq_getElem hj
  exact ⟨b,o,_,e,LB (hc j _ hu),hu,hc j _ hu⟩
end
def mL (zs:List Int):List Value:=zs.map (Value.int .i64)
def Gm (w:World) (A:Option Addr) (len:Nat) (zs:List Int):Prop:=zs.length=len∧len≤16777216∧Rd w 1 A len (mL zs)
def iz (zs:List Int) (i:Nat):Int:=zs.getD i 0
theorem mM {zs:List Int} {i:Nat} {z:Int} (h:zs[i]? =some z):iz zs i=z:=by simp [iz,List.getD,h]
theorem Xg {zs:List Int} {i:Nat} (h:i<zs.length):zs[i]? =some (iz zs i):=by simp [iz,List.getD,h]
section
variable {w w':World} {A:Option Addr} {len:Nat} {zs:List Int}
theorem Gm.below (h:Gm w A len zs) (hb:Below w.heap.size w w'):Gm w' A len zs:=⟨h.1,h.2.1,h.2.2.below hb⟩
theorem Gm.drewN (h:Gm w A len zs) (k:Nat):Gm (w.drewN k) A len zs:=h
theorem Gm.alloc (h:Gm w A len zs) (o:Obj):Gm (w.alloc o) A len zs:=⟨h.1,h.2.1,h.2.2.alloc o⟩
end
structure Lk where
  a:Int
  b:Int
  c:Int
  deriving DecidableEq
def Lk.row (l:Lk):List Value:=[.int .i64 l.a,.int .i64 l.b,.int .i64 l.c]
def mN (ls:List Lk):List Value:=ls.flatMap Lk.row
def Hm (w:World) (A:Option Addr) (len:Nat) (ls:List Lk):Prop:=ls.length=len∧len≤16777216∧Rd w 3 A len (mN ls)
def lk (ls:List Lk) (i:Nat):Lk:=ls.getD i ⟨0,0,0⟩
theorem T7 {ls:List Lk} {i:Nat} {l:Lk} (h:ls[i]? =some l):lk ls i=l:=by simp [lk,List.getD,h]
theorem MB {ls:List Lk} {i:Nat} (h:i<ls.length):ls[i]? =some (lk ls i):=by simp [lk,List.getD,h]
section
variable {w w':World} {A:Option Addr} {len:Nat} {ls:List Lk}
theorem Hm.below (h:Hm w A len ls) (hb:Below w.heap.size w w'):Hm w' A len ls:=⟨h.1,h.2.1,h.2.2.below hb⟩
theorem Hm.drewN (h:Hm w A len ls) (k:Nat):Hm (w.drewN k) A len ls:=h
theorem Hm.alloc (h:Hm w A len ls) (o:Obj):Hm (w.alloc o) A len ls:=⟨h.1,h.2.1,h.2.2.alloc o⟩
end
end Go.Proofs.YtjffopopheiinaaGreatDoor
namespace Go.Proofs.YtjffopopheiinaaGreatDoor
open Go.RowKit
def Lc (Q:Exit→Act→World→Prop):Exit→Act→World→Prop
  | .panic _,_,_=>False
  |e,a,w=>Q e a w
theorem Lc.le {Q:Exit→Act→World→Prop}:∀e a w,Lc Q e a w→Q e a w:=by
  intro e a w h
  cases e<;>first|exact h|exact h.elim
theorem mO {P:Program} {o:Oper} {a:Act} {w:World} {K:Act→World→Prop} {Q Q':Exit→Act→World→Prop} (hq:∀e a w,Q e a w→Q' e a w) (h:o.wp P a w K Q):o.wp P a w K Q':=by
  unfold Oper.wp at *
  generalize (execOp a.eval o).run P w=r at *
  cases r with
  |ok n w' =>
   cases n<;>simp only [Oper.upon] at h ⊢<;>first|exact h|skip
   case enter f args =>
     refine Calls.mono h fun e w'' he=>?_
     cases e with
     |returned u=>exact he
     |panicked c=>exact hq _ _ _ he
     |outgrown=>obtain ⟨a',w',h'⟩:=he;exact ⟨a',w',hq _ _ _ h'⟩
  |halt x w' =>
   cases x<;>simp only [Oper.upon] at h ⊢
   case panic u=>exact hq _ _ _ h
theorem U7 {P:Program} {ops:Array Oper} {i:Nat} {a:Act} {w:World} {K:Act→World→Prop} {Q Q':Exit→Act→World→Prop} (hq:∀e a w,Q e a w→Q' e a w) (h:wpOp P ops Q i K a w):wpOp P ops Q' i K a w:=by
  unfold wpOp at *
  split at h
  ·exact h
  ·split at h
   ·rename_i hw
    simp only [hw,if_true]
    rcases h with h|⟨h1,a',w',h2⟩
    ·exact .inl (mO hq h)
    ·exact .inr ⟨h1,a',w',hq _ _ _ h2⟩
   ·rename_i hw
    simp only [hw]
    exact h
section
variable {P:Program} {ops:Array Oper} {md:Region.Mode} {Q:Exit→Act→World→Prop} {S:World→Prop}
def Wf (P:Program) (md:Region.Mode) (ops:Array Oper) (Q:Exit→Act→World→Prop) (S:World→Prop) (n:Nat) (T:Array Bool→Act→World→Prop):Nat→Array Bool→Act→World→Prop
  |0,listed,a,w=>T listed a w
  |f+1,listed,a,w=>Region.ready md ops listed≠[]∧∀i∈Region.ready md ops listed,i<n∧wpOp P ops Q i (fun a' w'=>S w'∧Wf P md ops Q S n T f (listed.setIfInBounds i true) a' w') a w
theorem NB {n g:Nat} {T:Array Bool→Act→World→Prop} {Q':Exit→Act→World→Prop} (hq:∀e a w,Q e a w→Q' e a w) (hT:∀listed a w,T listed a w→wpAny P md ops Q' g listed a w) :
    ∀(f:Nat) (listed:Array Bool) (a:Act) (w:World),Wf P md ops Q S n T f listed a w→wpAny P md ops Q' (f+g) listed a w
  |0,listed,a,w,h=>by rw [Nat.zero_add];exact hT _ _ _ h
  |f+1,listed,a,w,h=>by
   rw [show f+1+g=(f+g)+1 by omega]
   exact ⟨fun h0=>absurd h0 h.1,fun i hi=>wpOp_mono (fun a' w' h'=>NB hq hT f _ a' w' h'.2) (U7 hq (h.2 i hi).2)⟩
def OB (md:Region.Mode) (ops:Array Oper) (n:Nat):Prop:=n=ops.size∨(Region.sinkB md ops n=true∧Region.chainB md ops n=true∧n<ops.size)
theorem OB.lt {n:Nat} (ht:OB md ops n) {listed:Array Bool} (inv:HeadInv md ops n listed) {i:Nat} (hin:i<n) (hun:listed.getD i true=false) {j:Nat} (hj:j∈Region.ready md ops listed):j<n:=by
  rcases ht with rfl|⟨hs,hc,hn⟩
  ·obtain ⟨_,o,ho,_⟩:=mem_ready.1 hj
   exact (Array.getElem?_eq_some_iff.1 ho).1
  ·rcases Nat.lt_or_ge j n with h|h
   ·exact h
   ·exact absurd hj (tail_waits hs hc hn inv _ i rfl hin hun j h)
theorem AT {n i:Nat} {oi:Oper} {v:Value} {T:Array Bool→Act→World→Prop} (hi:ops[i]? =some oi) (hsel:∀(j:Nat) (o:Oper) cs b,ops[j]? =some o→o.op≠.select cs b)
    (hQ:∀c a w,Q (.panic c) (a.put oi.dst v) w→Q (.panic c) a w)
    (ht:OB md ops n) (hin:i<n)
    (hdone:∀listed a w,T listed a w→∀j∈Region.ready md ops listed,n≤j) :
    ∀(f:Nat) (listed:Array Bool) (a:Act) (w:World),HeadInv md ops n listed →
     (∀j oj,ops[j]? =some oj→j≠i→listed.getD j true=false→(∀e∈oj.after,Region.binds md e=true→e.on≠i)→oi.apart ops oj=true) →
     i∈Region.ready md ops listed→YieldsIf P ops S oi v a→S w →
     Wf P md ops Q S n T f (listed.setIfInBounds i true) (a.put oi.dst v) w→Wf P md ops Q S n T (f+1) listed a w:=by
  intro f
  induction f with
  |zero =>
   intro listed a w inv _ hr hy hS H
   have hun:=(mem_ready.1 hr).1
   refine ⟨fun h=>(by rw [h] at hr;cases hr),fun j hj=>?_⟩
   have hjn:j<n:=ht.lt inv hin hun hj
   refine ⟨hjn,?_⟩
   by_cases hji:j=i
   ·subst hji;exact hy.wpOp hi hS ⟨hS,H⟩
   ·have:=hdone _ _ _ H j (ready_mono hj hji)
    omega
  |succ f ih =>
   intro listed a w inv hfree hr hy hS H
   have hun:=(mem_ready.1 hr).1
   refine ⟨fun h=>(by rw [h] at hr;cases hr),fun j hj=>?_⟩
   have hjn:j<n:=ht.lt inv hin hun hj
   refine ⟨hjn,?_⟩
   by_cases hji:j=i
   ·subst hji;exact hy.wpOp hi hS ⟨hS,H⟩
   ·have h1:=(H.2 j (ready_mono hj hji)).2
    obtain ⟨hjun,oj,hoj,hall⟩:=mem_ready.1 hj
    have hnot:∀e∈oj.after,Region.binds md e=true→e.on≠i:=fun e he hb heq=>by
      have h1:=hall e he hb
      rw [heq,getD_both hun] at h1
      cases h1
    have h2:=wpOp_putIf hoj (hfree j oj hoj hji hjun hnot) (fun cs b=>hsel i oi cs b hi) (fun cs b=>hsel j oj cs b hoj) hQ hy h1
    have hfree':∀k ok,ops[k]? =some ok→k≠i→(listed.setIfInBounds j true).getD k true=false →
        (∀e∈ok.after,Region.binds md e=true→e.on≠i)→oi.apart ops ok=true:=fun k ok hk hki hun hno=>by
      refine hfree k ok hk hki ?_ hno
      by_cases hjk:j=k
      ·subst hjk;exact hjun
      ·rw [getD_set_ne true hjk] at hun;exact hun
    refine wpOp_mono (fun a' w' h3=>⟨h3.2.1,ih (listed.setIfInBounds j true) a' w' (inv.set hj hjn) hfree' (ready_mono hr (Ne.symm hji)) h3.1 h3.2.1 ?_⟩) h2
    rw [Array.setIfInBounds_comm _ _ hji]
    exact h3.2.2
def Of:Op→Bool
  | .move _| .assign _| .pick _ _ _| .build _ _| .load _ _| .binOp _ _ _ _ _| .unOp _ _ _| .convert _ _ _| .slice _ _ _ _ _| .fieldAddr _ _ _| .field _ _ _| .indexAddr _ _ _| .index _ _ _| .extract _ _| .nilCheck _=>true
  | .call { callee:=.builtin .len,.. }| .call { callee:=.builtin .cap,.. }| .call { callee:=.builtin .min,.. }| .call { callee:=.builtin .max,.. }=>true
  |_=>false
def Ze (P:Program) (s:Sem Next):Prop:=∀w n w',s.run P w=.ok n w'→∃u,n=.value u
theorem Ze.bind {α:Type} {s:Sem α} {f:α→Sem Next} (h:∀a,Ze P (f a)):Ze P (s >>= f):=by
  intro w n w' e
  rw [Sem.run_bind] at e
  generalize s.run P w=r at e
  cases r with
  |ok a w1=>exact h a w1 n w' e
  |halt x w1=>simp [Result.andThen] at e
theorem Ze.pure {v:Value}:Ze P (pure (Next.value v)):=by
  intro w n w' e
  simp only [Sem.run_pure,Result.ok.injEq] at e
  exact ⟨_,e.1.symm⟩
theorem Ze.nilDeref:Ze P (runtimePanic .nilDeref):=by
  intro w n w' e
  simp [runtimePanic,go_sem] at e
theorem mP {ρ:Operand→Value} {o:Oper} (hv:Of o.op=true):Ze P (execOp ρ o):=by
  obtain ⟨dst,op,ty,pos,after,guard⟩:=o
  cases op<;>simp only [Of] at hv<;>first|cases hv|skip
  all_goals try (exact Ze.bind fun _=>Ze.pure)
  all_goals try (exact Ze.pure)
  case nilCheck x =>
    simp only [execOp]
    split<;>first|exact Ze.nilDeref|exact Ze.pure|skip
    split<;>first|exact Ze.nilDeref|exact Ze.pure|skip
    refine Ze.bind fun _=>Ze.bind fun _=>?_
    split
    ·exact Ze.bind fun _=>Ze.pure
    ·exact Ze.pure
  case call c =>
    obtain ⟨cal,args,tys⟩:=c
    cases cal with
    |builtin b =>
     cases b<;>simp only at hv<;>first|cases hv|skip
     all_goals
       simp only [execOp,resolve,pure_bind,invoke,builtin]
       exact Ze.bind fun _=>Ze.pure
    |_=>cases hv
theorem WK {o:Oper} {a:Act} {K:Act→Prop} (hv:Of o.op=true) (hw:Region.wanted o (yielded ops a.tmps)=true) (h:o.quiet P a S K):∃v,YieldsIf P ops S o v a∧K (a.put o.dst v):=by
  obtain ⟨v,h1,h2⟩:=h
  refine ⟨v,.inl ⟨hw,fun w hS=>?_⟩,h2⟩
  have h3:=h1 w hS
  unfold Oper.quietAt at h3
  have h4:=mP (P:=P) (ρ:=a.eval) hv w
  generalize hr:(execOp a.eval o).run P w=r at h3 h4 ⊢
  cases r with
  |ok n w' =>
   obtain ⟨u,rfl⟩:=h4 n w' rfl
   simp only [Oper.quietUpon] at h3
   rw [h3.1,h3.2]
  |halt x w'=>exact h3.elim
def Ld (P:Program) (ops:Array Oper) (Q:Exit→Act→World→Prop) (S:World→Prop) (T:Act→World→Prop):List (Oper×Bool)→Act→World→Prop
  |[],a,w=>T a w
  |(o,f)::r,a,w =>
   if Region.wanted o (yielded ops a.tmps) then
     (match f&&Of o.op with
      |false=>o.wp P a w (fun a' w'=>S w'∧Ld P ops Q S T r a' w') (Lc Q)
      |true=>o.quiet P a S (fun a'=>Ld P ops Q S T r a' w))
   else Ld P ops Q S T r (a.put o.dst undef) w
def PB (md:Region.Mode) (ops:Array Oper) (g n:Nat):List (Nat×Bool)→Array Bool→Bool
  |[],listed=>Region.seqB md ops g n listed
  |(k,f)::r,listed =>
   decide (k<n)&&(match ops[k]? with
    |some o=>(if f&&Of o.op then (Region.ready md ops listed).contains k&&Region.free md ops listed k else decide (Region.ready md ops listed=[k]))
    |none=>false)&&PB md ops g n r (listed.setIfInBounds k true)
def QB (md:Region.Mode) (ops:Array Oper) (n:Nat) (ord:List (Nat×Bool)):Bool :=
  Region.noSelect ops&&decide (n<ops.size)&&Region.sinkB md ops n&&Region.chainB md ops n&&decide (ord.length=n)&&PB md ops (ops.size-n) n ord (Array.replicate ops.size false)
def Cc (l:List Oper) (ord:List (Nat×Bool)):List (Oper×Bool):=ord.filterMap fun k=>l[k.1]?.map fun o=>(o,k.2)
theorem V7 {n g:Nat} {T:Act→World→Prop} (hsel:Region.noSelect ops=true) (hs:Region.sinkB md ops n=true) (hc:Region.chainB md ops n=true) (hn:n<ops.size) :
    ∀(ord:List (Nat×Bool)) (listed:Array Bool) (a:Act) (w:World),HeadInv md ops n listed→PB md ops g n ord listed=true→S w→Ld P ops Q S T (Cc ops.toList ord) a w →
    Wf P md ops (Lc Q) S n (fun listed' a' w'=>Region.seqB md ops g n listed'=true∧T a' w') ord.length listed a w
  |[],listed,a,w,_,hB,_,h=>⟨by simpa [PB] using hB,h⟩
  |(k,f)::l,listed,a,w,inv,hB,hS,h=>by
   simp only [PB,Bool.and_eq_true,decide_eq_true_eq] at hB
   obtain ⟨⟨hkn,hB1⟩,hB'⟩:=hB
   cases h0:ops[k]? with
   |none=>simp [h0] at hB1
   |some o =>
   simp only [h0] at hB1
   have hp:Cc ops.toList ((k,f)::l)=(o,f)::Cc ops.toList l:=by
     have:ops.toList[k]? =some o:=by rw [Array.getElem?_toList];exact h0
     unfold Cc;rw [List.filterMap_cons];simp only [this,Option.map_some]
   rw [hp] at h
   have go_on:=fun (a':Act) (w':World) (hr':k∈Region.ready md ops listed) (hS':S w') (h':Ld P ops Q S T (Cc ops.toList l) a' w') =>
     V7 hsel hs hc hn l (listed.setIfInBounds k true) a' w' (inv.set hr' hkn) hB' hS' h'
   unfold Ld at h
   cases hv:f&&Of o.op with
   |true =>
    have hv2:f=true∧Of o.op=true:=by simpa only [Bool.and_eq_true] using hv
    have hv':=hv2.2
    rw [if_pos hv2] at hB1
    simp only [Bool.and_eq_true] at hB1
    have hr':k∈Region.ready md ops listed:=by simpa using hB1.1
    obtain ⟨v,hy,hK⟩:∃v,YieldsIf P ops S o v a∧Ld P ops Q S T (Cc ops.toList l) (a.put o.dst v) w:=by
      by_cases hw:Region.wanted o (yielded ops a.tmps)=true
      ·simp only [hw,if_true,hv] at h
       exact WK hv' hw h
      ·simp only [hw] at h
       exact ⟨undef,.inr ⟨by simpa using hw,rfl⟩,h⟩
    exact AT h0 (Region.noSelect_spec hsel) (fun _ _ _ h=>h) (.inr ⟨hs,hc,hn⟩) hkn (fun listed' a' w' hL=>seqB_ready hL.1) l.length listed a w inv (Region.free_spec h0 hB1.2) hr' hy hS (go_on _ _ hr' hS hK)
   |false =>
    have hv2:¬(f=true∧Of o.op=true):=by rw [←Bool.and_eq_true,hv];exact Bool.false_ne_true
    rw [if_neg hv2] at hB1
    simp only [decide_eq_true_eq] at hB1
    have hr':k∈Region.ready md ops listed:=by rw [hB1];simp
    refine ⟨by rw [hB1];simp,fun i hi=>?_⟩
    rw [hB1] at hi
    obtain rfl:i=k:=by simpa using hi
    refine ⟨hkn,?_⟩
    unfold wpOp
    simp only [h0]
    by_cases hw:Region.wanted o (yielded ops a.tmps)=true
    ·simp only [hw,if_true,hv] at h ⊢
     exact .inl (Oper.wp_mono (fun a' w' h'=>⟨h'.1,go_on a' w' hr' h'.1 h'.2⟩) h)
    ·simp only [hw] at h ⊢
     exact ⟨hS,go_on _ _ hr' hS h⟩
theorem W7 {id:Nat} {a:Act} {w:World} {l:List Oper} (n:Nat) (ord:List (Nat×Bool)) (S:World→Prop) (hm:P.follows .mixedOrders=true) (hB:QB .any l.toArray n ord=true) (hS:S w.drew)
    (h:Ld P l.toArray Q S (fun a' w'=>wpList P l.toArray Q (l.drop n) a' w') (Cc l ord) a w.drew):(Code.region id l.toArray true).wp P Q a w:=by
  simp only [QB,Bool.and_eq_true,decide_eq_true_eq] at hB
  obtain ⟨⟨⟨⟨⟨hsel,hn⟩,hs⟩,hc⟩,hon⟩,hlex⟩:=hB
  have hn':n<l.length:=by simpa using hn
  have hdl:(l.drop n).length=l.toArray.size-n:=by simp
  have inv0:HeadInv .any l.toArray n (Array.replicate l.toArray.size false) :=
    ⟨by simp,fun j oj _ hl=>(by rw [getD_replicate_false] at hl;cases hl),fun t _ ht=>getD_in (by simpa using ht) (getD_replicate_false _ _)⟩
  have H:=V7 (md:=.any) (g:=l.toArray.size-n) hsel hs hc hn ord _ a w.drew inv0 hlex hS h
  refine wp_region_any hm ?_
  have:=NB (Q':=Q) (g:=l.toArray.size-n) Lc.le (fun listed a' w' hL=>by
    have:=wpAny_of_seq (md:=.any) (Q':=Q) (l.drop n) n listed a' w' (fun j=>by simp [List.getElem?_drop]) (by rw [hdl];exact hL.1) hL.2
    rwa [hdl] at this) _ _ _ _ H
  rw [hon] at this
  rwa [show n+(l.toArray.size-n)=l.toArray.size by simp;omega] at this
variable {T:Act→World→Prop} {a:Act} {w:World} {o:Oper} {r:List (Oper×Bool)} {f:Bool}
theorem Yp (h:T a w):Ld P ops Q S T [] a w:=h
theorem Lx (hw:Region.wanted o (yielded ops a.tmps)=false) (h:Ld P ops Q S T r (a.put o.dst undef) w):Ld P ops Q S T ((o,f)::r) a w:=by
  unfold Ld
  simp only [hw]
  exact h
theorem RB (hw:Region.wanted o (yielded ops a.tmps)=true) (hv:(f&&Of o.op)=true) (h:∀K:Act→Prop,(∀a',Ld P ops Q S T r a' w→K a')→o.quiet P a S K):Ld P ops Q S T ((o,f)::r) a w:=by
  unfold Ld
  simp only [hw,hv,if_true]
  exact h _ fun _ h=>h
theorem BT (hw:Region.wanted o (yielded ops a.tmps)=true) (hv:(f&&Of o.op)=false) (h:∀K:Act→World→Prop,(∀a' w',S w'→Ld P ops Q S T r a' w'→K a' w')→o.wp P a w K (Lc Q)):Ld P ops Q S T ((o,f)::r) a w:=by
  unfold Ld
  simp only [hw,hv,if_true]
  exact h _ fun _ _ h1 h2=>⟨h1,h2⟩
theorem X7 {K:Act→World→Prop} (hg:o.guard=none) (h:if Region.wanted o (yielded #[] a.tmps)=true then o.wp P a w K Q else False):o.wp P a w K Q:=by
  rw [if_pos (by simp [Region.wanted,hg])] at h
  exact h
theorem Z7 {id:Nat} {l:List Oper} (n:Nat) (ord:List (Nat×Bool)) (hm:P.follows .mixedOrders=true) (hB:QB .any l.toArray n ord=true)
    (h:Ld P l.toArray Q (fun _=>True) (fun a' w'=>wpList P l.toArray Q (l.drop n) a' w') (Cc l ord) a w.drew):(Code.region id l.toArray true).wp P Q a w :=
  W7 n ord (fun _=>True) hm hB trivial h
end
structure yCZ (P:Program) (T E:TypeId) (size bytes:Nat):Prop where
  und:P.underlying T=some (.slice E)
  info:∃i z,P.info? E=some i∧i.zero=some z∧i.size=size∧i.bytes=bytes∧z.cells.size=size
  pos:0<size
  small:bytes≤1000
section
variable {P:Program} {T E size bytes:Nat} {w:World}
end
end Go.Proofs.YtjffopopheiinaaGreatDoor
namespace Go.Proofs.YtjffopopheiinaaGreatDoor
open Go.RowKit
inductive Tr where
  |done
  |val (k:Nat) (r:Tr)
  |one (k:Nat) (r:Tr)
  |two (k1:Nat) (r1:Tr) (k2:Nat) (r2:Tr)
  |alt (k:Nat) (r:Tr) (m:Tr)
def Ie:Tr→List Nat
  | .one k _=>[k]
  | .alt k _ m=>k::Ie m
  |_=>[]
section
variable {P:Program} {ops:Array Oper} {md:Region.Mode} {Q:Exit→Act→World→Prop} {S:World→Prop}
def Pe (md:Region.Mode) (ops:Array Oper) (g n:Nat):Bool→Nat→Tr→Array Bool→Bool
  |_,0,.done,listed=>Region.seqB md ops g n listed
  |_,m+1,.val k r,listed=>decide (k<n)&&(match ops[k]? with
    |some o=>Of o.op&&(Region.ready md ops listed).contains k&&Region.free md ops listed k
    |none=>false)&&Pe md ops g n true m r (listed.setIfInBounds k true)
  |b,m+1,.one k r,listed=>decide (k<n)&&(!b||decide (Region.ready md ops listed=[k]))&&Pe md ops g n true m r (listed.setIfInBounds k true)
  |_,m+1,.two k1 r1 k2 r2,listed=>decide (k1<n)&&decide (k2<n)&&decide (Region.ready md ops listed=[k1,k2])&&Pe md ops g n true m r1 (listed.setIfInBounds k1 true)&&Pe md ops g n true m r2 (listed.setIfInBounds k2 true)
  |b,m+1,.alt k r t,listed=>decide (k<n)&&(!b||decide (Region.ready md ops listed=k::Ie t))&&Pe md ops g n true m r (listed.setIfInBounds k true)&&Pe md ops g n false (m+1) t listed
  |_,_,_,_=>false
def CT (md:Region.Mode) (ops:Array Oper) (n:Nat) (t:Tr):Bool :=
  Region.noSelect ops&&(decide (n=ops.size)||(decide (n<ops.size)&&Region.sinkB md ops n&&Region.chainB md ops n))&&Pe md ops (ops.size-n) n true n t (Array.replicate ops.size false)
def Mx (P:Program) (ops:Array Oper) (Q:Exit→Act→World→Prop) (S:World→Prop) (o:Oper) (a:Act) (w:World) (R:Act→World→Prop):Prop :=
  if Region.wanted o (yielded ops a.tmps) then o.wp P a w (fun a' w'=>S w'∧R a' w') (Lc Q) else R (a.put o.dst undef) w
def Af (P:Program) (ops:Array Oper) (Q:Exit→Act→World→Prop) (S:World→Prop) (T:Act→World→Prop):Tr→Act→World→Prop
  | .done,a,w=>T a w
  | .val k r,a,w=>∃o,ops[k]? =some o∧(if Region.wanted o (yielded ops a.tmps) then o.quiet P a S (fun a'=>Af P ops Q S T r a' w) else Af P ops Q S T r (a.put o.dst undef) w)
  | .one k r,a,w=>∃o,ops[k]? =some o∧Mx P ops Q S o a w (Af P ops Q S T r)
  | .two k1 r1 k2 r2,a,w=>(∃o,ops[k1]? =some o∧Mx P ops Q S o a w (Af P ops Q S T r1))∧(∃o,ops[k2]? =some o∧Mx P ops Q S o a w (Af P ops Q S T r2))
  | .alt k r m,a,w=>(∃o,ops[k]? =some o∧Mx P ops Q S o a w (Af P ops Q S T r))∧Af P ops Q S T m a w
theorem Im {o:Oper} {a:Act} {w:World} {k:Nat} {R:Act→World→Prop} {K:Act→World→Prop} (h0:ops[k]? =some o) (hS:S w) (h:Mx P ops Q S o a w R) (hk:∀a' w',S w'→R a' w'→K a' w'):wpOp P ops (Lc Q) k K a w:=by
  unfold wpOp
  simp only [h0]
  unfold Mx at h
  by_cases hw:Region.wanted o (yielded ops a.tmps)=true
  ·simp only [hw,if_true] at h ⊢
   exact .inl (Oper.wp_mono (fun a' w' h'=>hk a' w' h'.1 h'.2) h)
  ·simp only [hw] at h ⊢
   exact hk _ _ hS h
theorem A8 {n g m:Nat} {T:Act→World→Prop} (IH:∀(t:Tr) (listed:Array Bool) (a:Act) (w:World),HeadInv md ops n listed→Pe md ops g n true m t listed=true→S w→Af P ops Q S T t a w →
    Wf P md ops (Lc Q) S n (fun listed' a' w'=>Region.seqB md ops g n listed'=true∧T a' w') m listed a w) {listed:Array Bool} {a:Act} {w:World} (inv:HeadInv md ops n listed) (hS:S w) :
    ∀(t:Tr),Pe md ops g n false (m+1) t listed=true→Af P ops Q S T t a w→∀i∈Ie t,i∈Region.ready md ops listed→i<n∧wpOp P ops (Lc Q) i (fun a' w'=>S w'∧Wf P md ops (Lc Q) S n (fun listed' a' w'=>Region.seqB md ops g n listed'=true∧T a' w') m (listed.setIfInBounds i true) a' w') a w
  | .done,_,_,i,hi,_=>by simp [Ie] at hi
  | .val _ _,_,_,i,hi,_=>by simp [Ie] at hi
  | .two _ _ _ _,_,_,i,hi,_=>by simp [Ie] at hi
  | .one k r,hB,h,i,hi,hr=>by
    simp only [Pe,Bool.and_eq_true,decide_eq_true_eq] at hB
    obtain ⟨⟨hkn,_⟩,hB'⟩:=hB
    obtain ⟨o,h0,h⟩:=h
    obtain rfl:i=k:=by simpa [Ie] using hi
    exact ⟨hkn,Im h0 hS h fun a' w' hS' h'=>⟨hS',IH r _ _ _ (inv.set hr hkn) hB' hS' h'⟩⟩
  | .alt k r t,hB,h,i,hi,hr=>by
    simp only [Pe,Bool.and_eq_true,decide_eq_true_eq] at hB
    obtain ⟨⟨⟨hkn,_⟩,hB'⟩,hBt⟩:=hB
    obtain ⟨⟨o,h0,h⟩,ht⟩:=h
    rcases List.mem_cons.1 (show i∈k::Ie t from hi) with rfl|hi
    ·exact ⟨hkn,Im h0 hS h fun a' w' hS' h'=>⟨hS',IH r _ _ _ (inv.set hr hkn) hB' hS' h'⟩⟩
    ·exact A8 IH inv hS t hBt ht i hi hr
theorem Nx {n g:Nat} {T:Act→World→Prop} (hsel:Region.noSelect ops=true) (htl:OB md ops n) :
    ∀(m:Nat) (t:Tr) (listed:Array Bool) (a:Act) (w:World),HeadInv md ops n listed→Pe md ops g n true m t listed=true→S w→Af P ops Q S T t a w →
    Wf P md ops (Lc Q) S n (fun listed' a' w'=>Region.seqB md ops g n listed'=true∧T a' w') m listed a w
  |0,.done,listed,a,w,_,hB,_,h=>⟨by simpa [Pe] using hB,h⟩
  |0,.val _ _,_,_,_,_,hB,_,_=>by simp [Pe] at hB
  |0,.one _ _,_,_,_,_,hB,_,_=>by simp [Pe] at hB
  |0,.two _ _ _ _,_,_,_,_,hB,_,_=>by simp [Pe] at hB
  |0,.alt _ _ _,_,_,_,_,hB,_,_=>by simp [Pe] at hB
  |m+1,.done,_,_,_,_,hB,_,_=>by simp [Pe] at hB
  |m+1,.val k r,listed,a,w,inv,hB,hS,h=>by
   simp only [Pe,Bool.and_eq_true,decide_eq_true_eq] at hB
   obtain ⟨⟨hkn,hB1⟩,hB'⟩:=hB
   obtain ⟨o,h0,h⟩:=h
   simp only [h0,Bool.and_eq_true] at hB1
   have hr':k∈Region.ready md ops listed:=by simpa using hB1.1.2
   obtain ⟨v,hy,hK⟩:∃v,YieldsIf P ops S o v a∧Af P ops Q S T r (a.put o.dst v) w:=by
     by_cases hw:Region.wanted o (yielded ops a.tmps)=true
     ·simp only [hw,if_true] at h
      exact WK hB1.1.1 hw h
     ·simp only [hw] at h
      exact ⟨undef,.inr ⟨by simpa using hw,rfl⟩,h⟩
   exact AT h0 (Region.noSelect_spec hsel) (fun _ _ _ h=>h) htl hkn (fun listed' a' w' hL=>seqB_ready hL.1) m listed a w inv (Region.free_spec h0 hB1.2) hr' hy hS
     (Nx hsel htl m r _ _ _ (inv.set hr' hkn) hB' hS hK)
  |m+1,.one k r,listed,a,w,inv,hB,hS,h=>by
   simp only [Pe,Bool.and_eq_true,decide_eq_true_eq,Bool.not_true,Bool.false_or] at hB
   obtain ⟨⟨hkn,hB1⟩,hB'⟩:=hB
   obtain ⟨o,h0,h⟩:=h
   have hr':k∈Region.ready md ops listed:=by rw [hB1];simp
   refine ⟨by rw [hB1];simp,fun i hi=>?_⟩
   rw [hB1] at hi
   obtain rfl:i=k:=by simpa using hi
   exact ⟨hkn,Im h0 hS h fun a' w' hS' h'=>⟨hS',Nx hsel htl m r _ _ _ (inv.set hr' hkn) hB' hS' h'⟩⟩
  |m+1,.two k1 r1 k2 r2,listed,a,w,inv,hB,hS,h=>by
   simp only [Pe,Bool.and_eq_true,decide_eq_true_eq] at hB
   obtain ⟨⟨⟨⟨hk1,hk2⟩,hB1⟩,hBa⟩,hBb⟩:=hB
   obtain ⟨⟨o1,h1,ha⟩,o2,h2,hb⟩:=h
   have hr1:k1∈Region.ready md ops listed:=by rw [hB1];simp
   have hr2:k2∈Region.ready md ops listed:=by rw [hB1];simp
   refine ⟨by rw [hB1];simp,fun i hi=>?_⟩
   rw [hB1] at hi
   have hi:i=k1∨i=k2:=by simpa using hi
   rcases hi with rfl|rfl
   ·exact ⟨hk1,Im h1 hS ha fun a' w' hS' h'=>⟨hS',Nx hsel htl m r1 _ _ _ (inv.set hr1 hk1) hBa hS' h'⟩⟩
   ·exact ⟨hk2,Im h2 hS hb fun a' w' hS' h'=>⟨hS',Nx hsel htl m r2 _ _ _ (inv.set hr2 hk2) hBb hS' h'⟩⟩
  |m+1,.alt k r t,listed,a,w,inv,hB,hS,h=>by
   have hB0:Pe md ops g n false (m+1) (.alt k r t) listed=true:=by
     simp only [Pe,Bool.and_eq_true,decide_eq_true_eq,Bool.not_false,Bool.true_or,true_and] at hB ⊢
     exact ⟨⟨⟨hB.1.1.1,trivial⟩,hB.1.2⟩,hB.2⟩
   simp only [Pe,Bool.and_eq_true,decide_eq_true_eq,Bool.not_true,Bool.false_or] at hB
   obtain ⟨⟨⟨_,hB1⟩,_⟩,_⟩:=hB
   refine ⟨by rw [hB1];simp,fun i hi=>?_⟩
   exact A8 (fun t listed a w=>Nx hsel htl m t listed a w) inv hS (.alt k r t) hB0 h i (by rw [hB1] at hi;exact hi) hi
theorem mQ {id:Nat} {a:Act} {w:World} {l:List Oper} (n:Nat) (t:Tr) (S:World→Prop) (hm:P.follows .mixedOrders=true) (hB:CT .any l.toArray n t=true) (hS:S w.drew)
    (h:Af P l.toArray Q S (fun a' w'=>wpList P l.toArray Q (l.drop n) a' w') t a w.drew):(Code.region id l.toArray true).wp P Q a w:=by
  simp only [CT,Bool.and_eq_true,decide_eq_true_eq] at hB
  obtain ⟨⟨hsel,htl⟩,hlex⟩:=hB
  have htl:OB .any l.toArray n:=by
    simp only [Bool.or_eq_true,Bool.and_eq_true,decide_eq_true_eq] at htl
    rcases htl with h|⟨⟨h1,h2⟩,h3⟩
    ·exact .inl h
    ·exact .inr ⟨h2,h3,h1⟩
  have hn':n≤l.length:=by
    rcases htl with h|⟨_,_,h⟩
    ·rw [h];simp
    ·have:n<l.length:=by simpa using h
     omega
  have hdl:(l.drop n).length=l.toArray.size-n:=by simp
  have inv0:HeadInv .any l.toArray n (Array.replicate l.toArray.size false) :=
    ⟨by simp,fun j oj _ hl=>(by rw [getD_replicate_false] at hl;cases hl),fun t _ ht=>getD_in (by simpa using ht) (getD_replicate_false _ _)⟩
  have H:=Nx (md:=.any) (g:=l.toArray.size-n) hsel htl n t _ a w.drew inv0 hlex hS h
  refine wp_region_any hm ?_
  have:=NB (Q':=Q) (g:=l.toArray.size-n) Lc.le (fun listed a' w' hL=>by
    have:=wpAny_of_seq (md:=.any) (Q':=Q) (l.drop n) n listed a' w' (fun j=>by simp [List.getElem?_drop]) (by rw [hdl];exact hL.1) hL.2
    rwa [hdl] at this) _ _ _ _ H
  rwa [show n+(l.toArray.size-n)=l.toArray.size by simp;omega] at this
inductive XK where
  |done
  |bad
  |val (o:Oper) (r:XK)
  |one (o:Oper) (r:XK)
  |two (r1 r2:XK)
variable {T:Act→World→Prop} {a:Act} {w:World} {o:Oper} {r r1 r2:XK}
end
structure yC0 (S:World→Prop) where
  now:World
  ok:S now
end Go.Proofs.YtjffopopheiinaaGreatDoor
namespace Go.Proofs.YtjffopopheiinaaGreatDoor
open Go.RowKit
structure En where
  n:Int
  c:Int
structure Ls where
  o:Int
  s:Int
  e:List En
structure Gr where
  n:Int
  l:List Lk
structure Pk where
  t:Int
  p:Ls
structure Ev where
  k:Int
  a:Int
structure Lb where
  k:Int
  a:Int
inductive Ty where
  |int|bool|u8|str|lk|gr|en|ls|db|pk|ev|lb
abbrev El:Ty→Type
  | .int=>Int
  | .bool=>Bool
  | .u8=>Int
  | .str=>ByteArray
  | .lk=>Lk
  | .gr=>Gr
  | .en=>En
  | .ls=>Ls
  | .db=>List Ls
  | .pk=>Pk
  | .ev=>Ev
  | .lb=>Lb
inductive IV where
  |s (v:Value)
  |nil
  |sl (g:Bool) (τ:Ty) (xs:List (El τ))
inductive PV where
  |im (x:IV)
  |own (k:Nat)
  |ptr (k o:Nat)
  |ept (k i z o:Nat)
  |at_ (cs:List IV) (o:Nat)
  |fn (f:FuncId) (caps:List PV)
  |agg (cs:List PV)
  |tup (cs:List PV)
inductive Fa where
  |dead
  |row (t:TypeId) (τ:Ty) (xs:List (El τ))
  |vrow (t:TypeId) (τ:Ty)
  |box (t:TypeId) (cs:List PV)
structure St where
  t:List (Nat×PV)
  h:List Fa
def iI (x:Int):IV:=.s (.int .i64 x)
def cells:(τ:Ty)→El τ→List IV
  | .int,x=>[iI x]
  | .bool,x=>[.s (.bool x)]
  | .u8,x=>[.s (.int .u8 x)]
  | .str,x=>[.s (.string x)]
  | .lk,x=>[iI (Lk.a x),iI (Lk.b x),iI (Lk.c x)]
  | .gr,x=>[iI (Gr.n x),.sl true .lk (Gr.l x)]
  | .en,x=>[iI (En.n x),iI (En.c x)]
  | .ls,x=>[iI (Ls.o x),iI (Ls.s x),.sl true .en (Ls.e x)]
  | .db,x=>[.sl true .ls x]
  | .pk,x=>[iI (Pk.t x),iI (Ls.o (Pk.p x)),iI (Ls.s (Pk.p x)),.sl true .en (Ls.e (Pk.p x))]
  | .ev,x=>[iI (Ev.k x),iI (Ev.a x)]
  | .lb,x=>[iI (Lb.k x),iI (Lb.a x)]
def sz:Ty→Nat
  | .int| .bool| .u8| .str| .db=>1
  | .gr| .en| .ev| .lb=>2
  | .lk| .ls=>3
  | .pk=>4
theorem Ko:∀(τ:Ty) (x:El τ),(cells τ x).length=sz τ:=by intro τ x;cases τ<;>rfl
theorem Gj (τ:Ty):0<sz τ:=by cases τ<;>decide
def Nb (τ:Ty) (xs:List (El τ)):List IV:=xs.flatMap (cells τ)
theorem Md (τ:Ty) (xs:List (El τ)):(Nb τ xs).length=xs.length*sz τ:=by
  unfold Nb
  induction xs with
  |nil=>simp
  |cons x r ih=>rw [List.flatMap_cons,List.length_append,ih,Ko,List.length_cons,Nat.succ_mul];omega
theorem Zp (τ:Ty) (xs ys:List (El τ)):Nb τ (xs++ys)=Nb τ xs++Nb τ ys:=by simp [Nb]
theorem Lo (τ:Ty) (x:El τ) (ys:List (El τ)):Nb τ (x::ys)=cells τ x++Nb τ ys:=by simp [Nb]
theorem SB (τ:Ty):∀(xs:List (El τ)) (i:Nat) (x:El τ),xs[i]? =some x→((Nb τ xs).drop (i*sz τ)).take (sz τ)=cells τ x
  |[],i,x,h=>by simp at h
  |y::r,0,x,h=>by
   simp at h;subst h
   rw [Lo,Nat.zero_mul,List.drop_zero,←Ko τ y,List.take_left]
  |y::r,i+1,x,h=>by
   rw [Lo,Nat.succ_mul,Nat.add_comm,←List.drop_drop]
   have e:(cells τ y++Nb τ r).drop (sz τ)=Nb τ r:=by
     have:=List.drop_left (l₁:=cells τ y) (l₂:=Nb τ r)
     rwa [Ko] at this
   rw [e]
   exact SB τ r i x (by simpa using h)
def Ad:List (Nat×PV)→Nat→Option PV
  |[],_=>none
  |(j,v)::r,i=>bif Nat.beq j i then some v else Ad r i
def Aq (xs:List IV):List PV:=xs.map PV.im
def F2 {α β:Type} (R:α→β→Prop) (xs:List α) (us:List β):Prop:=us.length=xs.length∧∀(i:Nat) x u,xs[i]? =some x→us[i]? =some u→R x u
theorem F2.mono {α β:Type} {R R':α→β→Prop} {xs:List α} {us:List β} (h:F2 R xs us) (hr:∀x u,R x u→R' x u):F2 R' xs us:=⟨h.1,fun i x u hx hu=>hr _ _ (h.2 i x u hx hu)⟩
theorem F2.monoI {α γ:Type} {R R':α→γ→Prop} {xs:List α} {us:List γ} (h:F2 R xs us) (hr:∀x∈xs,∀u,R x u→R' x u):F2 R' xs us:=⟨h.1,fun i x u hx hu=>hr x (List.mem_of_getElem? hx) u (h.2 i x u hx hu)⟩
theorem F2.nil {α β:Type} {R:α→β→Prop}:F2 R [] []:=⟨rfl,fun i x u hx _=>by simp at hx⟩
theorem F2.cons {α β:Type} {R:α→β→Prop} {x:α} {u:β} {xs:List α} {us:List β} (h:R x u) (hs:F2 R xs us):F2 R (x::xs) (u::us) :=
  ⟨by simp [hs.1],fun i y v hy hv=>by
    cases i with
    |zero=>simp at hy hv;subst hy hv;exact h
    |succ i=>exact hs.2 i y v (by simpa using hy) (by simpa using hv)⟩
theorem F2.nil_inv {α β:Type} {R:α→β→Prop} {us:List β} (h:F2 R [] us):us=[]:=List.length_eq_zero_iff.1 h.1
theorem F2.cons_inv {α β:Type} {R:α→β→Prop} {x:α} {xs:List α} {us:List β} (h:F2 R (x::xs) us):∃u r,us=u::r∧R x u∧F2 R xs r:=by
  cases us with
  |nil=>have:=h.1;simp at this
  |cons u r=>exact ⟨u,r,rfl,h.2 0 x u rfl rfl,by have:=h.1;simpa using this,fun i y v hy hv=>h.2 (i+1) y v (by simpa using hy) (by simpa using hv)⟩
theorem F2.get {α β:Type} {R:α→β→Prop} {xs:List α} {us:List β} (h:F2 R xs us) {i:Nat} {x:α} (hx:xs[i]? =some x):∃u,us[i]? =some u∧R x u:=by
  have hi:i<us.length:=by rw [h.1];exact (List.getElem?_eq_some_iff.1 hx).1
  exact ⟨us[i],List.getElem?_eq_getElem hi,h.2 i x _ hx (List.getElem?_eq_getElem hi)⟩
theorem F2.app {α β:Type} {R:α→β→Prop} {xs ys:List α} {us vs:List β} (h:F2 R xs us) (k:F2 R ys vs):F2 R (xs++ys) (us++vs) :=
  ⟨by simp [h.1,k.1],fun i x u hx hu=>by
    rw [List.getElem?_append] at hx hu
    rw [h.1] at hu
    split at hx
    ·rename_i hi
     rw [if_pos hi] at hu
     exact h.2 i x u hx hu
    ·rename_i hi
     rw [if_neg hi] at hu
     exact k.2 _ x u hx hu⟩
theorem F2.part {α β:Type} {R:α→β→Prop} {xs:List α} {us:List β} (h:F2 R xs us) (o n:Nat):F2 R ((xs.drop o).take n) ((us.drop o).take n) :=
  ⟨by simp [h.1],fun i x u hx hu=>by
    rw [List.getElem?_take] at hx hu
    split at hx
    ·rename_i hi
     rw [if_pos hi] at hu
     rw [List.getElem?_drop] at hx hu
     exact h.2 _ x u hx hu
    ·cases hx⟩
theorem F2.mapl {α α' γ:Type} {R:α→γ→Prop} {R':α'→γ→Prop} {f:α→α'} {xs:List α} {us:List γ} (h:F2 R xs us) (hr:∀x u,R x u→R' (f x) u):F2 R' (xs.map f) us :=
  ⟨by rw [List.length_map];exact h.1,fun i x u hx hu=>by
    rw [List.getElem?_map] at hx
    obtain ⟨y,hy,rfl⟩:=Option.map_eq_some_iff.1 hx
    exact hr _ _ (h.2 i y u hy hu)⟩
theorem F2.unmap {α α' γ:Type} {R:α'→γ→Prop} {R':α→γ→Prop} {f:α→α'} {xs:List α} {us:List γ} (h:F2 R (xs.map f) us) (hr:∀x u,R (f x) u→R' x u):F2 R' xs us :=
  ⟨by rw [h.1,List.length_map],fun i x u hx hu=>hr _ _ (h.2 i _ u (by rw [List.getElem?_map,hx];rfl) hu)⟩
def wr {α:Type} (xs:List α) (p:Nat) (ys:List α):List α:=xs.take p++ys++xs.drop (p+ys.length)
theorem F2.wr {α γ:Type} {R:α→γ→Prop} {xs ys:List α} {us vs:List γ} (h:F2 R xs us) (k:F2 R ys vs) (p:Nat):F2 R (wr xs p ys) (us.take p++vs++us.drop (p+vs.length)):=by
  have h1:=h.part 0 p
  have h2:=h.part (p+ys.length) (xs.length-(p+ys.length))
  simp only [List.drop_zero] at h1
  rw [List.take_of_length_le (by simp),List.take_of_length_le (by simp [h.1])] at h2
  rw [k.1]
  exact (h1.app k).app h2
inductive Ri (w:World) (E X:Nat→Prop):IV→Value→Prop
  |s (v:Value):Ri w E X (.s v) v
  |nil (A:Option Addr):Ri w E X .nil (.slice A 0 0)
  |sl (g:Bool) (τ:Ty) (xs:List (El τ)) (A:Option Addr) (cap b o:Nat) (us:List Value) (hA:0<xs.length→A=some ⟨b,o,none⟩∧b<w.heap.size∧¬E b∧(g=true→¬X b)) (hcap:xs.length≤cap∧cap≤maxLen) (hl:us.length=(Nb τ xs).length)
     (hc:∀(j:Nat) u,us[j]? =some u→w.cell? ⟨b,o+j,none⟩=some u) (hr:∀(j:Nat) x u,(Nb τ xs)[j]? =some x→us[j]? =some u→Ri w E X x u):Ri w E X (.sl g τ xs) (.slice A xs.length cap)
def Dc (h:List Fa) (j:Nat):Bool:=match h[j]? with|some (.vrow _ _)=>true|_=>false
def YK (_:World) (_ _:Nat→Prop) (_:TypeId) (_:Option Addr):Prop:=True
def C1 (w:World) (E X:Nat→Prop) (h:List Fa) (β:List (Nat×Nat)):PV→Value→Prop
  | .im x,u=>Ri w E X x u
  | .own k,u=>k<h.length∧Dc h k=false∧(∃A n c,u=.slice A n c)∧∀t τ (xs:List (El τ)),h[k]? =some (.row t τ xs)→∃b c A,β[k]? =some (b,c)∧u=.slice A xs.length c∧(0<c→A=some ⟨b,0,none⟩)∧(c=0→YK w E X t A)
  | .ptr k o,u=>∃b c,β[k]? =some (b,c)∧u=.pointer (some ⟨b,o,none⟩)
  | .ept k i z o,u=>k<h.length∧Dc h k=false∧∃b c,β[k]? =some (b,c)∧u=.pointer (some ⟨b,i*z+o,none⟩)∧∀t τ (xs:List (El τ)),h[k]? =some (.row t τ xs)→z=sz τ∧i<xs.length
  | .at_ xs o,u=>∃b p us,u=.pointer (some ⟨b,p+o,none⟩)∧¬E b∧b<w.heap.size∧(∀(j:Nat) v,us[j]? =some v→w.cell? ⟨b,p+j,none⟩=some v)∧F2 (Ri w E X) xs us
  |_,_=>False
def CF (w:World) (E X:Nat→Prop) (h:List Fa) (β:List (Nat×Nat)):PV→Value→Prop
  | .fn f caps,u=>∃us,u=.func (.func f) #[] us.toArray∧F2 (C1 w E X h β) caps us
  |v,u=>C1 w E X h β v u
def C2 (w:World) (E X:Nat→Prop) (h:List Fa) (β:List (Nat×Nat)):PV→Value→Prop
  | .agg cs,u=>∃us,u=.agg us.toArray∧F2 (C1 w E X h β) cs us
  |v,u=>CF w E X h β v u
def Cv (w:World) (E X:Nat→Prop) (h:List Fa) (β:List (Nat×Nat)):PV→Value→Prop
  | .tup cs,u=>∃us,u=.tuple us.toArray∧F2 (C2 w E X h β) cs us
  |v,u=>C2 w E X h β v u
def Qc:Fa→Nat→Prop
  | .dead,_=>False
  | .row _ _ _,c=>0<c
  | .vrow _ _,_=>False
  | .box _ _,_=>True
def La (h:List Fa) (β:List (Nat×Nat)) (b:Nat):Prop:=∃(k:Nat) (o:Fa) (c:Nat),h[k]? =some o∧Qc o c∧β[k]? =some (b,c)
def Jm (w:World) (E X:Nat→Prop) (h:List Fa) (β:List (Nat×Nat)) (k:Nat):Fa→Prop
  | .dead=>True
  | .row t τ xs=>∃b c,β[k]? =some (b,c)∧(c=0→xs=[])∧c≤maxLen∧(0<c→∃us junk,w.heap[b]? =some (.cells (us++junk).toArray t (0,0))∧F2 (Ri w E X) (Nb τ xs) us∧(∀u∈us,u.oneCell'=true)∧(us++junk).length=c*sz τ)
  | .vrow _ _=>∃b,β[k]? =some (b,0)
  | .box t cs=>∃b c us,β[k]? =some (b,c)∧w.heap[b]? =some (.cells us.toArray t (0,0))∧F2 (C1 w E X h β) cs us∧∀u∈us,u.oneCell'=true
structure Qd (w:World) (E X:Nat→Prop) (h:List Fa) (β:List (Nat×Nat)):Prop where
  len:β.length=h.length
  sub:∀b,La h β b→E b
  nx:∀b,La h β b→¬X b
  ok:∀(k:Nat) (o:Fa),h[k]? =some o→Jm w E X h β k o
  inj:∀(j k:Nat) (o o':Fa) (b c c':Nat),h[j]? =some o→h[k]? =some o'→Qc o c→Qc o' c'→β[j]? =some (b,c)→β[k]? =some (b,c')→j=k
def Cd (h h':List Fa):Prop:=h.length≤h'.length∧(∀k t τ (xs':List (El τ)),k<h.length→h'[k]? =some (.row t τ xs')→(∃xs:List (El τ),h[k]? =some (.row t τ xs)∧xs.length=xs'.length)∨Dc h k=true)∧∀k,k<h.length→Dc h' k=true→Dc h k=true
theorem Cd.refl (h:List Fa):Cd h h:=⟨Nat.le_refl _,fun _ _ _ xs _ e=>.inl ⟨xs,e,rfl⟩,fun _ _ e=>e⟩
theorem Cd.trans {a b c:List Fa} (h:Cd a b) (k:Cd b c):Cd a c:=⟨Nat.le_trans h.1 k.1,fun i t τ xs hi e=>by
  rcases k.2.1 i t τ xs (Nat.lt_of_lt_of_le hi h.1) e with ⟨ys,e1,l1⟩|e1
  ·rcases h.2.1 i t τ ys hi e1 with ⟨zs,e2,l2⟩|e2
   ·exact .inl ⟨zs,e2,l2.trans l1⟩
   ·exact .inr e2
  ·exact .inr (h.2.2 i hi e1),fun i hi e=>h.2.2 i hi (k.2.2 i (Nat.lt_of_lt_of_le hi h.1) e)⟩
theorem Cd.push (h l:List Fa):Cd h (h++l):=⟨by simp,fun k t τ xs hk e=>.inl ⟨xs,by rwa [List.getElem?_append_left hk] at e,rfl⟩,fun k hk e=>by unfold Dc at *;rwa [List.getElem?_append_left hk] at e⟩
section
variable {w w':World} {E E' X X':Nat→Prop} {h h':List Fa} {β β':List (Nat×Nat)}
theorem Ri.keep (hk:∀b,b<w.heap.size→¬E b→w'.heap[b]? =w.heap[b]?) (hs:w.heap.size≤w'.heap.size) (hE:∀b,b<w.heap.size→¬E b→¬E' b) (hX:∀b,b<w.heap.size→¬E b→¬X b→¬X' b) {x:IV} {u:Value} (h:Ri w E X x u):Ri w' E' X' x u:=by
  induction h with
  |s v=>exact .s v
  |nil A=>exact .nil A
  |sl g τ xs A cap b o us hA hcap hl hc hr ih =>
   refine .sl g τ xs A cap b o us (fun h=>⟨(hA h).1,Nat.lt_of_lt_of_le (hA h).2.1 hs,hE b (hA h).2.1 (hA h).2.2.1,fun e=>hX b (hA h).2.1 (hA h).2.2.1 ((hA h).2.2.2 e)⟩) hcap hl (fun j u hu=>?_) ih
   have hn:0<xs.length:=by
     rcases Nat.eq_zero_or_pos xs.length with hn|hn
     ·have h0:=Md τ xs
      rw [hn,Nat.zero_mul] at h0
      have:us=[]:=List.length_eq_zero_iff.1 (by rw [hl,h0])
      rw [this] at hu;simp at hu
     ·exact hn
   exact (World.cell?_of_block (a:=⟨b,o+j,none⟩) (hk b (hA hn).2.1 (hA hn).2.2.1)).trans (hc j u hu)
theorem C1.keep (hk:∀b,b<w.heap.size→¬E b→w'.heap[b]? =w.heap[b]?) (hs:w.heap.size≤w'.heap.size) (hE:∀b,b<w.heap.size→¬E b→¬E' b) (hX:∀b,b<w.heap.size→¬E b→¬X b→¬X' b) (hh:Cd h h') (hβ:∀(k:Nat) p,β[k]? =some p→β'[k]? =some p) {v:PV} {u:Value} (hc:C1 w E X h β v u):C1 w' E' X' h' β' v u:=by
  cases v with
  |im x=>exact Ri.keep hk hs hE hX hc
  |own k =>
   obtain ⟨h0,hv,h1,h2⟩:=hc
   refine ⟨Nat.lt_of_lt_of_le h0 hh.1,(Bool.eq_false_iff.2 fun e=>by rw [hh.2.2 k h0 e] at hv;cases hv),h1,fun t τ xs e=>?_⟩
   obtain ⟨ys,e1,e2⟩:=(hh.2.1 k t τ xs h0 e).resolve_right (by rw [hv];simp)
   obtain ⟨b,c,A,h3,h4,h5,h6⟩:=h2 t τ ys e1
   refine ⟨b,c,A,hβ _ _ h3,by rw [←e2];exact h4,h5,fun _=>trivial⟩
  |ptr k o=>obtain ⟨b,c,h1,h2⟩:=hc;exact ⟨b,c,hβ _ _ h1,h2⟩
  |ept k i z o =>
   obtain ⟨h0,hv,b,c,h1,h2,h3⟩:=hc
   refine ⟨Nat.lt_of_lt_of_le h0 hh.1,(Bool.eq_false_iff.2 fun e=>by rw [hh.2.2 k h0 e] at hv;cases hv),b,c,hβ _ _ h1,h2,fun t τ xs e=>?_⟩
   obtain ⟨ys,e1,e2⟩:=(hh.2.1 k t τ xs h0 e).resolve_right (by rw [hv];simp)
   have:=h3 t τ ys e1
   exact ⟨this.1,by omega⟩
  |at_ xs o =>
   obtain ⟨b,p,us,h1,h2,h3,h4,h5⟩:=hc
   exact ⟨b,p,us,h1,hE b h3 h2,Nat.lt_of_lt_of_le h3 hs,fun j v hv=>(World.cell?_of_block (a:=⟨b,p+j,none⟩) (hk b h3 h2)).trans (h4 j v hv),h5.mono fun x u h=>h.keep hk hs hE hX⟩
  |fn f caps=>exact hc.elim
  |agg cs=>exact hc.elim
  |tup cs=>exact hc.elim
theorem Cv.lift {w w':World} {E E' X X':Nat→Prop} {h h':List Fa} {β β':List (Nat×Nat)} (H:∀v u,C1 w E X h β v u→C1 w' E' X' h' β' v u) {v:PV} {u:Value} (hc:Cv w E X h β v u):Cv w' E' X' h' β' v u:=by
  have hF:∀v u,CF w E X h β v u→CF w' E' X' h' β' v u:=fun v u hc=>by
    cases v with
    |fn f caps=>obtain ⟨us,h1,h2⟩:=hc;exact ⟨us,h1,h2.mono H⟩
    |im x=>exact H (.im x) u hc
    |own k=>exact H (.own k) u hc
    |ptr k o=>exact H (.ptr k o) u hc
    |ept k i z o=>exact H (.ept k i z o) u hc
    |at_ xs o=>exact H (.at_ xs o) u hc
    |agg cs=>exact hc.elim
    |tup cs=>exact hc.elim
  have h2:∀v u,C2 w E X h β v u→C2 w' E' X' h' β' v u:=fun v u hc=>by
    cases v with
    |agg cs=>obtain ⟨us,h1,h2⟩:=hc;exact ⟨us,h1,h2.mono H⟩
    |fn f caps=>exact hF (.fn f caps) u hc
    |im x=>exact hF (.im x) u hc
    |own k=>exact hF (.own k) u hc
    |ptr k o=>exact hF (.ptr k o) u hc
    |ept k i z o=>exact hF (.ept k i z o) u hc
    |at_ xs o=>exact hF (.at_ xs o) u hc
    |tup cs=>exact hc.elim
  cases v with
  |tup cs=>obtain ⟨us,h1,h3⟩:=hc;exact ⟨us,h1,h3.mono h2⟩
  |agg cs=>exact h2 (.agg cs) u hc
  |fn f caps=>exact h2 (.fn f caps) u hc
  |im x=>exact h2 (.im x) u hc
  |own k=>exact h2 (.own k) u hc
  |ptr k o=>exact h2 (.ptr k o) u hc
  |ept k i z o=>exact h2 (.ept k i z o) u hc
  |at_ xs o=>exact h2 (.at_ xs o) u hc
theorem Cv.keep (hk:∀b,b<w.heap.size→¬E b→w'.heap[b]? =w.heap[b]?) (hs:w.heap.size≤w'.heap.size) (hE:∀b,b<w.heap.size→¬E b→¬E' b) (hX:∀b,b<w.heap.size→¬E b→¬X b→¬X' b) (hh:Cd h h') (hβ:∀(k:Nat) p,β[k]? =some p→β'[k]? =some p) {v:PV} {u:Value} (hc:Cv w E X h β v u):Cv w' E' X' h' β' v u :=
  hc.lift fun _ _ h=>h.keep hk hs hE hX hh hβ
def Te:PV→Bool
  | .im (.s v)=>v.oneCell'
  | .im .nil| .im (.sl _ _ _)=>true
  | .own _| .ptr _ _| .ept _ _ _ _| .at_ _ _=>true
  |_=>false
theorem C1.one {v:PV} {u:Value} (hc:C1 w E X h β v u) (hv:Te v=true):u.oneCell'=true:=by
  cases v with
  |im x =>
   cases hc with
   |s v=>exact hv
   |nil=>rfl
   |sl=>rfl
  |own k=>obtain ⟨_,_,⟨A,n,c,rfl⟩,_⟩:=hc;rfl
  |ptr k o=>obtain ⟨b,c,_,rfl⟩:=hc;rfl
  |ept k i z o=>obtain ⟨_,_,b,c,_,rfl,_⟩:=hc;rfl
  |at_ xs o=>obtain ⟨b,p,us,rfl,_⟩:=hc;rfl
  |fn f caps=>exact hc.elim
  |agg cs=>exact hc.elim
  |tup cs=>exact hc.elim
theorem C1.cv {v:PV} {u:Value} (hc:C1 w E X h β v u):Cv w E X h β v u:=by cases v<;>first|exact hc|exact hc.elim
theorem Cv.c1 {v:PV} {u:Value} (hc:Cv w E X h β v u) (hv:Te v=true):C1 w E X h β v u:=by cases v<;>first|exact hc|cases hv
theorem C1.c2 {v:PV} {u:Value} (hc:C1 w E X h β v u):C2 w E X h β v u:=by cases v<;>first|exact hc|exact hc.elim
end
structure Ac (w:World) (h:List Fa) (β:List (Nat×Nat)) (w':World) (h':List Fa) (β':List (Nat×Nat)):Prop where
  os:w'.os=w.os
  tape:w'.tape=w.tape
  output:w'.output=w.output
  size:w.heap.size≤w'.heap.size
  block:∀b,b<w.heap.size→¬La h β b→w'.heap[b]? =w.heap[b]?
  new:∀b,b<w.heap.size→La h' β' b→La h β b
  beta:∀(k:Nat) p,β[k]? =some p→β'[k]? =some p
  hle:Cd h h'
theorem Ac.refl (w:World) (h:List Fa) (β:List (Nat×Nat)):Ac w h β w h β:=⟨rfl,rfl,rfl,Nat.le_refl _,fun _ _ _=>rfl,fun _ _ h=>h,fun _ _ h=>h,Cd.refl _⟩
theorem Ac.trans {w w' w'':World} {h h' h'':List Fa} {β β' β'':List (Nat×Nat)} (a:Ac w h β w' h' β') (b:Ac w' h' β' w'' h'' β''):Ac w h β w'' h'' β'' :=
  ⟨b.os.trans a.os,b.tape.trans a.tape,b.output.trans a.output,Nat.le_trans a.size b.size,
    fun k hk hn=>(b.block k (Nat.lt_of_lt_of_le hk a.size) (fun e=>hn (a.new k hk e))).trans (a.block k hk hn),
    fun k hk e=>a.new k hk (b.new k (Nat.lt_of_lt_of_le hk a.size) e),fun k p h=>b.beta k p (a.beta k p h),a.hle.trans b.hle⟩
theorem La.lt {w:World} {E X:Nat→Prop} {h:List Fa} {β:List (Nat×Nat)} {b:Nat} (hh:Qd w E X h β) (hl:La h β b):b<w.heap.size:=by
  obtain ⟨k,o,c,h1,h2,h3⟩:=hl
  have h4:=hh.ok k o h1
  cases o with
  |dead=>exact h2.elim
  |vrow t τ=>exact h2.elim
  |row t τ xs =>
   obtain ⟨b',c',h5,_,_,h6⟩:=h4
   rw [h3] at h5
   injection h5 with h5;injection h5 with e1 e2
   subst e1 e2
   obtain ⟨us,junk,h7,_⟩:=h6 h2
   exact (Array.getElem?_eq_some_iff.1 h7).1
  |box t cs =>
   obtain ⟨b',c',us,h5,h6,_⟩:=h4
   rw [h3] at h5
   injection h5 with h5;injection h5 with e1 e2
   subst e1 e2
   exact (Array.getElem?_eq_some_iff.1 h6).1
def B8:List (Nat×Array Value):=[(3,(Go.Lib.pow10Tab.map (Value.int .u64)).toArray)]
def Eg (w:World) (h:List Fa) (β:List (Nat×Nat)):Prop:=∀g cs,(g,cs)∈B8→¬La h β g∧∃t z,w.heap[g]? =some (.cells cs t z)
theorem Eg.step {w w':World} {h h':List Fa} {β β':List (Nat×Nat)} (H:Eg w h β) (S:Ac w h β w' h' β'):Eg w' h' β':=fun g cs hg=>by
  obtain ⟨h1,t,z,h2⟩:=H g cs hg
  have hlt:g<w.heap.size:=(Array.getElem?_eq_some_iff.1 h2).1
  exact ⟨fun hl=>h1 (S.new g hlt hl),t,z,by rw [S.block g hlt h1];exact h2⟩
theorem Eg.sub {w:World} {h h':List Fa} {β β':List (Nat×Nat)} (H:Eg w h β) (hs:∀b,La h' β' b→La h β b):Eg w h' β':=fun g cs hg=>⟨fun hl=>(H g cs hg).1 (hs g hl),(H g cs hg).2⟩
structure Nc where
  w:World
  h:List Fa
  β:List (Nat×Nat)
  N:Nat
  X:Nat→Prop
structure Tb (C:Nc) (E:Nat→Prop) (st:St) (a:Act) (w:World) (β:List (Nat×Nat)):Prop where
  cl:C.β.length=C.h.length∧Eg C.w C.h C.β
  xw:∀b,C.X b→b<C.w.heap.size
  step:Ac C.w C.h C.β w st.h β
  heap:Qd w E C.X st.h β
  sz:a.tmps.size=C.N
  df:a.defers=[]
  tm:∀i v,Ad st.t i=some v→∃u,a.tmps[i]? =some u∧Cv w E C.X st.h β v u
abbrev Ya (C:Nc) (st:St) (a:Act) (w:World) (β:List (Nat×Nat)):Prop:=Tb C (La st.h β) st a w β
def Km:Value→PV
  | .slice none 0 0=>.im .nil
  |v=>.im (.s v)
def Gb (t:List (Nat×PV)):Operand→Option PV
  | .tmp i=>Ad t i
  | .const v=>some (Km v)
  | .func f=>some (.fn f [])
  | .global _=>none
section
variable {C:Nc} {E:Nat→Prop} {st:St} {a:Act} {w w':World} {β β':List (Nat×Nat)}
theorem C8 {X:Nat→Prop} {h:List Fa} (v:Value):Cv w E X h β (Km v) v:=by
  unfold Km
  split
  ·exact Ri.nil none
  ·exact Ri.s v
theorem Tb.op (S:Tb C E st a w β) {x:Operand} {v:PV} (h:Gb st.t x=some v):Cv w E C.X st.h β v (a.eval x):=by
  cases x with
  |tmp i =>
   obtain ⟨u,h1,h2⟩:=S.tm i v h
   have e:a.eval (.tmp i)=u:=by simp [Act.eval,Array.getD_eq_getD_getElem?,h1]
   rw [e];exact h2
  |const c=>simp only [Gb,Option.some.injEq] at h;subst h;exact C8 c
  |func f=>simp only [Gb,Option.some.injEq] at h;subst h;exact ⟨[],rfl,F2.nil⟩
  |global g=>cases h
theorem Pf {X:Nat→Prop} {h:List Fa} {v u:Value} (hc:Cv w E X h β (.im (.s v)) u):u=v:=by
  cases hc;rfl
theorem Tb.ev (S:Tb C E st a w β) {x:Operand} {v:Value} (h:Gb st.t x=some (.im (.s v))):a.eval x=v:=Pf (S.op h)
end
end Go.Proofs.YtjffopopheiinaaGreatDoor
namespace Go.Proofs.YtjffopopheiinaaGreatDoor
open Go.RowKit
def Bq:Ty→List Value
  | .int=>[.int .i64 0]
  | .bool=>[.bool false]
  | .u8=>[.int .u8 0]
  | .str=>[.string ByteArray.empty]
  | .lk=>[.int .i64 0,.int .i64 0,.int .i64 0]
  | .gr=>[.int .i64 0,.slice none 0 0]
  | .en| .ev| .lb=>[.int .i64 0,.int .i64 0]
  | .ls=>[.int .i64 0,.int .i64 0,.slice none 0 0]
  | .db=>[.slice none 0 0]
  | .pk=>[.int .i64 0,.int .i64 0,.int .i64 0,.slice none 0 0]
def Qe:List Int→List Int→Bool
  |[],[]=>true
  |a::r,b::s=>decide (a=b)&&Qe r s
  |_,_=>false
structure TI where
  agg:Bool
  size:Nat
  fields:List (Nat×Nat)
  elem:Option (TypeId×Ty×Nat)
  zero:Option (List Value)
  prim:Nat
  ik:Option IntKind
  fg:List Bool
structure Rb (P:Program) (t:TypeId) (i:TI):Prop where
  sz:∀w,(sizeOf t).run P w=.ok i.size w
  ag:∀w,(isAgg t).run P w=.ok i.agg w
  one:i.agg=false→i.size=1
  fld:∀(j off fs:Nat),i.fields[j]? =some (off,fs)→∃fl f,(∀w,(underlying t).run P w=.ok (.struct fl) w)∧fl[j]? =some f∧f.offset=off∧(∀w,(sizeOf f.type).run P w=.ok fs w)∧fs≠0
  el:∀e τ bytes,i.elem=some (e,τ,bytes)→P.underlying t=some (.slice e)∧(∃inf z,P.info? e=some inf∧inf.zero=some z∧inf.size=Go.Proofs.YtjffopopheiinaaGreatDoor.sz τ∧inf.bytes=bytes∧z.cells.size=Go.Proofs.YtjffopopheiinaaGreatDoor.sz τ)∧bytes≤1000
  elz:∀e τ bytes inf z,i.elem=some (e,τ,bytes)→P.info? e=some inf→inf.zero=some z→z.cells.toList=Bq τ
  zero:∀zs,i.zero=some zs→∃z,(∀w,(zeroValue t).run P w=.ok z w)∧z.cells.toList=zs∧∀u∈zs,u.oneCell'=true
  places:∀zs,i.zero=some zs→i.agg=true→∃fs,(∀w,(underlying t).run P w=.ok (.struct fs) w)∧∀w,(fs.mapM fun f=>do pure (f.offset,←sizeOf f.type):Sem (Array (Nat×Nat))).run P w=.ok i.fields.toArray w
  bool:i.prim=1→P.underlying t=some .bool
  int:∀k,i.ik=some k→∀w,(underlying t).run P w=.ok (.int k) w
  str:i.prim=2→P.underlying t=some .string
  ieq:i.prim=3→∀(as bs:List Int),as.length=i.size→bs.length=i.size→∀x y w,(do eqGuard .eql t x y (.agg (as.map (Value.int .i64)).toArray) (.agg (bs.map (Value.int .i64)).toArray);binOp .eql t (.agg (as.map (Value.int .i64)).toArray) (.agg (bs.map (Value.int .i64)).toArray):Sem Value).run P w=.ok (.bool (Qe as bs)) w
  ine:i.prim=3→∀(as bs:List Int),as.length=i.size→bs.length=i.size→∀x y w,(do eqGuard .neq t x y (.agg (as.map (Value.int .i64)).toArray) (.agg (bs.map (Value.int .i64)).toArray);binOp .neq t (.agg (as.map (Value.int .i64)).toArray) (.agg (bs.map (Value.int .i64)).toArray):Sem Value).run P w=.ok (.bool (!Qe as bs)) w
  fag:∀(j off fs:Nat) (b:Bool),i.fields[j]? =some (off,fs)→i.fg[j]? =some b→∃fl f,(∀w,(underlying t).run P w=.ok (.struct fl) w)∧fl[j]? =some f∧f.offset=off∧(∀w,(isAgg f.type).run P w=.ok b w)∧(∀w,(sizeOf f.type).run P w=.ok fs w)
def Xb (P:Program) (tab:TypeId→Option TI):Prop:=∀t i,tab t=some i→Rb P t i
def Fc (w w':World) (E:Nat→Prop) (h:List Fa) (β:List (Nat×Nat)):Prop:=w.heap.size≤w'.heap.size∧∀b,b<w.heap.size→(¬E b∨La h β b)→w'.heap[b]? =w.heap[b]?
theorem Fc.refl (w:World) (E:Nat→Prop) (h:List Fa) (β:List (Nat×Nat)):Fc w w E h β:=⟨Nat.le_refl _,fun _ _ _=>rfl⟩
def TB (P:Program) (st:St) (o:Oper) (v:PV):Prop:=∀C E a w β,Tb C E st a w β→∃u,Cv w E C.X st.h β v u∧∀w',Fc w w' E st.h β→(execOp a.eval o).run P w'=.ok (.value u) w'
def Ue (P:Program) (st:St) (o:Oper) (v:PV):Prop:=∀C E a w β,Tb C E st a w β→∃u,Cv w E C.X st.h β v u∧∀w':World,True→(execOp a.eval o).run P w'=.ok (.value u) w'
theorem Ue.val {P:Program} {st:St} {o:Oper} {v:PV} (h:Ue P st o v):TB P st o v:=fun C E a w β S=>by
  obtain ⟨u,h1,h2⟩:=h C E a w β S
  exact ⟨u,h1,fun w' _=>h2 w' trivial⟩
def Nd:IntKind→Int→Int
  | .i64,x=>wrap64 x
  |k,x=>k.wrap x
theorem ZK (k:IntKind) (x:Int):Nd k x=k.wrap x:=by cases k<;>first|rfl|simp [Nd,wrap64,IntKind.wrap_i64]
def Mo:IntKind→IntKind→Bool
  | .i8,.i8| .i16,.i16| .i32,.i32| .i64,.i64| .u8,.u8| .u16,.u16| .u32,.u32| .u64,.u64=>true
  |_,_=>false
theorem DT {a b:IntKind} (h:Mo a b=true):a=b:=by cases a<;>cases b<;>first|rfl|cases h
def D8 (k:IntKind) (a b:Int):Int:=Nd k ((BitVec.ofInt k.bits a &&& BitVec.ofInt k.bits b).toNat:Int)
def E8 (k:IntKind) (a b:Int):Int:=Nd k ((BitVec.ofInt k.bits a ||| BitVec.ofInt k.bits b).toNat:Int)
def Cq (k:IntKind) (a b:Int):Int:=Nd k ((BitVec.ofInt k.bits a ^^^ BitVec.ofInt k.bits b).toNat:Int)
def F8 (k:IntKind) (a b:Int):Int:=Nd k (a*2 ^ (min b.toNat k.bits))
def Bl (k:IntKind) (a b:Int):Int:=a.fdiv (2 ^ (min b.toNat k.bits))
def ET (op:BinOp) (k:IntKind) (a b:Int):Option (Bool×Value) :=
  match op with
  | .add=>some (true,.int k (Nd k (a+b)))
  | .sub=>some (true,.int k (Nd k (a-b)))
  | .mul=>some (true,.int k (Nd k (a*b)))
  | .lss=>some (true,.bool (decide (a<b)))
  | .leq=>some (true,.bool (decide (a≤b)))
  | .gtr=>some (true,.bool (decide (b<a)))
  | .geq=>some (true,.bool (decide (b≤a)))
  | .eql=>some (true,.bool (decide (a=b)))
  | .neq=>some (true,.bool (!decide (a=b)))
  | .and=>some (true,.int k (D8 k a b))
  | .or=>some (true,.int k (E8 k a b))
  | .xor=>some (true,.int k (Cq k a b))
  |_=>none
theorem mR {P:Program} {op:BinOp} {k:IntKind} {a b:Int} {c:Bool} {r:Value} (h:ET op k a b=some (c,r)) (t:TypeId) (x y:Operand) (w:World):(do eqGuard op t x y (.int k a) (.int k b);binOp op t (.int k a) (.int k b):Sem Value).run P w=.ok r w:=by
  cases op<;>simp only [ET,Option.some.injEq,Prod.mk.injEq] at h<;>first|(cases h;done)|skip
  all_goals obtain ⟨_,rfl⟩:=h
  all_goals first
    |(simp [eqGuard,binOp,Op.intArith,ZK];done)
    |(simp [eqGuard,binOp,Op.intBits,D8,E8,Cq,ZK];done)
    |(simp [eqGuard,binOp,Op.intCmp];done)
    |(simp [eqGuard,binOp,Op.intCmp];rfl)
    |(simp [eqGuard,binOp,Op.intCmp];exact Bool.eq_iff_iff.2 (by simp))
def FT (op:BinOp) (a b:Int):Option (Bool×Value) :=
  match op with
  | .quo=>some (!decide (b=0),.int .i64 (wrap64 (a.tdiv b)))
  | .rem=>some (!decide (b=0),.int .i64 (a.tmod b))
  |_=>none
theorem mS {P:Program} {op:BinOp} {a b:Int} {c:Bool} {r:Value} (h:FT op a b=some (c,r)) (hc:c=true) (t:TypeId) (x y:Operand) (w:World):(do eqGuard op t x y (.int .i64 a) (.int .i64 b);binOp op t (.int .i64 a) (.int .i64 b):Sem Value).run P w=.ok r w:=by
  subst hc
  cases op<;>simp only [FT,Option.some.injEq,Prod.mk.injEq] at h<;>first|(cases h;done)|skip
  all_goals
    obtain ⟨h0,rfl⟩:=h
    have h0:b≠0:=by simpa using h0
    simp [eqGuard,binOp,Op.intDiv,h0,wrap64,IntKind.wrap_i64]
def GT (op:BinOp) (k:IntKind) (a b:Int):Option (Bool×Value) :=
  match op with
  | .shl=>some (!decide (b<0),.int k (F8 k a b))
  | .shr=>some (!decide (b<0),.int k (Bl k a b))
  |_=>none
theorem mT {P:Program} {op:BinOp} {k k':IntKind} {a b:Int} {c:Bool} {r:Value} (h:GT op k a b=some (c,r)) (hc:c=true) (t:TypeId) (x y:Operand) (w:World):(do eqGuard op t x y (.int k a) (.int k' b);binOp op t (.int k a) (.int k' b):Sem Value).run P w=.ok r w:=by
  subst hc
  cases op<;>simp only [GT,Option.some.injEq,Prod.mk.injEq] at h<;>first|(cases h;done)|skip
  all_goals
    obtain ⟨h0,rfl⟩:=h
    have h0:¬b<0:=by simpa using h0
    simp [eqGuard,binOp,Op.shift,h0,F8,Bl,ZK]
def IT (op:BinOp) (a b:Bool):Option (Bool×Value) :=
  match op with
  | .eql=>some (true,.bool (a==b))
  | .neq=>some (true,.bool (!(a==b)))
  |_=>none
theorem mU {P:Program} {op:BinOp} {a b:Bool} {c:Bool} {r:Value} (h:IT op a b=some (c,r)) (t:TypeId) (hu:P.underlying t=some .bool) (x y:Operand) (w:World):(do eqGuard op t x y (.bool a) (.bool b);binOp op t (.bool a) (.bool b):Sem Value).run P w=.ok r w:=by
  cases op<;>simp only [IT,Option.some.injEq,Prod.mk.injEq] at h<;>first|(cases h;done)|skip
  all_goals obtain ⟨_,rfl⟩:=h
  ·simp only [eqGuard,Sem.run_bind];simp [run_eql_bool w t a b hu]
  ·simp only [eqGuard,Sem.run_bind];simp [run_neq_bool w t a b hu]
def Da (a b:ByteArray):ByteArray:=a++b
def Ec (a b:ByteArray):Bool:=a.toList==b.toList
def No (xs:List Int):ByteArray:=strOfNums xs
def JT (op:BinOp) (a b:ByteArray):Option (Bool×Value) :=
  match op with
  | .add=>some (decide (a.size+b.size≤9223372036854775807),.string (Da a b))
  | .eql=>some (true,.bool (Ec a b))
  | .neq=>some (true,.bool (!Ec a b))
  |_=>none
theorem mV {P:Program} {op:BinOp} {a b:ByteArray} {c:Bool} {r:Value} (h:JT op a b=some (c,r)) (hc:c=true) (t:TypeId) (x y:Operand) (w:World):(do eqGuard op t x y (.string a) (.string b);binOp op t (.string a) (.string b):Sem Value).run P w=.ok r w:=by
  subst hc
  cases op<;>simp only [JT,Option.some.injEq,Prod.mk.injEq] at h<;>first|(cases h;done)|skip
  ·obtain ⟨h0,rfl⟩:=h
   have:=run_string_add_sum (P:=P) w a b (oT h0)
   simp [eqGuard,binOp,this,Da]
  ·obtain ⟨_,rfl⟩:=h
   simp [eqGuard,binOp,Op.stringOp,Ec]
  ·obtain ⟨_,rfl⟩:=h
   simp [eqGuard,binOp,Op.stringOp,Ec]
def Ox:List PV→Option (List Int)
  |[]=>some []
  | .im (.s (.int .i64 a))::r=>match Ox r with|some l=>some (a::l)|none=>none
  |_::_=>none
theorem KT {w:World} {E X:Nat→Prop} {h:List Fa} {β:List (Nat×Nat)}:∀{cs:List PV} {l:List Int} {us:List Value},Ox cs=some l→F2 (C1 w E X h β) cs us→us=l.map (Value.int .i64)
  |[],l,us,h,hF=>by
   simp only [Ox,Option.some.injEq] at h
   subst h
   exact hF.nil_inv
  | .im (.s (.int .i64 a))::r,l,us,h,hF=>by
    simp only [Ox] at h
    split at h
    ·rename_i l' hl
     injection h with h;subst h
     obtain ⟨u,us',rfl,h1,h2⟩:=hF.cons_inv
     rw [KT hl h2]
     cases h1
     rfl
    ·cases h
def LT (tab:TypeId→Option TI) (t:TypeId) (op:BinOp):PV→PV→Option (Bool×Value)
  | .im (.s (.int k a)),.im (.s (.int k' b))=>match GT op k a b with|some r=>some r|none=>bif Mo k k' then (match ET op k a b with|some r=>some r|none=>bif Mo k .i64 then FT op a b else none) else none
  | .im (.s (.bool a)),.im (.s (.bool b))=>match tab t with|some i=>bif Nat.beq i.prim 1 then IT op a b else none|none=>none
  | .im (.s (.string a)),.im (.s (.string b))=>JT op a b
  | .agg cs,.agg ds=>match tab t,Ox cs,Ox ds with
    |some i,some as,some bs=>bif Nat.beq i.prim 3&&Nat.beq as.length i.size&&Nat.beq bs.length i.size then (match op with| .eql=>some (true,.bool (Qe as bs))| .neq=>some (true,.bool (!Qe as bs))|_=>none) else none
    |_,_,_=>none
  |_,_=>none
section
variable {P:Program} {st:St} {o:Oper} {tab:TypeId→Option TI}
theorem mW (H:Xb P tab) {op:BinOp} {t t':TypeId} {x y:Operand} {vx vy:PV} {r:Value} {c:Bool} (ho:o.op=.binOp op t x y t') (hx:Gb st.t x=some vx) (hy:Gb st.t y=some vy) (h:LT tab t op vx vy=some (c,r)) (hc:c=true):Ue P st o (.im (.s r)):=fun C E a w β S=>by
  have key:∀w,(do eqGuard op t x y (a.eval x) (a.eval y);binOp op t (a.eval x) (a.eval y):Sem Value).run P w=.ok r w:=fun w=>by
    have h1:=S.op hx
    have h2:=S.op hy
    generalize a.eval x=ux at *
    generalize a.eval y=uy at *
    unfold LT at h
    split at h
    ·rename_i k a k' b
     rw [Pf h1,Pf h2]
     split at h
     ·rename_i r' hr
      injection h with h;subst h
      exact mT hr hc t x y w
     ·cases hk:Mo k k' with
      |false=>rw [hk] at h;cases h
      |true =>
       rw [hk] at h
       have:=DT hk
       subst this
       simp only [cond_true] at h
       split at h
       ·rename_i r' hr
        injection h with h;subst h
        exact mR hr t x y w
       ·cases hq:Mo k .i64 with
        |false=>rw [hq] at h;cases h
        |true =>
         rw [hq] at h
         have:=DT hq
         subst this
         exact mS h hc t x y w
    ·rw [Pf h1,Pf h2]
     split at h
     ·rename_i i hi
      cases hq:Nat.beq i.prim 1 with
      |false=>rw [hq] at h;cases h
      |true =>
       rw [hq] at h
       exact mU h t ((H t i hi).bool (Nat.eq_of_beq_eq_true hq)) x y w
     ·cases h
    ·rw [Pf h1,Pf h2]
     exact mV h hc t x y w
    ·split at h
     ·rename_i i as bs hi ha hb
      cases hq:(Nat.beq i.prim 3&&Nat.beq as.length i.size&&Nat.beq bs.length i.size) with
      |false=>rw [hq] at h;cases h
      |true =>
       rw [hq] at h
       simp only [Bool.and_eq_true] at hq
       obtain ⟨⟨q1,q2⟩,q3⟩:=hq
       obtain ⟨us,rfl,hF⟩:=h1
       obtain ⟨vs,rfl,hG⟩:=h2
       rw [KT ha hF,KT hb hG]
       have T:=H t i hi
       simp only [cond_true] at h
       split at h<;>first|(cases h;done)|skip
       all_goals simp only [Option.some.injEq,Prod.mk.injEq] at h;obtain ⟨_,rfl⟩:=h
       ·exact T.ieq (Nat.eq_of_beq_eq_true q1) as bs (Nat.eq_of_beq_eq_true q2) (Nat.eq_of_beq_eq_true q3) x y w
       ·exact T.ine (Nat.eq_of_beq_eq_true q1) as bs (Nat.eq_of_beq_eq_true q2) (Nat.eq_of_beq_eq_true q3) x y w
     ·cases h
    ·cases h
  exact ⟨r,Ri.s r,fun w' _=>by simp only [execOp,ho,Sem.run_bind];have:=key w';simp only [Sem.run_bind] at this;simp [this]⟩
def MT (tab:TypeId→Option TI) (t:TypeId):BinOp→PV→Operand→Option Bool
  | .eql,.im (.sl _ _ xs),.const (.slice none 0 0)=>(match tab t with
    |some i=>(match i.elem with|some _=>some (decide (0<xs.length))|none=>none)
    |none=>none)
  |_,_,_=>none
theorem mX (H:Xb P tab) {op:BinOp} {t t':TypeId} {x y:Operand} {vx:PV} {c:Bool} (ho:o.op=.binOp op t x y t') (hx:Gb st.t x=some vx) (h:MT tab t op vx y=some c) (hc:c=true):Ue P st o (.im (.s (.bool false))):=fun C E a w β S=>by
  have key:∀w,(do eqGuard op t x y (a.eval x) (a.eval y);binOp op t (a.eval x) (a.eval y):Sem Value).run P w=.ok (.bool false) w:=fun w=>by
    have h1:=S.op hx
    generalize a.eval x=ux at *
    unfold MT at h
    split at h
    ·split at h
     ·rename_i i hi
      split at h
      ·rename_i el hel
       injection h with h
       rw [←h] at hc
       have hn:=oT hc
       obtain ⟨hund,_⟩:=(H t i hi).el el.1 el.2.1 el.2.2 hel
       cases h1 with
       |sl g τ xs A cap b o us hA hcap hl hcc hr =>
        rw [(hA hn).1]
        simp only [eqGuard,Sem.run_bind,Act.eval]
        simp [Go.Lib.run_eql_slice_nil w t _ _ _ _ _ _ hund]
      ·cases h
     ·cases h
    ·cases h
  exact ⟨_,Ri.s _,fun w' _=>by simp only [execOp,ho,Sem.run_bind];have:=key w';simp only [Sem.run_bind] at this;simp [this]⟩
theorem mY {x:Operand} {v:PV} (ho:o.op=.move x) (h:Gb st.t x=some v):Ue P st o v:=fun C E a w β S=>⟨_,S.op h,fun w' _=>by simp [execOp,ho]⟩
theorem mZ {x:Operand} {v:PV} (ho:o.op=.assign x) (h:Gb st.t x=some v):Ue P st o v:=fun C E a w β S=>⟨_,S.op h,fun w' _=>by simp [execOp,ho]⟩
theorem nA {c x y:Operand} {b:Bool} {v1 v2:PV} (ho:o.op=.pick c x y) (hc:Gb st.t c=some (.im (.s (.bool b)))) (h1:Gb st.t x=some v1) (h2:Gb st.t y=some v2):Ue P st o (bif b then v1 else v2):=fun C E a w β S=>by
  have e:=S.ev hc
  cases b
  ·exact ⟨_,S.op h2,fun w' _=>by simp [execOp,ho,e,asBool]⟩
  ·exact ⟨_,S.op h1,fun w' _=>by simp [execOp,ho,e,asBool]⟩
def NT:UnOp→Value→Option Value
  | .not,.bool b=>some (.bool (!b))
  | .neg,.int .i64 x=>some (.int .i64 (wrap64 (-x)))
  |_,_=>none
theorem nB {op:UnOp} {t:TypeId} {x:Operand} {vx r:Value} (ho:o.op=.unOp op t x) (hx:Gb st.t x=some (.im (.s vx))) (h:NT op vx=some r):Ue P st o (.im (.s r)):=fun C E a w β S =>
  ⟨r,Ri.s r,fun w' _=>by
    have hr:(Op.unary op vx).run P w'=.ok r w':=by
      unfold NT at h
      split at h<;>first|(cases h;done)|skip
      all_goals
        injection h with h
        subst h
        simp [Op.unary,Op.intArith,wrap64,IntKind.wrap_i64]
    simp only [execOp,ho,S.ev hx,Sem.run_bind,hr,Result.andThen_ok];simp⟩
theorem Cl (b p n:Nat):(⟨b,p,none⟩:Addr).add n=⟨b,p+n,none⟩:=by unfold Addr.add;split<;>simp_all
def PT (off:Nat):PV→Option PV
  | .ptr k o=>some (.ptr k (o+off))
  | .ept k i z o=>some (.ept k i z (o+off))
  | .at_ cs o=>some (.at_ cs (o+off))
  |_=>none
theorem nC (H:Xb P tab) {t:TypeId} {x:Operand} {j off fs:Nat} {i:TI} {v v':PV} (ho:o.op=.fieldAddr t x j) (hx:Gb st.t x=some v) (hi:tab t=some i) (hf:i.fields[j]? =some (off,fs)) (h:PT off v=some v'):Ue P st o v':=fun C E a w β S=>by
  obtain ⟨fl,f,hu,hfl,hoff,hs,h0⟩:=(H t i hi).fld j off fs hf
  have hop:=S.op hx
  unfold PT at h
  split at h<;>first|(cases h;done)|skip
  all_goals injection h with h;subst h
  ·obtain ⟨b,c,h1,h2⟩:=hop
   refine ⟨_,⟨b,c,h1,rfl⟩,fun w' _=>?_⟩
   simp [execOp,ho,h2,Instr.fieldAt,hu,hfl,Instr.sureAddr,fieldPlace,hs,h0,Cl,hoff]
  ·obtain ⟨hk,hv,b,c,h1,h2,h3⟩:=hop
   refine ⟨_,⟨hk,hv,b,c,h1,rfl,h3⟩,fun w' _=>?_⟩
   simp [execOp,ho,h2,Instr.fieldAt,hu,hfl,Instr.sureAddr,fieldPlace,hs,h0,Cl,hoff,Nat.add_assoc]
  ·obtain ⟨b,q,us,h1,h2⟩:=hop
   refine ⟨_,⟨b,q,us,rfl,h2⟩,fun w' _=>?_⟩
   simp [execOp,ho,h1,Instr.fieldAt,hu,hfl,Instr.sureAddr,fieldPlace,hs,h0,Cl,hoff,Nat.add_assoc]
end
end Go.Proofs.YtjffopopheiinaaGreatDoor
namespace Go.Proofs.YtjffopopheiinaaGreatDoor
open Go.RowKit
section
variable {P:Program} {st:St} {o:Oper} {tab:TypeId→Option TI}
theorem AL {w w':World} {b p:Nat} {v:Value} (h:w.cell? ⟨b,p,none⟩=some v) (hk:w'.heap[b]? =w.heap[b]?):w'.cell? ⟨b,p,none⟩=some v:=(World.cell?_of_block (a:=⟨b,p,none⟩) hk).trans h
theorem G8 {t:TypeId} {i:TI} (T:Rb P t i) (hg:i.agg=false) {w:World} {b p:Nat} {v:Value} (h:w.cell? ⟨b,p,none⟩=some v):(Instr.loadAt t (.pointer (some ⟨b,p,none⟩))).run P w=.ok v w:=by
  have:=T.ag
  rw [hg] at this
  simp [Instr.loadAt,Instr.sureAddr,loadVar,this,load,h,Sem.run]
theorem H8 {t:TypeId} {i:TI} (T:Rb P t i) (hg:i.agg=true) {w:World} {b p:Nat} {us:List Value} (hl:us.length=i.size) (h:∀(j:Nat) v,us[j]? =some v→w.cell? ⟨b,p+j,none⟩=some v):(Instr.loadAt t (.pointer (some ⟨b,p,none⟩))).run P w=.ok (.agg us.toArray) w:=by
  have:=run_loadCells_list (P:=P) w ⟨b,p,none⟩ us (fun j v hv=>by rw [Cl];exact h j v hv)
  rw [hl] at this
  have ha:=T.ag
  rw [hg] at ha
  simp [Instr.loadAt,Instr.sureAddr,loadVar,ha,T.sz,this]
theorem Dq {w:World} {b:Nat} {us junk:List Value} {t:TypeId} {fr:Nat×Nat} (h:w.heap[b]? =some (.cells (us++junk).toArray t fr)) {j:Nat} {u:Value} (hu:us[j]? =some u):w.cell? ⟨b,j,none⟩=some u:=by
  rw [cell_of_row w b j _ t fr h,List.getElem?_toArray,List.getElem?_append_left (List.getElem?_eq_some_iff.1 hu).1]
  exact hu
def QT (i:TI) (cs:List PV):Option PV:=bif Nat.beq cs.length i.size then (bif i.agg then some (.agg cs) else match cs with|[v]=>some v|_=>none) else none
theorem RT {t:TypeId} {i:TI} (T:Rb P t i) {w w':World} {E X:Nat→Prop} {h:List Fa} {β:List (Nat×Nat)} {b p:Nat} {cs:List PV} {us:List Value} {v:PV} (hF:F2 (C1 w E X h β) cs us) (hc:∀(j:Nat) u,us[j]? =some u→w'.cell? ⟨b,p+j,none⟩=some u) (hv:QT i cs=some v):∃u,Cv w E X h β v u∧(Instr.loadAt t (.pointer (some ⟨b,p,none⟩))).run P w'=.ok u w'∧∀w'',(∀(j:Nat) u,us[j]? =some u→w''.cell? ⟨b,p+j,none⟩=some u)→(Instr.loadAt t (.pointer (some ⟨b,p,none⟩))).run P w''=.ok u w'':=by
  unfold QT at hv
  cases hl:Nat.beq cs.length i.size with
  |false=>rw [hl] at hv;cases hv
  |true =>
   rw [hl] at hv
   have hl:=Nat.eq_of_beq_eq_true hl
   simp only [cond_true] at hv
   cases hg:i.agg with
   |true =>
    rw [hg] at hv
    injection hv with hv
    subst hv
    exact ⟨.agg us.toArray,⟨us,rfl,hF⟩,H8 T hg (by rw [hF.1,hl]) hc,fun w'' hc=>H8 T hg (by rw [hF.1,hl]) hc⟩
   |false =>
    rw [hg] at hv
    simp only [cond_false] at hv
    split at hv
    ·injection hv with hv
     subst hv
     obtain ⟨u,r,rfl,h1,h2⟩:=hF.cons_inv
     exact ⟨u,h1.cv,G8 T hg (by have:=hc 0 u rfl;simpa using this),fun w'' hc=>G8 T hg (by have:=hc 0 u rfl;simpa using this)⟩
    ·cases hv
def UB:(τ:Ty)→El τ
  | .int=>(0:Int)
  | .bool=>false
  | .u8=>(0:Int)
  | .str=>ByteArray.empty
  | .lk=>Lk.mk 0 0 0
  | .gr=>Gr.mk 0 []
  | .en=>En.mk 0 0
  | .ls=>Ls.mk 0 0 []
  | .db=>([]:List Ls)
  | .pk=>Pk.mk 0 (Ls.mk 0 0 [])
  | .ev=>Ev.mk 0 0
  | .lb=>Lb.mk 0 0
def Ba (τ:Ty):List (El τ)→Nat→El τ
  |[],_=>UB τ
  |x::_,0=>x
  |_::r,i+1=>Ba τ r i
theorem Px (τ:Ty):∀(xs:List (El τ)) (i:Nat),i<xs.length→xs[i]? =some (Ba τ xs i)
  |[],i,h=>by simp at h
  |x::_,0,_=>rfl
  |x::r,i+1,h=>by simpa [Ba] using Px τ r i (by simpa using h)
def ST (h:List Fa):PV→Option (List PV)
  | .ptr k o=>match h[k]? with|some (.box _ cs)=>some (cs.drop o)|_=>none
  | .ept k i _ o=>match h[k]? with|some (.row _ τ xs)=>some ((Aq (cells τ (Ba τ xs i))).drop o)|_=>none
  | .at_ cs o=>some ((Aq cs).drop o)
  |_=>none
def VB (st:St) (i:TI) (v:PV):Option PV:=match ST st.h v with|some cs=>QT i (cs.take i.size)|none=>none
theorem TT {w:World} {E X:Nat→Prop} {h:List Fa} {β:List (Nat×Nat)} {cs:List IV} {us:List Value} (hF:F2 (Ri w E X) cs us):F2 (C1 w E X h β) (Aq cs) us:=hF.mapl fun _ _ h=>h
theorem UT {w:World} {E X:Nat→Prop} {h:List Fa} {β:List (Nat×Nat)} {cs:List IV} {us:List Value} (hF:F2 (C1 w E X h β) (Aq cs) us):F2 (Ri w E X) cs us:=hF.unmap fun _ _ h=>h
theorem I8 (H:Xb P tab) {t:TypeId} {x:Operand} {i:TI} {v v':PV} (ho:o.op=.load t x) (hx:Gb st.t x=some v) (hi:tab t=some i) (h:VB st i v=some v'):TB P st o v':=fun C E a w β S=>by
  have T:=H t i hi
  have hop:=S.op hx
  unfold VB at h
  split at h
  case h_2=>cases h
  rename_i cs hcs
  unfold ST at hcs
  split at hcs
  ·rename_i k off
   split at hcs
   case h_2=>cases hcs
   rename_i t' cs' hk
   injection hcs with hcs
   subst hcs
   obtain ⟨b,c,h1,h2⟩:=hop
   obtain ⟨b',c',us,h3,h4,h5,h6⟩:=S.heap.ok k _ hk
   rw [h1] at h3
   injection h3 with h3;injection h3 with e1 e2
   subst e1 e2
   have hb:b<w.heap.size:=(Array.getElem?_eq_some_iff.1 h4).1
   have hcell:∀w':World,w'.heap[b]? =w.heap[b]?→∀(j:Nat) u,((us.drop off).take i.size)[j]? =some u→w'.cell? ⟨b,off+j,none⟩=some u:=fun w' hw j u hu=>by
     rw [List.getElem?_take] at hu
     split at hu
     ·rw [List.getElem?_drop] at hu
      exact AL (Dq (junk:=[]) (by simpa using h4) hu) hw
     ·cases hu
   obtain ⟨u,g1,g2,g3⟩:=RT T (h5.part off i.size) (hcell w rfl) h
   exact ⟨u,g1,fun w' hw=>by simp [execOp,ho,h2,g3 w' (hcell w' (hw.2 b hb (.inr ⟨k,_,c,hk,trivial,h1⟩)))]⟩
  ·rename_i k j _ off
   split at hcs
   case h_2=>cases hcs
   rename_i t' τ xs hk
   injection hcs with hcs
   subst hcs
   obtain ⟨_,_,b,c,h1,h2,h3⟩:=hop
   obtain ⟨rfl,hj⟩:=h3 t' τ xs hk
   obtain ⟨b',c',h4,hc0,hcm,h5⟩:=S.heap.ok k _ hk
   rw [h1] at h4
   injection h4 with h4;injection h4 with e1 e2
   subst e1 e2
   have hc:0<c:=by
     rcases Nat.eq_zero_or_pos c with e|e
     ·rw [hc0 e] at hj;simp at hj
     ·exact e
   obtain ⟨us,junk,h6,h7,h8,h9⟩:=h5 hc
   have hb:b<w.heap.size:=(Array.getElem?_eq_some_iff.1 h6).1
   have hat:=SB τ xs j _ (Px τ xs j hj)
   have hF1:=h7.part (j*sz τ) (sz τ)
   rw [hat] at hF1
   have hF2:=(TT (h:=st.h) (β:=β) hF1).part off i.size
   have hcell:∀w':World,w'.heap[b]? =w.heap[b]?→∀(q:Nat) u,(((((us.drop (j*sz τ)).take (sz τ)).drop off).take i.size))[q]? =some u→w'.cell? ⟨b,j*sz τ+off+q,none⟩=some u:=fun w' hw q u hu=>by
     rw [List.getElem?_take] at hu
     split at hu
     ·rw [List.getElem?_drop,List.getElem?_take] at hu
      split at hu
      ·rw [List.getElem?_drop] at hu
       have:=AL (Dq h6 hu) hw
       rwa [←Nat.add_assoc] at this
      ·cases hu
     ·cases hu
   obtain ⟨u,g1,g2,g3⟩:=RT T hF2 (hcell w rfl) h
   exact ⟨u,g1,fun w' hw=>by simp [execOp,ho,h2,g3 w' (hcell w' (hw.2 b hb (.inr ⟨k,_,c,hk,hc,h1⟩)))]⟩
  ·rename_i cs' off
   injection hcs with hcs
   subst hcs
   obtain ⟨b,p,us,h1,hE,hb,h2,h3⟩:=hop
   have hcell:∀w':World,w'.heap[b]? =w.heap[b]?→∀(q:Nat) u,(((us.drop off).take i.size))[q]? =some u→w'.cell? ⟨b,p+off+q,none⟩=some u:=fun w' hw q u hu=>by
     rw [List.getElem?_take] at hu
     split at hu
     ·rw [List.getElem?_drop] at hu
      have:=AL (h2 _ _ hu) hw
      rwa [←Nat.add_assoc] at this
     ·cases hu
   obtain ⟨u,g1,g2,g3⟩:=RT T ((TT (h:=st.h) (β:=β) h3).part off i.size) (hcell w rfl) h
   exact ⟨u,g1,fun w' hw=>by simp [execOp,ho,h1,g3 w' (hcell w' (hw.2 b hb (.inl hE)))]⟩
  ·cases hcs
end
end Go.Proofs.YtjffopopheiinaaGreatDoor
namespace Go.Proofs.YtjffopopheiinaaGreatDoor
open Go.RowKit
section
variable {P:Program} {st:St} {o:Oper} {tab:TypeId→Option TI}
theorem Ak {t:TypeId} {i:TI} (T:Rb P t i) {e:TypeId} {τ:Ty} {bytes:Nat} (he:i.elem=some (e,τ,bytes)) (w:World):(sizeOf e).run P w=.ok (sz τ) w:=by
  obtain ⟨_,⟨inf,z,h1,h2,h3,h4,h5⟩,_⟩:=T.el e τ bytes he
  simp [sizeOf,typeInfo,h1,h3]
theorem Hj {t:TypeId} {i:TI} (T:Rb P t i) {e:TypeId} {τ:Ty} {bytes:Nat} (he:i.elem=some (e,τ,bytes)) (w:World):(underlying t).run P w=.ok (.slice e) w:=run_underlying (T.el e τ bytes he).1 w
def Ca (z:Int) (n:Nat):Bool:=decide (0≤z)&&decide (z<(n:Int))
theorem VT {z:Int} {n:Nat} (h:Ca z n=true):0≤z∧z<n:=by simpa [Ca] using h
def WT (h:List Fa) (i:TI) (z:Int):PV→Option (Bool×PV)
  | .im (.sl _ τ xs)=>match i.elem with|some (_,σ,_)=>bif Nat.beq (sz τ) (sz σ) then some (Ca z xs.length,.at_ (cells τ (Ba τ xs z.toNat)) 0) else none|none=>none
  | .own k=>match h[k]?,i.elem with
    |some (.row _ τ xs),some (_,σ,_)=>bif Nat.beq (sz τ) (sz σ) then some (Ca z xs.length,.ept k z.toNat (sz τ) 0) else none
    |_,_=>none
  |_=>none
theorem J8 {t:TypeId} {i:TI} (T:Rb P t i) {e:TypeId} {σ:Ty} {bytes:Nat} (he:i.elem=some (e,σ,bytes)) (b p n c:Nat) (k:IntKind) (z:Int) (h0:0≤z) (h1:z<n) (w:World) :
    (Instr.indexAt t (.slice (some ⟨b,p,none⟩) n c) (.int k z)).run P w=.ok (.pointer (some ⟨b,p+z.toNat*sz σ,none⟩)) w:=by
  simp [Instr.indexAt,asIntOf,Hj T he,h0,h1,Ak T he,Cl]
theorem nD (H:Xb P tab) {t:TypeId} {x y:Operand} {i:TI} {k:IntKind} {z:Int} {v v':PV} {c:Bool} (ho:o.op=.indexAddr t x y) (hx:Gb st.t x=some v) (hy:Gb st.t y=some (.im (.s (.int k z)))) (hi:tab t=some i) (h:WT st.h i z v=some (c,v')) (hc:c=true):Ue P st o v':=fun C E a w β S=>by
  have T:=H t i hi
  have ey:=S.ev hy
  have hop:=S.op hx
  unfold WT at h
  split at h
  ·rename_i g τ xs
   split at h
   case h_2=>cases h
   rename_i e σ bytes he
   cases hq:Nat.beq (sz τ) (sz σ) with
   |false=>rw [hq] at h;cases h
   |true =>
    rw [hq] at h
    simp only [cond_true,Option.some.injEq,Prod.mk.injEq] at h
    obtain ⟨h1,rfl⟩:=h
    subst h1
    have hsz:=Nat.eq_of_beq_eq_true hq
    obtain ⟨z0,z1⟩:=VT hc
    generalize ex:a.eval x=ux at *
    cases hop with
    |sl _ _ _ A cap b p us hA hcap hl hcc hr =>
     have hz:z.toNat<xs.length:=by omega
     obtain ⟨rfl,hb,hE,_⟩:=hA (by omega)
     have hF:F2 (Ri w E C.X) (Nb τ xs) us:=⟨hl,hr⟩
     have hF1:=hF.part (z.toNat*sz τ) (sz τ)
     rw [SB τ xs _ _ (Px τ xs _ hz)] at hF1
     refine ⟨_,⟨b,p+z.toNat*sz τ,_,rfl,hE,hb,fun j u hu=>?_,hF1⟩,fun w' _=>by simp [execOp,ho,ex,ey,J8 T he,z0,z1,hsz]⟩
     rw [List.getElem?_take] at hu
     split at hu
     ·rw [List.getElem?_drop] at hu
      have:=hcc _ _ hu
      rwa [←Nat.add_assoc] at this
     ·cases hu
  ·rename_i q
   split at h
   case h_2=>cases h
   rename_i t' τ xs e σ bytes hk he
   cases hq:Nat.beq (sz τ) (sz σ) with
   |false=>rw [hq] at h;cases h
   |true =>
    rw [hq] at h
    simp only [cond_true,Option.some.injEq,Prod.mk.injEq] at h
    obtain ⟨h1,rfl⟩:=h
    subst h1
    have hsz:=Nat.eq_of_beq_eq_true hq
    obtain ⟨z0,z1⟩:=VT hc
    obtain ⟨hkl,hkv,_,h2⟩:=hop
    obtain ⟨b,c',A,h3,h4,h5,_⟩:=h2 t' τ xs hk
    obtain ⟨b',c'',h6,hc0,_⟩:=S.heap.ok q _ hk
    rw [h3] at h6
    injection h6 with h6;injection h6 with e1 e2
    subst e1 e2
    have hcp:0<c':=by
      rcases Nat.eq_zero_or_pos c' with e|e
      ·rw [hc0 e] at z1;simp at z1;omega
      ·exact e
    have hA:=h5 hcp
    subst hA
    refine ⟨_,⟨hkl,hkv,b,c',h3,rfl,fun t2 τ2 xs2 h=>?_⟩,fun w' _=>by simp [execOp,ho,h4,ey,J8 T he,z0,z1,hsz]⟩
    rw [hk] at h
    injection h with h
    cases h
    exact ⟨rfl,by omega⟩
  ·cases h
theorem nE (H:Xb P tab) {t:TypeId} {x y:Operand} {i:TI} {k:IntKind} {z:Int} {b:ByteArray} (ho:o.op=.index t x y) (hx:Gb st.t x=some (.im (.s (.string b)))) (hy:Gb st.t y=some (.im (.s (.int k z)))) (hi:tab t=some i) (hp:i.prim=2) (hc:Ca z b.size=true):Ue P st o (.im (.s (.int .u8 (b.get! z.toNat).toNat))):=fun C E a w β S=>by
  obtain ⟨z0,z1⟩:=VT hc
  have hu:=run_underlying ((H t i hi).str hp)
  refine ⟨_,Ri.s _,fun w' _=>?_⟩
  have hz:z.toNat<b.size:=by omega
  have hg:b[z.toNat]? =some (b.get! z.toNat):=by
    rw [getElem?_pos b z.toNat hz]
    congr 1
    simp only [ByteArray.get!]
    cases b
    rename_i d
    have hz':z.toNat<d.size:=hz
    show d[z.toNat]=d[z.toNat]!
    simp [getElem!_pos,hz']
  simp [execOp,ho,S.ev hx,S.ev hy,Instr.index,asIntOf,hu,z0,hg]
def Bf (lo hi:Int) (n:Nat):Bool:=decide (0≤lo)&&decide (lo≤hi)&&decide (hi≤(n:Int))
theorem K8 {lo hi:Int} {n:Nat} (h:Bf lo hi n=true):0≤lo∧lo≤hi∧hi≤n:=by simp [Bf] at h;omega
def Bk (t:List (Nat×PV)):Option Operand→Int→Option Int
  |none,d=>some d
  |some x,_=>match Gb t x with|some (.im (.s (.int .i64 z)))=>some z|_=>none
def XT (i:TI) (lo hi:Int):PV→Option (Bool×PV)
  | .im (.sl g τ xs)=>match i.elem with|some (_,σ,_)=>bif Nat.beq (sz τ) (sz σ) then some (Bf lo hi xs.length,.im (.sl g τ ((xs.drop lo.toNat).take (hi.toNat-lo.toNat)))) else none|none=>none
  | .im (.s (.string b))=>bif Nat.beq i.prim 2 then some (Bf lo hi b.size,.im (.s (.string (b.extract lo.toNat hi.toNat)))) else none
  | .own _=>match i.elem with|some (_,σ,_)=>bif decide (lo=0)&&decide (hi=0) then some (true,.im (.sl true σ [])) else none|none=>none
  |_=>none
def Dl (h:List Fa):PV→Option Nat
  | .im (.sl _ _ xs)=>some xs.length
  | .im .nil=>some 0
  | .im (.s (.string b))=>some b.size
  | .own k=>match h[k]? with|some (.row _ _ xs)=>some xs.length|_=>none
  |_=>none
theorem BL {C:Nc} {E:Nat→Prop} {a:Act} {w:World} {β:List (Nat×Nat)} (S:Tb C E st a w β) {x:Option Operand} {d z:Int} (h:Bk st.t x d=some z):(x=none∧z=d)∨∃y,x=some y∧a.eval y=.int .i64 z:=by
  cases x with
  |none=>simp only [Bk,Option.some.injEq] at h;exact .inl ⟨rfl,h.symm⟩
  |some y =>
   simp only [Bk] at h
   split at h
   ·rename_i z' hz
    injection h with h;subst h
    exact .inr ⟨y,rfl,S.ev hz⟩
   ·cases h
theorem WB (τ:Ty) (xs:List (El τ)) (lo n:Nat) (h:lo+n≤xs.length):((Nb τ xs).drop (lo*sz τ)).take (n*sz τ)=Nb τ ((xs.drop lo).take n):=by
  have e:xs=xs.take lo++((xs.drop lo).take n++(xs.drop lo).drop n):=by rw [List.take_append_drop,List.take_append_drop]
  have h1:(Nb τ (xs.take lo)).length=lo*sz τ:=by rw [Md,List.length_take,Nat.min_eq_left (by omega)]
  have h2:(Nb τ ((xs.drop lo).take n)).length=n*sz τ:=by rw [Md,List.length_take,List.length_drop,Nat.min_eq_left (by omega)]
  conv=>lhs;rw [e]
  rw [Zp,Zp,List.drop_append_of_le_length (by omega),←h1,List.drop_length,List.nil_append,List.take_append_of_le_length (by omega),←h2,List.take_length]
theorem nF (H:Xb P tab) {t:TypeId} {x:Operand} {l m:Option Operand} {i:TI} {n:Nat} {lo hi:Int} {v v':PV} {c:Bool} (ho:o.op=.slice t x l m none) (hx:Gb st.t x=some v) (hn:Dl st.h v=some n) (hlo:Bk st.t l 0=some lo) (hhi:Bk st.t m n=some hi) (hi':tab t=some i) (h:XT i lo hi v=some (c,v')) (hc:c=true):Ue P st o v':=fun C E a w β S=>by
  have T:=H t i hi'
  have hop:=S.op hx
  have hl:=BL S hlo
  have hm:=BL S hhi
  unfold XT at h
  split at h
  ·rename_i g τ xs
   split at h
   case h_2=>cases h
   rename_i e σ bytes he
   cases hq:Nat.beq (sz τ) (sz σ) with
   |false=>rw [hq] at h;cases h
   |true =>
    rw [hq] at h
    simp only [cond_true,Option.some.injEq,Prod.mk.injEq] at h
    obtain ⟨h1,rfl⟩:=h
    subst h1
    have hsz:=Nat.eq_of_beq_eq_true hq
    obtain ⟨z0,z1,z2⟩:=K8 hc
    simp only [Dl,Option.some.injEq] at hn
    subst hn
    generalize ex:a.eval x=ux at *
    cases hop with
    |sl _ _ _ A cap b p us hA hcap hul hcc hr =>
     have hlen:((xs.drop lo.toNat).take (hi.toNat-lo.toNat)).length=hi.toNat-lo.toNat:=by rw [List.length_take,List.length_drop];omega
     have hF:F2 (Ri w E C.X) (Nb τ xs) us:=⟨hul,hr⟩
     have hF1:=hF.part (lo.toNat*sz τ) ((hi.toNat-lo.toNat)*sz τ)
     rw [WB τ xs _ _ (by omega)] at hF1
     have hA':∀(hpos:0<hi.toNat-lo.toNat),(if cap=lo.toNat then A else A.map (·.add (lo.toNat*sz σ)))=some ⟨b,p+lo.toNat*sz τ,none⟩:=fun hpos=>by
       obtain ⟨rfl,_⟩:=hA (by omega)
       rw [if_neg (by omega)]
       simp [Cl,hsz]
     have hrun:∀w':World,(execOp a.eval o).run P w'=.ok (.value (.slice (if cap=lo.toNat then A else A.map (·.add (lo.toNat*sz σ))) (hi.toNat-lo.toNat) (cap-lo.toNat))) w':=fun w'=>by
       have b1:lo≤(hi.toNat:Int):=by omega
       have b2:hi≤(cap:Int):=by omega
       have b3:lo≤(xs.length:Int):=by omega
       have h0:(0:Int)≤hi:=by omega
       rcases hl with ⟨rfl,rfl⟩|⟨y1,rfl,e1⟩<;>rcases hm with ⟨rfl,rfl⟩|⟨y2,rfl,e2⟩<;>simp [execOp,Instr.sliceAt,Instr.slice,Hj T he,Instr.sliceBounds,Instr.sliceBound,asIntOf,Ak T he, *]<;>(intro hh;exfalso;omega)
     have key:=Ri.sl g τ ((xs.drop lo.toNat).take (hi.toNat-lo.toNat)) (if cap=lo.toNat then A else A.map (·.add (lo.toNat*sz σ))) (cap-lo.toNat) b (p+lo.toNat*sz τ) _ (w:=w) (E:=E) (X:=C.X) (fun h=>by
         rw [hlen] at h
         have:=hA (by omega)
         exact ⟨hA' h,this.2⟩) (by rw [hlen];omega) hF1.1 (fun j u hu=>by
           rw [List.getElem?_take] at hu
           split at hu
           ·rw [List.getElem?_drop] at hu
            have:=hcc _ _ hu
            rwa [←Nat.add_assoc] at this
           ·cases hu) hF1.2
     rw [hlen] at key
     exact ⟨_,key,fun w' _=>hrun w'⟩
  ·rename_i s
   cases hq:Nat.beq i.prim 2 with
   |false=>rw [hq] at h;cases h
   |true =>
    rw [hq] at h
    simp only [cond_true,Option.some.injEq,Prod.mk.injEq] at h
    obtain ⟨h1,rfl⟩:=h
    subst h1
    obtain ⟨z0,z1,z2⟩:=K8 hc
    simp only [Dl,Option.some.injEq] at hn
    subst hn
    have ex:=Pf hop
    have hu:=run_underlying (T.str (Nat.eq_of_beq_eq_true hq))
    refine ⟨_,Ri.s _,fun w' _=>?_⟩
    have b1:lo≤(hi.toNat:Int):=by omega
    have b3:lo≤(s.size:Int):=by omega
    have h0:(0:Int)≤hi:=by omega
    rcases hl with ⟨rfl,rfl⟩|⟨y1,rfl,e1⟩<;>rcases hm with ⟨rfl,rfl⟩|⟨y2,rfl,e2⟩<;>simp [execOp,Instr.sliceAt,Instr.slice,Instr.sliceBounds,Instr.sliceBound,asIntOf, *]<;>(intro hh;exfalso;omega)
  ·rename_i k
   split at h
   case h_2=>cases h
   rename_i e σ bytes he
   cases hq:(decide (lo=0)&&decide (hi=0)) with
   |false=>rw [hq] at h;cases h
   |true =>
    rw [hq] at h
    simp only [cond_true,Option.some.injEq,Prod.mk.injEq] at h
    obtain ⟨h1,rfl⟩:=h
    simp only [Bool.and_eq_true,decide_eq_true_eq] at hq
    obtain ⟨rfl,rfl⟩:=hq
    simp only [Dl] at hn
    split at hn
    case h_2=>cases hn
    rename_i t' τ xs hk
    injection hn with hn;subst hn
    obtain ⟨_,_,_,h4⟩:=hop
    obtain ⟨b,cap,A,hβ,hu,_,_⟩:=h4 t' τ xs hk
    obtain ⟨b',c',hβ',_,hcap,_⟩:=S.heap.ok k _ hk
    rw [hβ] at hβ'
    injection hβ' with hβ'
    injection hβ' with _ hβ'
    subst hβ'
    have hrun:∀w':World,(execOp a.eval o).run P w'=.ok (.value (.slice (if cap=0 then A else A.map (·.add (0*sz σ))) 0 cap)) w':=fun w'=>by
      have hun:=Hj T he w'
      have hsz:=Ak T he w'
      rcases hl with ⟨rfl,_⟩|⟨y1,rfl,e1⟩<;>rcases hm with ⟨rfl,e0⟩|⟨y2,rfl,e2⟩
      ·have e0':xs.length=0:=by omega
       simp [execOp,ho,hu,Instr.sliceAt,Instr.slice,hun,Instr.sliceBounds,hsz,e0']
      ·simp [execOp,ho,hu,Instr.sliceAt,Instr.slice,hun,Instr.sliceBounds,Instr.sliceBound,asIntOf,hsz,e2]
      ·have e0':xs.length=0:=by omega
       simp [execOp,ho,hu,Instr.sliceAt,Instr.slice,hun,Instr.sliceBounds,Instr.sliceBound,asIntOf,hsz,e0',e1]
      ·simp [execOp,ho,hu,Instr.sliceAt,Instr.slice,hun,Instr.sliceBounds,Instr.sliceBound,asIntOf,hsz,e1,e2]
    exact ⟨_,.sl true σ [] _ cap 0 0 [] (fun h=>by simp at h) ⟨Nat.zero_le _,hcap⟩ rfl (fun j u hu=>by simp at hu) (fun j x u hx=>by simp [Nb] at hx),fun w' _=>hrun w'⟩
  ·cases h
end
end Go.Proofs.YtjffopopheiinaaGreatDoor
namespace Go.Proofs.YtjffopopheiinaaGreatDoor
open Go.RowKit
def Sb:PV→List PV
  | .agg cs=>cs
  |v=>[v]
section
variable {P:Program} {st:St} {o:Oper} {tab:TypeId→Option TI} {w:World} {E X:Nat→Prop} {h:List Fa} {β:List (Nat×Nat)}
theorem XB {v:PV} {u:Value} (hc:Cv w E X h β v u) (hv:(Sb v).all Te=true):∃us:List Value,u.cells=us.toArray∧F2 (C1 w E X h β) (Sb v) us∧∀x∈us,x.oneCell'=true:=by
  have one:C1 w E X h β v u→Sb v=[v]→∃us:List Value,u.cells=us.toArray∧F2 (C1 w E X h β) (Sb v) us∧∀x∈us,x.oneCell'=true:=fun h e=>by
    rw [e] at hv ⊢
    have h1:=h.one (by simpa using hv)
    refine ⟨[u],?_,F2.nil.cons h,by simpa using h1⟩
    cases u<;>first|rfl|cases h1
  cases v with
  |agg cs =>
   obtain ⟨us,rfl,h2⟩:=hc
   refine ⟨us,rfl,h2,fun x hx=>?_⟩
   obtain ⟨i,hi⟩:=List.getElem?_of_mem hx
   have hl:i<cs.length:=by rw [←h2.1];exact (List.getElem?_eq_some_iff.1 hi).1
   have hc:=List.getElem?_eq_getElem hl
   exact (h2.2 i _ x hc hi).one (by
     have:=List.all_eq_true.1 hv cs[i] (List.mem_iff_getElem.2 ⟨i,hl,rfl⟩)
     exact this)
  |im x=>exact one hc rfl
  |own k=>exact one hc rfl
  |ptr k o=>exact one hc rfl
  |ept k i z o=>exact one hc rfl
  |at_ xs o=>exact one hc rfl
  |fn f caps=>simp [Sb,Te] at hv
  |tup cs=>simp [Sb,Te] at hv
theorem L8 (off:Nat):∀(us:List Value) (k:Nat) (cs:Array Value),off+k+us.length≤cs.size→(us.zipIdx k).foldl (fun (cs:Array Value) (p:Value×Nat)=>cs.setIfInBounds (off+p.2) p.1) cs=(cs.toList.take (off+k)++us++cs.toList.drop (off+k+us.length)).toArray
  |[],k,cs,h=>by simp
  |u::r,k,cs,h=>by
   rw [List.zipIdx_cons,List.foldl_cons,L8 off r (k+1) _ (by simp at h ⊢;omega)]
   simp only [List.length_cons] at h
   congr 1
   rw [Array.toList_setIfInBounds,show off+(k+1)=off+k+1 by omega,List.take_succ_eq_append_getElem (by simp;omega)]
   rw [List.take_set_of_le (by omega),List.getElem_set_self,List.drop_set_of_lt (by omega)]
   simp only [List.append_assoc,List.nil_append,List.cons_append,List.length_cons]
   rw [show off+k+1+r.length=off+k+(r.length+1) by omega]
theorem M8 {place:Nat→Option (Nat×Nat)} {cells:Array Value} {i off size:Nat} {v:Value} {us:List Value} {rest:List (Nat×Value)} (hp:place i=some (off,size)) (hv:v.cells=us.toArray) (hl:us.length=size) (hin:off+size≤cells.size):Instr.fill place cells ((i,v)::rest)=Instr.fill place (cells.toList.take off++us++cells.toList.drop (off+size)).toArray rest:=by
  have hsz:v.cells.size=size:=by rw [hv];simpa using hl
  have hfo:=L8 off us 0 cells (by omega)
  have hno:¬(v.cells.size≠size||decide (off+v.cells.size>cells.size))=true:=by simp [hsz];omega
  have he:Array.foldl (fun (cs:Array Value) (x:Value×Nat)=>cs.setIfInBounds (off+x.2) x.1) cells v.cells.zipIdx=List.foldl (fun (cs:Array Value) (p:Value×Nat)=>cs.setIfInBounds (off+p.2) p.1) cells (us.zipIdx 0):=by
    rw [hv,←Array.foldl_toList];simp
  rw [Instr.fill,hp]
  simp only [hno]
  rw [he,hfo,Nat.add_zero,hl]
  rfl
def YB (places:List (Nat×Nat)):List PV→List (Nat×PV)→Option (List PV)
  |cs,[]=>some cs
  |cs,(i,v)::r=>match places[i]? with
   |some (off,size)=>bif Nat.beq (Sb v).length size&&Nat.ble (off+size) cs.length&&(Sb v).all Te then YB places (wr cs off (Sb v)) r else none
   |none=>none
theorem N8 (places:List (Nat×Nat)):∀(parts:List (Nat×PV)) (vals:List (Nat×Value)) (cs cs':List PV) (us:List Value),
    F2 (fun p q=>p.1=q.1∧Cv w E X h β p.2 q.2) parts vals→F2 (C1 w E X h β) cs us→YB places cs parts=some cs'→∃us',Instr.fill (places.toArray[·]?) us.toArray vals=some us'.toArray∧F2 (C1 w E X h β) cs' us'
  |[],vals,cs,cs',us,hp,hF,hb=>by
   have:=hp.nil_inv
   subst this
   simp only [YB,Option.some.injEq] at hb
   subst hb
   exact ⟨us,rfl,hF⟩
  |(i,v)::r,vals,cs,cs',us,hp,hF,hb=>by
   obtain ⟨⟨i',u⟩,vr,rfl,⟨e,hv⟩,hr⟩:=hp.cons_inv
   have e:i=i':=e
   subst e
   have hv:Cv w E X h β v u:=hv
   unfold YB at hb
   split at hb
   ·rename_i off size hpl
    cases hq:(Nat.beq (Sb v).length size&&Nat.ble (off+size) cs.length&&(Sb v).all Te) with
    |false=>rw [hq] at hb;cases hb
    |true =>
     rw [hq] at hb
     simp only [Bool.and_eq_true] at hq
     obtain ⟨⟨h1,h2⟩,h3⟩:=hq
     have h1:=Nat.eq_of_beq_eq_true h1
     have h2:=Nat.le_of_ble_eq_true h2
     obtain ⟨ws,hc,hFw,_⟩:=XB hv h3
     have hwl:ws.length=size:=by rw [hFw.1,h1]
     have hul:=hF.1
     have:=M8 (place:=(places.toArray[·]?)) (cells:=us.toArray) (i:=i) (off:=off) (size:=size) (v:=u) (us:=ws) (rest:=vr) (by simpa using hpl) hc hwl (by simp;omega)
     obtain ⟨us',h4,h5⟩:=N8 places r vr _ cs' (us.take off++ws++us.drop (off+ws.length)) hr (hF.wr hFw off) hb
     refine ⟨us',?_,h5⟩
     rw [this,←h4,hwl]
   ·cases hb
def ZB (t:List (Nat×PV)):List (Nat×Operand)→Option (List (Nat×PV))
  |[]=>some []
  |(i,x)::r=>match Gb t x,ZB t r with
   |some v,some l=>some ((i,v)::l)
   |_,_=>none
theorem O8 {C:Nc} {a:Act} {β:List (Nat×Nat)} (S:Tb C E st a w β):∀{parts:List (Nat×Operand)} {vs:List (Nat×PV)},ZB st.t parts=some vs→F2 (fun p q=>p.1=q.1∧Cv w E C.X st.h β p.2 q.2) vs (parts.map fun q=>(q.1,a.eval q.2))
  |[],vs,hh=>by
   simp only [ZB,Option.some.injEq] at hh
   subst hh
   exact F2.nil
  |(i,x)::r,vs,hh=>by
   unfold ZB at hh
   split at hh
   ·rename_i v l hv hl
    injection hh with hh;subst hh
    exact F2.cons ⟨rfl,S.op hv⟩ (O8 S hl)
   ·cases hh
theorem P8 {zs:List Value}:F2 (C1 w E X h β) (zs.map Km) zs:=⟨by simp,fun i x u hx hu=>by
  rw [List.getElem?_map,hu] at hx
  simp only [Option.map_some,Option.some.injEq] at hx
  subst hx
  have:=C8 (w:=w) (E:=E) (X:=X) (h:=h) (β:=β) u
  unfold Km at *
  split at this<;>exact this⟩
def YT (t:List (Nat×PV)) (i:TI) (parts:List (Nat×Operand)):Option PV:=match i.zero,ZB t parts with
  |some zs,some vs=>bif i.agg then (match YB i.fields (zs.map Km) vs with|some cs=>some (.agg cs)|none=>none) else none
  |_,_=>none
theorem nG (H:Xb P tab) {t:TypeId} {i:TI} {parts:Array (Nat×Operand)} {v:PV} (ho:o.op=.build t parts) (hi:tab t=some i) (hb:YT st.t i parts.toList=some v):Ue P st o v:=fun C E a w β S=>by
  have T:=H t i hi
  unfold YT at hb
  split at hb
  case h_2=>cases hb
  rename_i zs vs hz hv
  cases hg:i.agg with
  |false=>rw [hg] at hb;cases hb
  |true =>
   rw [hg] at hb
   simp only [cond_true] at hb
   split at hb
   case h_2=>cases hb
   rename_i cs hcs
   injection hb with hb
   subst hb
   obtain ⟨fs,hu,hpl⟩:=T.places zs hz hg
   obtain ⟨z,hz1,hzs,_⟩:=T.zero zs hz
   obtain ⟨us',h1,h2⟩:=N8 i.fields vs _ _ cs zs (O8 S hv) P8 hcs
   refine ⟨.agg us'.toArray,⟨us',rfl,h2⟩,fun w' _=>?_⟩
   have e:(parts.map fun (i,x)=>(i,a.eval x)).toList=parts.toList.map fun q=>(q.1,a.eval q.2):=by simp
   have ez:z.cells=zs.toArray:=by rw [←hzs]
   simp only [execOp,ho,Instr.build,Sem.run_bind,hz1,Result.andThen_ok,Sem.run_pure,hu,hpl,e,ez,h1]
def Qx (t:List (Nat×PV)):List Operand→Option (List PV)
  |[]=>some []
  |x::r=>match Gb t x,Qx t r with
   |some v,some l=>bif Te v then some (v::l) else none
   |_,_=>none
theorem Q8 {C:Nc} {a:Act} {β:List (Nat×Nat)} (S:Tb C E st a w β):∀{xs:List Operand} {vs:List PV},Qx st.t xs=some vs→F2 (C1 w E C.X st.h β) vs (xs.map a.eval)
  |[],vs,hh=>by
   simp only [Qx,Option.some.injEq] at hh
   subst hh
   exact F2.nil
  |x::r,vs,hh=>by
   unfold Qx at hh
   split at hh
   ·rename_i v l hv hl
    cases hk:Te v with
    |false=>rw [hk] at hh;cases hh
    |true =>
     rw [hk] at hh
     injection hh with hh;subst hh
     exact F2.cons ((S.op hv).c1 hk) (Q8 S hl)
   ·cases hh
theorem nH {f:FuncId} {caps:Array Operand} {vs:List PV} (ho:o.op=.makeFunc (.func f) #[] caps) (hx:Qx st.t caps.toList=some vs):Ue P st o (.fn f vs):=fun C E a w β S=>by
  refine ⟨.func (.func f) #[] (caps.toList.map a.eval).toArray,⟨_,rfl,Q8 S hx⟩,fun w' _=>?_⟩
  have e:caps.map a.eval=(caps.toList.map a.eval).toArray:=by apply Array.ext';simp
  simp [execOp,ho,Instr.makeFunc,e]
theorem nJ {x:Operand} {i:Nat} {cs:List PV} {v:PV} (ho:o.op=.extract x i) (hx:Gb st.t x=some (.tup cs)) (hv:cs[i]? =some v):Ue P st o v:=fun C E a w β S=>by
  obtain ⟨us,ex,hr⟩:=S.op hx
  obtain ⟨u,hu,hR⟩:=hr.get hv
  refine ⟨u,?_,fun w' _=>by simp [execOp,ho,ex,Instr.extract,hu]⟩
  cases v<;>first|exact hR|exact hR.elim
def ZT (b:Bool) (fs:Nat) (cs:List PV):Option PV:=bif b then (bif Nat.ble fs cs.length then some (.agg (cs.take fs)) else none) else match cs with|v::_=>some v|[]=>none
theorem nK (H:Xb P tab) {t:TypeId} {x:Operand} {j off fs:Nat} {b:Bool} {i:TI} {cs:List PV} {v:PV} (ho:o.op=.field t x j) (hx:Gb st.t x=some (.agg cs)) (hi:tab t=some i) (hf:i.fields[j]? =some (off,fs)) (hb:i.fg[j]? =some b) (hv:ZT b fs (cs.drop off)=some v):Ue P st o v:=fun C E a w β S=>by
  obtain ⟨us,ex,hr⟩:=S.op hx
  obtain ⟨fl,f,h1,h2,h3,h4,h5⟩:=(H t i hi).fag j off fs b hf hb
  unfold ZT at hv
  cases b with
  |true =>
   simp only [cond_true] at hv
   cases hl:Nat.ble fs (cs.drop off).length with
   |false=>rw [hl] at hv;cases hv
   |true =>
    rw [hl] at hv
    injection hv with hv;subst hv
    refine ⟨.agg ((us.drop off).take fs).toArray,⟨_,rfl,hr.part off fs⟩,fun w' _=>?_⟩
    have e:us.toArray.extract off (off+fs)=((us.drop off).take fs).toArray:=by
      rw [List.extract_toArray,List.extract_eq_take_drop,Nat.add_sub_cancel_left]
    simp [execOp,ho,ex,Instr.field,h1,h2,part,h3,h4,h5,asAgg,e]
  |false =>
   simp only [cond_false] at hv
   have hg:cs[off]? =some v:=by
     split at hv
     ·rename_i v' r e
      injection hv with hv;subst hv
      have:=congrArg (·[0]?) e
      simpa using this
     ·cases hv
   obtain ⟨u,hu,hR⟩:=hr.get hg
   exact ⟨u,hR.cv,fun w' _=>by simp [execOp,ho,ex,Instr.field,h1,h2,part,h3,h4,asAgg,hu]⟩
theorem nL {t:TypeId} {u:TypeDesc} (h:∀w,(underlying t).run P w=.ok u w):P.underlying t=some u:=by
  have:=h default
  cases e:P.underlying t with
  |none=>simp [underlying,e,stuck,go_sem] at this
  |some d =>
   simp [underlying,e] at this
   rw [this]
def CL (h:List Fa):PV→Option (List Int)
  | .im (.sl _ .u8 xs)=>some xs
  | .im .nil=>some []
  | .own k=>match h[k]? with|some (.row _ .u8 xs)=>some xs|_=>none
  |_=>none
theorem AU:∀(xs:List Int) (us:List Value) {R:IV→Value→Prop},(∀v u,R (.s v) u→u=v)→F2 R (Nb .u8 xs) us→us=xs.map (Value.int .u8)
  |[],us,R,_,h=>h.nil_inv
  |x::r,us,R,hR,h=>by
   have h:F2 R (.s (.int .u8 x)::Nb .u8 r) us:=h
   obtain ⟨u,us',rfl,h1,h2⟩:=h.cons_inv
   rw [AU r us' hR h2,hR _ _ h1];rfl
theorem nM (H:Xb P tab) {s d:TypeId} {i j ie:TI} {e:TypeId} {bytes:Nat} {x:Operand} {v:PV} {xs:List Int} (ho:o.op=.convert s d x) (hx:Gb st.t x=some v) (hi:tab s=some i) (hj:tab d=some j) (hp:j.prim=2) (he:i.elem=some (e,.u8,bytes)) (hie:tab e=some ie) (hk:ie.ik=some .u8) (hb:CL st.h v=some xs):TB P st o (.im (.s (.string (No xs)))):=fun C E a w β S=>by
  have hs:=((H s i hi).el e .u8 bytes he).1
  have hu:=nL ((H e ie hie).int .u8 hk)
  have hd:=(H d j hj).str hp
  have hop:=S.op hx
  have rd:∀{w':World} {b p n c:Nat} {us:List Value},us=xs.map (Value.int .u8)→xs.length=n→(∀(j:Nat) u,us[j]? =some u→w'.cell? ⟨b,p+j,none⟩=some u)→(convert s d (.slice (some ⟨b,p,none⟩) n c)).run P w'=.ok (.string (No xs)) w':=fun {w' b p n c us} hus hn hc=>run_convert_bytes_arg w' s e hs hu b p n c xs hn (fun i hi=>hc i _ (by
      rw [hus,List.getElem?_map,List.getElem?_eq_getElem (by omega)]
      simp [List.getD,List.getElem?_eq_getElem (show i<xs.length by omega)])) d hd
  have nl:∀{w':World} {A:Option Addr} {c:Nat},xs=[]→(convert s d (.slice A 0 c)).run P w'=.ok (.string (No xs)) w':=fun {w' A c} hx=>by
    subst hx
    cases A with
    |none=>exact run_convert_bytes_nil w' s e hs hu 0 c d hd
    |some q =>
     rw [run_convert_bytes_string w' s d e _ 0 c hs hu hd,run_bytesToString w' q 0 c [] (by simp [loadCells,loadCellsFrom])]
     rfl
  refine ⟨_,Ri.s _,fun w' hw=>?_⟩
  generalize ex:a.eval x=ux at *
  unfold CL at hb
  split at hb
  ·rename_i g ys
   injection hb with hb;subst hb
   cases hop with
   |sl _ _ _ A cap b p us hA hcap hl hcc hr =>
    have hus:=AU ys us (R:=Ri w E C.X) (fun v u h=>by cases h;rfl) ⟨hl,hr⟩
    rcases Nat.eq_zero_or_pos ys.length with h0|h0
    ·have:=nl (w':=w') (A:=A) (c:=cap) (List.length_eq_zero_iff.1 h0)
     simp [execOp,ho,ex,h0,this]
    ·obtain ⟨rfl,hbl,hE,_⟩:=hA h0
     have:=rd (w':=w') (n:=ys.length) (c:=cap) hus rfl (fun j u hu=>(World.cell?_of_block (a:=⟨b,p+j,none⟩) (hw.2 b hbl (.inl hE))).trans (hcc j u hu))
     simp [execOp,ho,ex,this]
  ·injection hb with hb;subst hb
   cases hop with
   |nil A =>
    have:=nl (w':=w') (A:=A) (c:=0) rfl
    simp [execOp,ho,ex,this]
  ·rename_i k
   split at hb
   ·rename_i t' ys hk0
    injection hb with hb;subst hb
    obtain ⟨_,_,_,h2⟩:=hop
    obtain ⟨b,c,A,h3,rfl,h5,_⟩:=h2 t' .u8 ys hk0
    obtain ⟨b',c',h6,h7,h8,h9⟩:=S.heap.ok k _ hk0
    rw [h3] at h6
    injection h6 with h6;injection h6 with e1 e2
    subst e1 e2
    rcases Nat.eq_zero_or_pos c with h0|h0
    ·have hy:=h7 h0
     subst hy
     have:=nl (w':=w') (A:=A) (c:=c) rfl
     simp [execOp,ho,ex,this]
    ·obtain ⟨us,junk,q1,q2,q3,q4⟩:=h9 h0
     have hus:=AU ys us (R:=Ri w E C.X) (fun v u h=>by cases h;rfl) q2
     have hA:=h5 h0
     subst hA
     have hbl:b<w.heap.size:=(Array.getElem?_eq_some_iff.1 q1).1
     have:=rd (w':=w') (b:=b) (p:=0) (n:=ys.length) (c:=c) hus rfl (fun j u hu=>by
       rw [Nat.zero_add]
       exact AL (Dq q1 hu) (hw.2 b hbl (.inr ⟨k,_,c,hk0,h0,h3⟩)))
     simp [execOp,ho,ex,this]
   ·cases hb
  ·cases hb
theorem nN {x:Operand} {k p:Nat} (ho:o.op=.nilCheck x) (hx:Gb st.t x=some (.ptr k p)):Ue P st o (.ptr k p):=fun C E a w β S=>by
  obtain ⟨b,c,h1,ex⟩:=S.op hx
  exact ⟨_,⟨b,c,h1,rfl⟩,fun w' _=>by simp [execOp,ho,ex]⟩
theorem nO (H:Xb P tab) {s d:TypeId} {i j:TI} {k k' k0:IntKind} {n:Int} {x:Operand} (ho:o.op=.convert s d x) (hx:Gb st.t x=some (.im (.s (.int k n)))) (hi:tab s=some i) (hj:tab d=some j) (h1:i.ik=some k0) (h2:j.ik=some k'):Ue P st o (.im (.s (.int k' (Nd k' n)))):=fun C E a w β S =>
  ⟨_,Ri.s _,fun w' _=>by simp [execOp,ho,S.ev hx,convert,(H s i hi).int k0 h1,(H d j hj).int k' h2,Conv.intToInt,ZK]⟩
theorem nP (H:Xb P tab) {t:TypeId} {i:TI} (hi:tab t=some i) {e:TypeId} {τ:Ty} {bytes:Nat} (he:i.elem=some (e,τ,bytes)) (A:Option Addr) (n c:Nat) (ty:TypeId) (w:World):(Builtin.len_ #[t] ty #[.slice A n c]).run P w=.ok (.int .i64 n) w:=by
  simp [Builtin.len_,Hj (H t i hi) he,goInt]
def nI:Nat→Int
  |0=>0
  |n+1=>nI n+1
theorem Ta:∀n:Nat,nI n=(n:Int)
  |0=>rfl
  |n+1=>by rw [nI,Ta n];rfl
theorem nQ (H:Xb P tab) {x:Operand} {t:TypeId} {i:TI} {v:PV} {n:Nat} (ho:o.op=.call { callee:=.builtin .len,args:= #[x],argTypes:= #[t] }) (hx:Gb st.t x=some v) (hi:tab t=some i) (hk:i.elem.isSome=true∧(∀b,v≠.im (.s (.string b)))∨i.prim=2∧∃b,v=.im (.s (.string b))) (hn:Dl st.h v=some n):Ue P st o (.im (.s (.int .i64 n))):=fun C E a w β S=>by
  have T:=H t i hi
  have hop:=S.op hx
  rcases hk with ⟨he,hns⟩|⟨hp,b,rfl⟩
  ·obtain ⟨⟨e,τ,bytes⟩,he⟩:=Option.isSome_iff_exists.1 he
   have key:∃A c,a.eval x=.slice A n c:=by
     unfold Dl at hn
     split at hn
     ·injection hn with hn;subst hn
      generalize a.eval x=ux at *
      cases hop;exact ⟨_,_,rfl⟩
     ·injection hn with hn;subst hn
      generalize a.eval x=ux at *
      cases hop;exact ⟨_,_,rfl⟩
     ·exact absurd rfl (hns _)
     ·split at hn
      ·rename_i t' τ' xs hk
       injection hn with hn;subst hn
       obtain ⟨_,_,_,h2⟩:=hop
       obtain ⟨b,c,A,h3,h4,_⟩:=h2 _ _ _ hk
       exact ⟨A,c,h4⟩
      ·cases hn
     ·cases hn
   obtain ⟨A,c,ex⟩:=key
   exact ⟨_,Ri.s _,fun w' _=>by simp only [execOp,ho,resolve,invoke,builtin,Sem.run_bind,Sem.run_pure,Result.andThen_ok,List.map_toArray,List.map_cons,List.map_nil,ex,nP H hi he]⟩
  ·simp only [Dl,Option.some.injEq] at hn
   subst hn
   exact ⟨_,Ri.s _,fun w' _=>by simp [execOp,ho,resolve,invoke,builtin,Pf hop,Builtin.len_,run_underlying (T.str hp),goInt]⟩
theorem nR {x y:Operand} {t t':TypeId} {a b:Int} (ho:o.op=.call { callee:=.builtin .min,args:= #[x,y],argTypes:= #[t,t'] }) (hx:Gb st.t x=some (.im (.s (.int .i64 a)))) (hy:Gb st.t y=some (.im (.s (.int .i64 b)))):Ue P st o (.im (.s (.int .i64 (min a b)))):=fun C E a' w β S =>
  ⟨_,Ri.s _,fun w' _=>by
    have:(if b<a then b else a)=min a b:=by omega
    simp [execOp,ho,resolve,invoke,builtin,S.ev hx,S.ev hy,Builtin.min_,Builtin.min2,this]⟩
theorem nS {x y:Operand} {t t':TypeId} {a b:Int} (ho:o.op=.call { callee:=.builtin .max,args:= #[x,y],argTypes:= #[t,t'] }) (hx:Gb st.t x=some (.im (.s (.int .i64 a)))) (hy:Gb st.t y=some (.im (.s (.int .i64 b)))):Ue P st o (.im (.s (.int .i64 (max a b)))):=fun C E a' w β S =>
  ⟨_,Ri.s _,fun w' _=>by
    have:(if a<b then b else a)=max a b:=by omega
    simp [execOp,ho,resolve,invoke,builtin,S.ev hx,S.ev hy,Builtin.max_,Builtin.max2,this]⟩
theorem R8 (H:Xb P tab) {x:Operand} {t:TypeId} {i:TI} {v:PV} {n:Nat} (ho:o.op=.call { callee:=.builtin .len,args:= #[x],argTypes:= #[t] }) (hx:Gb st.t x=some v) (hi:tab t=some i) (hk:i.elem.isSome=true∧(∀b,v≠.im (.s (.string b)))∨i.prim=2∧∃b,v=.im (.s (.string b))) (hn:Dl st.h v=some n):Ue P st o (.im (.s (.int .i64 (nI n)))):=by
  rw [Ta];exact nQ H ho hx hi hk hn
def S8 (st:St) (i:TI) (v:PV):Option (Bool×PV):=match v with
  | .im (.s (.string b))=>bif Nat.beq i.prim 2 then some (true,.im (.s (.int .i64 (nI b.size)))) else none
  |v=>bif i.elem.isSome then (match Dl st.h v with|some n=>some (true,.im (.s (.int .i64 (nI n))))|none=>none) else none
def T8 (tab:TypeId→Option TI) (st:St) (b:Builtin) (xs:List Operand) (ts:List TypeId):Option (Bool×PV):=match b,xs,ts with
  | .len,[x],[t]=>match Gb st.t x,tab t with|some v,some i=>S8 st i v|_,_=>none
  | .min,[x,y],[_,_]=>match Gb st.t x,Gb st.t y with|some (.im (.s (.int .i64 a))),some (.im (.s (.int .i64 b)))=>some (true,.im (.s (.int .i64 (min a b))))|_,_=>none
  | .max,[x,y],[_,_]=>match Gb st.t x,Gb st.t y with|some (.im (.s (.int .i64 a))),some (.im (.s (.int .i64 b)))=>some (true,.im (.s (.int .i64 (max a b))))|_,_=>none
  |_,_,_=>none
def U8:PV→Option Operand→Bool
  | .own _,some (.const (.int _ (.ofNat 0)))=>false
  | .own _,_=>true
  |_,_=>false
def BU (tab:TypeId→Option TI) (st:St) (i j:TI) (v:PV):Option (Bool×PV):=bif Nat.beq j.prim 2 then (match i.elem,CL st.h v with
  |some (e,.u8,_),some xs=>(match tab e with|some ie=>(match ie.ik with|some .u8=>some (true,.im (.s (.string (No xs))))|_=>none)|none=>none)
  |_,_=>none) else none
def Oo (st:St):Op→Bool
  | .convert _ _ x=>match Gb st.t x with|some (.im (.s _))=>false|_=>true
  |_=>false
def Ck (tab:TypeId→Option TI) (st:St) (op:Op):Option (Bool×PV):=match op with
  | .move x=>match Gb st.t x with|some v=>some (true,v)|none=>none
  | .assign x=>match Gb st.t x with|some v=>some (true,v)|none=>none
  | .pick c x y=>match Gb st.t c,Gb st.t x,Gb st.t y with|some (.im (.s (.bool b))),some v1,some v2=>some (true,bif b then v1 else v2)|_,_,_=>none
  | .binOp op t x y _=>match Gb st.t x,Gb st.t y with|some vx,some vy=>(match LT tab t op vx vy with|some (c,r)=>some (c,.im (.s r))|none=>(match MT tab t op vx y with|some c=>some (c,.im (.s (.bool false)))|none=>none))|_,_=>none
  | .unOp op _ x=>match Gb st.t x with|some (.im (.s vx))=>(match NT op vx with|some r=>some (true,.im (.s r))|none=>none)|_=>none
  | .load t x=>match Gb st.t x,tab t with|some v,some i=>(match VB st i v with|some r=>some (true,r)|none=>none)|_,_=>none
  | .fieldAddr t x j=>match Gb st.t x,tab t with|some v,some i=>(match i.fields[j]? with|some (off,_)=>(match PT off v with|some r=>some (true,r)|none=>none)|none=>none)|_,_=>none
  | .indexAddr t x y=>match Gb st.t x,Gb st.t y,tab t with|some v,some (.im (.s (.int _ z))),some i=>WT st.h i z v|_,_,_=>none
  | .index t x y=>match Gb st.t x,Gb st.t y,tab t with|some (.im (.s (.string b))),some (.im (.s (.int _ z))),some i=>bif Nat.beq i.prim 2 then some (Ca z b.size,.im (.s (.int .u8 (b.get! z.toNat).toNat))) else none|_,_,_=>none
  | .slice t x l m none=>match Gb st.t x,tab t with|some v,some i=>(bif U8 v m then none else (match Dl st.h v with|some n=>(match Bk st.t l 0,Bk st.t m n with|some lo,some hi=>XT i lo hi v|_,_=>none)|none=>none))|_,_=>none
  | .build t parts=>match tab t with|some i=>(match YT st.t i parts.toList with|some v=>some (true,v)|none=>none)|none=>none
  | .makeFunc (.func f) first caps=>match first.toList,Qx st.t caps.toList with|[],some vs=>some (true,.fn f vs)|_,_=>none
  | .extract x i=>match Gb st.t x with|some (.tup cs)=>(match cs[i]? with|some v=>some (true,v)|none=>none)|_=>none
  | .nilCheck x=>match Gb st.t x with|some (.ptr k p)=>some (true,.ptr k p)|_=>none
  | .convert s d x=>match Gb st.t x,tab s,tab d with
    |some (.im (.s (.int _ n))),some i,some j=>(match i.ik,j.ik with|some _,some k'=>some (true,.im (.s (.int k' (Nd k' n))))|_,_=>none)
    |some v,some i,some j=>BU tab st i j v
    |_,_,_=>none
  | .field t x j=>match Gb st.t x,tab t with
    |some (.agg cs),some i=>(match i.fields[j]?,i.fg[j]? with|some (off,fs),some b=>(match ZT b fs (cs.drop off) with|some v=>some (true,v)|none=>none)|_,_=>none)
    |_,_=>none
  | .call c=>match c.callee with| .builtin b=>T8 tab st b c.args.toList c.argTypes.toList|_=>none
  |_=>none
theorem Fl {α:Type} {a:Array α} {l:List α} (h:a.toList=l):a=l.toArray:=by subst h;simp
theorem CU (H:Xb P tab) {c:Bool} {v:PV} (h:Ck tab st o.op=some (c,v)) (hc:c=true) (hl:∀t x,o.op≠.load t x) (hcv:Oo st o.op=false):Ue P st o v:=by
  unfold Ck at h
  split at h
  ·rename_i x ho
   split at h
   ·rename_i v' hv;injection h with h;injection h with _ h;subst h;exact mY ho hv
   ·cases h
  ·rename_i x ho
   split at h
   ·rename_i v' hv;injection h with h;injection h with _ h;subst h;exact mZ ho hv
   ·cases h
  ·rename_i c' x y ho
   split at h
   ·rename_i b v1 v2 h1 h2 h3;injection h with h;injection h with _ h;subst h;exact nA ho h1 h2 h3
   ·cases h
  ·rename_i op t x y t' ho
   split at h
   ·rename_i vx vy h1 h2
    split at h
    ·rename_i c' r hr;injection h with h;injection h with h0 h;subst h h0;exact mW H ho h1 h2 hr hc
    ·split at h
     ·rename_i c' hr;injection h with h;injection h with h0 h;subst h h0;exact mX H ho h1 hr hc
     ·cases h
   ·cases h
  ·rename_i op t x ho
   split at h
   ·rename_i vx h1
    split at h
    ·rename_i r hr;injection h with h;injection h with h0 h;subst h;exact nB ho h1 hr
    ·cases h
   ·cases h
  ·rename_i t x ho
   exact absurd ho (hl t x)
  ·rename_i t x j ho
   split at h
   ·rename_i v' i h1 h2
    split at h
    ·rename_i off fs hf
     split at h
     ·rename_i r hr;injection h with h;injection h with h0 h;subst h;exact nC H ho h1 h2 hf hr
     ·cases h
    ·cases h
   ·cases h
  ·rename_i t x y ho
   split at h
   ·rename_i v' k z i h1 h2 h3;exact nD H ho h1 h2 h3 h hc
   ·cases h
  ·rename_i t x y ho
   split at h
   ·rename_i b k z i h1 h2 h3
    cases hp:Nat.beq i.prim 2 with
    |false=>rw [hp] at h;cases h
    |true =>
     rw [hp] at h
     injection h with h;injection h with h0 h;subst h h0
     exact nE H ho h1 h2 h3 (Nat.eq_of_beq_eq_true hp) hc
   ·cases h
  ·rename_i t x l m ho
   split at h
   ·rename_i v' i h1 h2
    cases hop:U8 v' m with
    |true=>rw [hop] at h;cases h
    |false =>
    rw [hop] at h
    simp only [cond_false] at h
    split at h
    ·rename_i n hn
     split at h
     ·rename_i lo hi h3 h4;exact nF H ho h1 hn h3 h4 h2 h hc
     ·cases h
    ·cases h
   ·cases h
  ·rename_i t parts ho
   split at h
   ·rename_i i hi
    split at h
    ·rename_i r hr;injection h with h;injection h with h0 h;subst h;exact nG H ho hi hr
    ·cases h
   ·cases h
  ·rename_i f first caps ho
   split at h
   ·rename_i vs h1 h2
    injection h with h;injection h with h0 h;subst h
    have:=Fl h1
    subst this
    exact nH ho h2
   ·cases h
  ·rename_i x i ho
   split at h
   ·rename_i cs h1
    split at h
    ·rename_i r hr;injection h with h;injection h with h0 h;subst h;exact nJ ho h1 hr
    ·cases h
   ·cases h
  ·rename_i x ho
   split at h
   ·rename_i k p h1;injection h with h;injection h with h0 h;subst h;exact nN ho h1
   ·cases h
  ·rename_i s d x ho
   split at h
   ·rename_i k n i j h1 h2 h3
    split at h
    ·rename_i k0 k' h4 h5;injection h with h;injection h with h0 h;subst h;exact nO H ho h1 h2 h3 h4 h5
    ·cases h
   ·rename_i v' i j hne h1 h2 h3
    exfalso
    rw [ho] at hcv
    unfold BU at h
    cases hq:Nat.beq j.prim 2 with
    |false=>rw [hq] at h;cases h
    |true =>
     rw [hq] at h
     simp only [cond_true] at h
     simp only [Oo,h1] at hcv
     split at hcv
     ·rename_i z hz
      injection hz with hz
      subst hz
      simp [CL] at h
     ·cases hcv
   ·cases h
  ·rename_i t x j ho
   split at h
   ·rename_i cs i h1 h2
    split at h
    ·rename_i off fs b h3 h4
     split at h
     ·rename_i r hr;injection h with h;injection h with h0 h;subst h;exact nK H ho h1 h2 h3 h4 hr
     ·cases h
    ·cases h
   ·cases h
  ·rename_i cl ho
   split at h
   ·rename_i b hb
    obtain ⟨callee,args,argTypes⟩:=cl
    simp only at hb h
    subst hb
    unfold T8 at h
    split at h
    ·rename_i x t h1 h2
     have h1:=Fl h1
     have h2:=Fl h2
     subst h1 h2
     split at h
     ·rename_i v' i h3 h4
      unfold S8 at h
      split at h
      ·cases hp:Nat.beq i.prim 2 with
       |false=>rw [hp] at h;cases h
       |true =>
        rw [hp] at h
        injection h with h;injection h with h0 h;subst h
        exact R8 H ho h3 h4 (.inr ⟨Nat.eq_of_beq_eq_true hp,_,rfl⟩) rfl
      ·rename_i hns
       cases hp:i.elem.isSome with
       |false=>rw [hp] at h;cases h
       |true =>
        rw [hp] at h
        simp only [cond_true] at h
        split at h
        ·rename_i n hn
         injection h with h;injection h with h0 h;subst h
         exact R8 H ho h3 h4 (.inl ⟨hp,fun b e=>hns b e⟩) hn
        ·cases h
     ·cases h
    ·rename_i x y t t' h1 h2
     have h1:=Fl h1
     have h2:=Fl h2
     subst h1 h2
     split at h
     ·rename_i p q h3 h4;injection h with h;injection h with h0 h;subst h;exact nR ho h3 h4
     ·cases h
    ·rename_i x y t t' h1 h2
     have h1:=Fl h1
     have h2:=Fl h2
     subst h1 h2
     split at h
     ·rename_i p q h3 h4;injection h with h;injection h with h0 h;subst h;exact nS ho h3 h4
     ·cases h
    ·cases h
   ·cases h
  ·cases h
theorem DL (H:Xb P tab) {c:Bool} {v:PV} (h:Ck tab st o.op=some (c,v)) (hc:c=true):TB P st o v:=by
  by_cases hl:∃t x,o.op=.load t x
  ·obtain ⟨t,x,ho⟩:=hl
   rw [ho] at h
   simp only [Ck] at h
   split at h
   ·rename_i v' i h1 h2
    split at h
    ·rename_i r hr;injection h with h;injection h with h0 h;subst h;exact I8 H ho h1 h2 hr
    ·cases h
   ·cases h
  ·cases hcv:Oo st o.op with
   |false=>exact (CU H h hc (fun t x e=>hl ⟨t,x,e⟩) hcv).val
   |true =>
    unfold Oo at hcv
    split at hcv
    ·rename_i s d x ho
     rw [ho] at h
     simp only [Ck] at h
     split at h
     ·rename_i k n i j h1 h2 h3
      rw [h1] at hcv
      cases hcv
     ·rename_i v' i j hne h1 h2 h3
      unfold BU at h
      cases hq:Nat.beq j.prim 2 with
      |false=>rw [hq] at h;cases h
      |true =>
       rw [hq] at h
       simp only [cond_true] at h
       split at h
       ·rename_i e bytes xs h4 h5
        split at h
        ·rename_i ie h6
         split at h
         ·rename_i h7
          injection h with h;injection h with _ h;subst h
          exact nM H ho h1 h2 h3 (Nat.eq_of_beq_eq_true hq) h4 h6 h7 h5
         ·cases h
        ·cases h
       ·cases h
     ·cases h
    ·cases hcv
end
end Go.Proofs.YtjffopopheiinaaGreatDoor
namespace Go.Proofs.YtjffopopheiinaaGreatDoor
open Go.RowKit
def St.put (st:St) (d:Option Nat) (v:PV):St:=match d with|some d=>⟨(d,v)::st.t,st.h⟩|none=>st
section
variable {P:Program} {st:St} {o:Oper} {C:Nc} {E:Nat→Prop} {a:Act} {w w':World} {β β':List (Nat×Nat)}
theorem Hf (d:Option Nat) (v:PV):(st.put d v).h=st.h:=by cases d<;>rfl
theorem Lm {d i:Nat} (e:¬d=i):Nat.beq d i=false:=by
  cases hq:Nat.beq d i with
  |false=>rfl
  |true=>exact absurd (Nat.eq_of_beq_eq_true hq) e
theorem Tb.put (S:Tb C E st a w β) {d:Option Nat} {v:PV} {u:Value} (hd:∀i,d=some i→i<C.N) (h:Cv w E C.X st.h β v u):Tb C E (st.put d v) (a.put d u) w β:=by
  cases d with
  |none=>exact S
  |some d =>
   have hd:=hd d rfl
   refine ⟨S.cl,S.xw,S.step,S.heap,by simpa [Act.put] using S.sz,S.df,fun i v' hi=>?_⟩
   simp only [St.put,Ad] at hi
   by_cases e:d=i
   ·subst e
    simp only [Nat.beq_refl,cond_true,Option.some.injEq] at hi
    subst hi
    exact ⟨u,by simp [Act.put,S.sz,hd],h⟩
   ·rw [Lm e] at hi
    obtain ⟨u',h1,h2⟩:=S.tm i v' hi
    refine ⟨u',?_,h2⟩
    simp [Act.put,e,h1]
theorem Tb.world (S:Ya C st a w β) {h':List Fa} (hs:Ac w st.h β w' h' β') (hh:Qd w' (La h' β') C.X h' β'):Ya C ⟨st.t,h'⟩ a w' β' :=
  ⟨S.cl,S.xw,S.step.trans hs,hh,S.sz,S.df,fun i v hi=>by
    obtain ⟨u,h1,h2⟩:=S.tm i v hi
    exact ⟨u,h1,h2.keep hs.block hs.size (fun b hb hn h=>hn (hs.new b hb h)) (fun _ _ _ h=>h) hs.hle hs.beta⟩⟩
theorem Mm {β:List (Nat×Nat)} (l:List (Nat×Nat)):∀(k:Nat) p,β[k]? =some p→(β++l)[k]? =some p:=fun k p h=>by
  rw [List.getElem?_append_left (List.getElem?_eq_some_iff.1 h).1];exact h
theorem Jm.keep {E E' X:Nat→Prop} {h h':List Fa} {k:Nat} {o:Fa} (ho:Jm w E X h β k o) (hkb:∀b c,β[k]? =some (b,c)→Qc o c→w'.heap[b]? =w.heap[b]?)
    (hk:∀b,b<w.heap.size→¬E b→w'.heap[b]? =w.heap[b]?) (hs:w.heap.size≤w'.heap.size) (hE:∀b,b<w.heap.size→¬E b→¬E' b) (hh:Cd h h') (hβ:∀(k:Nat) p,β[k]? =some p→β'[k]? =some p):Jm w' E' X h' β' k o:=by
  cases o with
  |dead=>trivial
  |vrow t τ=>obtain ⟨b,h1⟩:=ho;exact ⟨b,hβ _ _ h1⟩
  |row t τ xs =>
   obtain ⟨b,c,h1,h2,h3,h4⟩:=ho
   refine ⟨b,c,hβ _ _ h1,h2,h3,fun hc=>?_⟩
   obtain ⟨us,junk,h5,h6,h7⟩:=h4 hc
   exact ⟨us,junk,(hkb b c h1 hc).trans h5,h6.mono fun x u h=>h.keep hk hs hE (fun _ _ _ h=>h),h7⟩
  |box t cs =>
   obtain ⟨b,c,us,h1,h2,h3,h4⟩:=ho
   exact ⟨b,c,us,hβ _ _ h1,(hkb b c h1 trivial).trans h2,h3.mono fun x u h=>h.keep hk hs hE (fun _ _ _ h=>h) hh hβ,h4⟩
theorem AC {E X:Nat→Prop} {h:List Fa} (hh:Qd w E X h β) {k:Nat} {x:Fa} (hk:h[k]? =some x):∃b c,β[k]? =some (b,c):=by
  have:k<β.length:=by rw [hh.len];exact (List.getElem?_eq_some_iff.1 hk).1
  exact ⟨β[k].1,β[k].2,by rw [List.getElem?_eq_getElem this]⟩
theorem Tb.xlt (S:Ya C st a w β) (b:Nat) (hx:C.X b):b<w.heap.size:=Nat.lt_of_lt_of_le (S.xw b hx) S.step.size
theorem Tb.notX (S:Ya C st a w β) {h':List Fa} (hnew:∀i,i<w.heap.size→La h' β' i→La st.h β i) {b:Nat} (hb:La h' β' b):¬C.X b:=fun hx=>by
  have h1:=S.xw b hx
  have h2:=S.step.size
  exact S.heap.nx b (hnew b (by omega) hb) hx
theorem Tb.gen (S:Ya C st a w β) {h':List Fa} (hos:w'.os=w.os) (htp:w'.tape=w.tape) (hou:w'.output=w.output) (hsz:w.heap.size≤w'.heap.size) {b':Nat} (X:Nat→Prop)
    (hblk:∀i,i<w.heap.size→¬X i→w'.heap[i]? =w.heap[i]?) (hX:∀i,i<w.heap.size→X i→La st.h β i)
    (hnew:∀i,i<w.heap.size→La h' β' i→La st.h β i) (hβ:∀(k:Nat) p,β[k]? =some p→β'[k]? =some p) (hlen:β'.length=h'.length) (hle:Cd st.h h') {K:Nat}
    (hold:∀j o,j≠K→h'[j]? =some o→o≠.dead→st.h[j]? =some o∧∀b c,β[j]? =some (b,c)→Qc o c→¬X b∧b≠b')
    (hK:∀o,h'[K]? =some o→Jm w' (La h' β') C.X h' β' K o∧∃c,β'[K]? =some (b',c)):Ya C ⟨st.t,h'⟩ a w' β'∧Ac w st.h β w' h' β':=by
  have hk:∀i,i<w.heap.size→¬La st.h β i→w'.heap[i]? =w.heap[i]? :=fun i hi hn=>hblk i hi (fun h=>hn (hX i hi h))
  have hs:Ac w st.h β w' h' β':=⟨hos,htp,hou,hsz,hk,hnew,hβ,hle⟩
  have hE:∀b,b<w.heap.size→¬La st.h β b→¬La h' β' b:=fun b hb hn h=>hn (hnew b hb h)
  have nd:∀{o:Fa} {c:Nat},Qc o c→o≠.dead:=fun h e=>by subst e;exact h
  refine ⟨S.world hs ⟨hlen,fun _ h=>h,fun b hb=>S.notX hnew hb,fun j o hj=>?_,fun i j o o' b c c' hi hj li lj bi bj=>?_⟩,hs⟩
  ·by_cases e:j=K
   ·subst e;exact (hK o hj).1
   ·by_cases hd:o=.dead
    ·subst hd;trivial
    ·obtain ⟨h1,h2⟩:=hold j o e hj hd
     obtain ⟨b,c,hb⟩:=AC S.heap h1
     exact (S.heap.ok j o h1).keep (fun b1 c1 h3 hl=>hblk b1 (La.lt S.heap ⟨j,o,c1,h1,hl,h3⟩) (h2 b1 c1 h3 hl).1) hk hsz hE hle hβ
  ·by_cases ei:i=K
   ·by_cases ej:j=K
    ·rw [ei,ej]
    ·subst ei
     obtain ⟨_,c1,h1⟩:=hK o hi
     rw [h1] at bi
     injection bi with bi;injection bi with e1 e2;subst e1 e2
     obtain ⟨h2,h3⟩:=hold j o' ej hj (nd lj)
     obtain ⟨b2,c2,h4⟩:=AC S.heap h2
     have:=hβ _ _ h4
     rw [bj] at this
     injection this with this;injection this with e1 e2;subst e1 e2
     exact absurd rfl (h3 _ _ h4 lj).2
   ·by_cases ej:j=K
    ·subst ej
     obtain ⟨_,c1,h1⟩:=hK o' hj
     rw [h1] at bj
     injection bj with bj;injection bj with e1 e2;subst e1 e2
     obtain ⟨h2,h3⟩:=hold i o ei hi (nd li)
     obtain ⟨b2,c2,h4⟩:=AC S.heap h2
     have:=hβ _ _ h4
     rw [bi] at this
     injection this with this;injection this with e1 e2;subst e1 e2
     exact absurd rfl (h3 _ _ h4 li).2
    ·obtain ⟨h2,_⟩:=hold i o ei hi (nd li)
     obtain ⟨h3,_⟩:=hold j o' ej hj (nd lj)
     obtain ⟨b2,c2,h4⟩:=AC S.heap h2
     obtain ⟨b3,c3,h5⟩:=AC S.heap h3
     have q1:=hβ _ _ h4
     have q2:=hβ _ _ h5
     rw [bi] at q1
     rw [bj] at q2
     injection q1 with q1;injection q1 with e1 e2;subst e1 e2
     injection q2 with q2;injection q2 with e1 e2;subst e1 e2
     exact S.heap.inj i j o o' _ _ _ h2 h3 li lj h4 h5
theorem V8 {h:List Fa} {o:Fa} {b c k:Nat} (hl:β.length=h.length) (h1:La (h++[o]) (β++[(b,c)]) k):La h β k∨k=b∧Qc o c:=by
  obtain ⟨j,o',c',h2,h3,h4⟩:=h1
  rw [List.getElem?_append] at h2 h4
  rw [hl] at h4
  split at h2
  ·rename_i hj
   rw [if_pos hj] at h4
   exact .inl ⟨j,o',c',h2,h3,h4⟩
  ·rename_i hj
   rw [if_neg hj] at h4
   rcases Nat.eq_zero_or_pos (j-h.length) with e|e
   ·rw [e] at h4 h2
    simp at h4 h2
    obtain ⟨e1,e2⟩:=h4
    subst e1 e2 h2
    exact .inr ⟨rfl,h3⟩
   ·rw [List.getElem?_eq_none (by simp;omega)] at h4;cases h4
theorem Tb.new (S:Ya C st a w β) (hb:Below w.heap.size w w') {B c:Nat} {o:Fa} (hB:Qc o c→w.heap.size≤B) (ho:∀E':Nat→Prop,(∀b,b<w.heap.size→¬La st.h β b→¬E' b)→∀h' β',Cd st.h h'→(∀(k:Nat) p,β[k]? =some p→β'[k]? =some p)→β'[st.h.length]? =some (B,c)→Jm w' E' C.X h' β' st.h.length o) :
    Ya C ⟨st.t,st.h++[o]⟩ a w' (β++[(B,c)])∧Ac w st.h β w' (st.h++[o]) (β++[(B,c)]):=by
  have hl:=S.heap.len
  have hn:∀i,i<w.heap.size→La (st.h++[o]) (β++[(B,c)]) i→La st.h β i:=fun i hi h=>(V8 hl h).resolve_right (fun ⟨e,h⟩=>by have:=hB h;omega)
  have hβ:(β++[(B,c)])[st.h.length]? =some (B,c):=by rw [List.getElem?_append_right (by omega),hl,Nat.sub_self];rfl
  have hle:=Cd.push st.h [o]
  by_cases hlive:Qc o c
  ·refine S.gen (K:=st.h.length) (b':=B) hb.os hb.tape hb.output hb.size (fun _=>False) (fun i hi _=>hb.block i hi) (fun _ _ h=>h.elim) hn (Mm _) (by simp [hl]) hle (fun j o' hj h _=>?_) (fun o' h=>?_)
   ·have hjl:j<st.h.length:=by
      have:=(List.getElem?_eq_some_iff.1 h).1
      simp at this;omega
    rw [List.getElem?_append_left hjl] at h
    refine ⟨h,fun b c' e hl=>⟨id,?_⟩⟩
    have:=La.lt S.heap ⟨j,o',c',h,hl,e⟩
    have:=hB hlive
    omega
   ·rw [List.getElem?_append_right (Nat.le_refl _),Nat.sub_self] at h
    simp only [List.getElem?_cons_zero,Option.some.injEq] at h
    subst h
    exact ⟨ho _ (fun b hb hnl h=>hnl (hn b hb h)) _ _ hle (Mm _) hβ,c,hβ⟩
  ·have hs:Ac w st.h β w' (st.h++[o]) (β++[(B,c)]):=⟨hb.os,hb.tape,hb.output,hb.size,fun b hb' _=>hb.block b hb',hn,Mm _,hle⟩
   have hE:∀b,b<w.heap.size→¬La st.h β b→¬La (st.h++[o]) (β++[(B,c)]) b:=fun b hb hnl h=>hnl (hn b hb h)
   have cs:∀j o',(st.h++[o])[j]? =some o'→(j<st.h.length∧st.h[j]? =some o')∨(j=st.h.length∧o'=o):=fun j o' h=>by
     rcases Nat.lt_or_ge j st.h.length with hj|hj
     ·rw [List.getElem?_append_left hj] at h;exact .inl ⟨hj,h⟩
     ·have:=(List.getElem?_eq_some_iff.1 h).1
      have e:j=st.h.length:=by simp at this;omega
      subst e
      rw [List.getElem?_append_right (Nat.le_refl _),Nat.sub_self] at h
      simp at h
      exact .inr ⟨rfl,h.symm⟩
   refine ⟨S.world hs ⟨by simp [hl],fun _ h=>h,fun b hb=>S.notX hn hb,fun j o' hj=>?_,fun i j o1 o2 b c1 c2 hi hj li lj bi bj=>?_⟩,hs⟩
   ·rcases cs j o' hj with ⟨h1,h2⟩|⟨rfl,rfl⟩
    ·exact (S.heap.ok j o' h2).keep (fun b1 c1 h3 hl=>hb.block b1 (La.lt S.heap ⟨j,o',c1,h2,hl,h3⟩)) (fun b hb' _=>hb.block b hb') hb.size hE hle (Mm _)
    ·exact ho _ hE _ _ hle (Mm _) hβ
   ·rcases cs i o1 hi with ⟨h1,h2⟩|⟨rfl,rfl⟩
    ·rcases cs j o2 hj with ⟨h3,h4⟩|⟨rfl,rfl⟩
     ·rw [List.getElem?_append_left (by omega)] at bi bj
      exact S.heap.inj i j o1 o2 b c1 c2 h2 h4 li lj bi bj
     ·rw [hβ] at bj
      injection bj with bj;injection bj with e1 e2;subst e2
      exact absurd lj hlive
    ·rw [hβ] at bi
     injection bi with bi;injection bi with e1 e2;subst e2
     exact absurd li hlive
theorem W8 {h:List Fa} {k i:Nat} {o o':Fa} (hk:h[k]? =some o) (hlv:∀c,Qc o' c→Qc o c) (hl:La (h.set k o') β i):La h β i:=by
  obtain ⟨j,o1,c1,h1,h2,h3⟩:=hl
  rw [List.getElem?_set] at h1
  split at h1
  ·rename_i e
   subst e
   split at h1
   ·injection h1 with h1
    subst h1
    exact ⟨k,o,c1,hk,hlv c1 h2,h3⟩
   ·cases h1
  ·exact ⟨j,o1,c1,h1,h2,h3⟩
theorem X8 {h:List Fa} {k:Nat} {o o':Fa} (hk:h[k]? =some o) (hrow:∀t τ (xs':List (El τ)),o'=.row t τ xs'→∃xs:List (El τ),o=.row t τ xs∧xs.length=xs'.length) (hv:∀t τ,o'≠.vrow t τ):Cd h (h.set k o'):=⟨by simp,fun j t τ xs' hj e=>by
  rw [List.getElem?_set] at e
  split at e
  ·rename_i ej
   subst ej
   rw [if_pos (by simpa using (List.getElem?_eq_some_iff.1 hk).1)] at e
   have e:=Option.some.inj e
   obtain ⟨xs,h1,h2⟩:=hrow t τ xs' e
   exact .inl ⟨xs,by rw [hk,h1],h2⟩
  ·exact .inl ⟨xs',e,rfl⟩,fun j hj e=>by
  unfold Dc at *
  rw [List.getElem?_set] at e
  split at e
  ·rename_i o1 t τ hq
   split at hq
   ·split at hq
    ·injection hq with hq;exact absurd hq (hv _ _)
    ·cases hq
   ·rw [hq]
  ·cases e⟩
theorem Tb.turn (S:Ya C st a w β) {b c k:Nat} {o o':Fa} (hk:st.h[k]? =some o) (hβ:β[k]? =some (b,c)) (hlo:Qc o c) (hlv:∀c,Qc o' c→Qc o c) (hrow:∀t τ (xs':List (El τ)),o'=.row t τ xs'→∃xs:List (El τ),o=.row t τ xs∧xs.length=xs'.length) (hv:∀t τ,o'≠.vrow t τ)
    (hos:w'.os=w.os) (htp:w'.tape=w.tape) (hou:w'.output=w.output) (hsz:w.heap.size≤w'.heap.size) (hoth:∀i,i<w.heap.size→i≠b→w'.heap[i]? =w.heap[i]?)
    (ho:∀E':Nat→Prop,(∀b,b<w.heap.size→¬La st.h β b→¬E' b)→∀h',Cd st.h h'→Jm w' E' C.X h' β k o') :
    Ya C ⟨st.t,st.h.set k o'⟩ a w' β∧Ac w st.h β w' (st.h.set k o') β:=by
  have hkl:k<st.h.length:=(List.getElem?_eq_some_iff.1 hk).1
  have hlb:La st.h β b:=⟨k,o,c,hk,hlo,hβ⟩
  have hn:∀i,i<w.heap.size→La (st.h.set k o') β i→La st.h β i:=fun i _ h=>W8 hk hlv h
  have hle:=X8 hk hrow hv
  refine S.gen (K:=k) (b':=b) hos htp hou hsz (·=b) hoth (fun i _ h=>h▸hlb) hn (fun _ _ h=>h) (by simp [S.heap.len]) hle (fun j o1 hj h hd=>?_) (fun o1 h=>?_)
  ·rw [List.getElem?_set,if_neg (Ne.symm hj)] at h
   exact ⟨h,fun b1 c' e hl=>⟨fun q=>hj (S.heap.inj j k o1 o b c' c h hk hl hlo (q▸e) hβ),fun q=>hj (S.heap.inj j k o1 o b c' c h hk hl hlo (q▸e) hβ)⟩⟩
  ·rw [List.getElem?_set,if_pos rfl,if_pos hkl] at h
   injection h with h
   subst h
   exact ⟨ho _ (fun b hb hnl h=>hnl (hn b hb h)) _ hle,c,hβ⟩
theorem Tb.app (S:Ya C st a w β) {b c k b' c':Nat} {o o':Fa} (hk:st.h[k]? =some o) (hβ:β[k]? =some (b,c)) (hos:w'.os=w.os) (htp:w'.tape=w.tape) (hou:w'.output=w.output) (hsz:w.heap.size≤w'.heap.size)
    (hoth:∀i,i<w.heap.size→(i=b∧Qc o c)∨w'.heap[i]? =w.heap[i]?) (hb':Qc o c∧b'=b∨w.heap.size≤b') (ho:∀E':Nat→Prop,(∀b,b<w.heap.size→¬La st.h β b→¬E' b)→∀h' β',Cd st.h h'→(∀(k:Nat) p,β[k]? =some p→β'[k]? =some p)→β'[st.h.length]? =some (b',c')→Jm w' E' C.X h' β' st.h.length o') :
    Ya C ⟨st.t,st.h.set k .dead++[o']⟩ a w' (β++[(b',c')])∧Ac w st.h β w' (st.h.set k .dead++[o']) (β++[(b',c')]):=by
  have hl:=S.heap.len
  have hn:∀i,i<w.heap.size→La (st.h.set k .dead++[o']) (β++[(b',c')]) i→La st.h β i:=fun i hi h=>by
    rcases V8 (by simp [hl]) h with h|⟨h,_⟩
    ·exact W8 (o':=.dead) hk (fun c h=>False.elim h) h
    ·rcases hb' with ⟨hlo,e⟩|e
     ·rw [h,e];exact ⟨k,o,c,hk,hlo,hβ⟩
     ·omega
  have hβ':(β++[(b',c')])[st.h.length]? =some (b',c'):=by rw [List.getElem?_append_right (by omega),hl,Nat.sub_self];rfl
  have hle:Cd st.h (st.h.set k .dead++[o']):=(X8 hk (fun t τ xs' e=>by cases e) (fun _ _ e=>by cases e)).trans (Cd.push _ _)
  refine S.gen (K:=st.h.length) (b':=b') hos htp hou hsz (fun i=>i=b∧Qc o c) (fun i hi hne=>(hoth i hi).resolve_left hne) (fun i _ h=>h.1▸⟨k,o,c,hk,h.2,hβ⟩) hn (Mm _) (by simp [hl]) hle (fun j o1 hj h hd=>?_) (fun o1 h=>?_)
  ·have hjl:j<st.h.length:=by
     have:=(List.getElem?_eq_some_iff.1 h).1
     simp at this;omega
   rw [List.getElem?_append_left (by simpa using hjl),List.getElem?_set] at h
   split at h
   ·split at h
    ·injection h with h;exact absurd h.symm hd
    ·cases h
   ·rename_i hkj
    refine ⟨h,fun b1 c1 e hl1=>⟨fun q=>hkj (S.heap.inj k j o o1 b c c1 hk h q.2 hl1 hβ (q.1▸e)),fun q=>?_⟩⟩
    subst q
    rcases hb' with ⟨hlo,e'⟩|e'
    ·exact hkj (S.heap.inj k j o o1 b c c1 hk h hlo hl1 hβ (e'▸e))
    ·have:=La.lt S.heap ⟨j,o1,c1,h,hl1,e⟩
     omega
  ·rw [List.getElem?_append_right (by simp),List.length_set,Nat.sub_self] at h
   simp only [List.getElem?_cons_zero,Option.some.injEq] at h
   subst h
   exact ⟨ho _ (fun b hb hnl h=>hnl (hn b hb h)) _ _ hle (Mm _) hβ',c',hβ'⟩
end
end Go.Proofs.YtjffopopheiinaaGreatDoor
namespace Go.Proofs.YtjffopopheiinaaGreatDoor
open Go.RowKit
def Ai:(σ τ:Ty)→List (El σ)→Option (List (El τ))
  | .int,.int,x=>some x| .bool,.bool,x=>some x| .u8,.u8,x=>some x| .str,.str,x=>some x| .lk,.lk,x=>some x| .gr,.gr,x=>some x
  | .en,.en,x=>some x| .ls,.ls,x=>some x| .db,.db,x=>some x| .pk,.pk,x=>some x| .ev,.ev,x=>some x| .lb,.lb,x=>some x
  |_,_,_=>none
theorem Fq {σ τ:Ty} {xs:List (El σ)} {ys:List (El τ)} (h:Ai σ τ xs=some ys):∃e:σ=τ,e▸xs=ys:=by
  cases σ<;>cases τ<;>first|(cases h;done)|(injection h with h;subst h;exact ⟨rfl,rfl⟩)
def di:PV→Option Int
  | .im (.s (.int .i64 x))=>some x
  |_=>none
def Rx (τ:Ty):PV→Option (List (El τ))
  | .im (.sl true σ xs)=>Ai σ τ xs
  | .im .nil=>some []
  |_=>none
def BC (τ:Ty) (cs:List PV):Option (El τ):=match τ with
  | .int=>match cs with|[x]=>di x|_=>none
  | .bool=>match cs with|[.im (.s (.bool b))]=>some b|_=>none
  | .u8=>match cs with|[.im (.s (.int .u8 x))]=>some x|_=>none
  | .str=>match cs with|[.im (.s (.string b))]=>some b|_=>none
  | .lk=>match cs with|[x,y,z]=>(match di x,di y,di z with|some a,some b,some c=>some (Lk.mk a b c)|_,_,_=>none)|_=>none
  | .gr=>match cs with|[x,y]=>(match di x,Rx .lk y with|some a,some b=>some (Gr.mk a b)|_,_=>none)|_=>none
  | .en=>match cs with|[x,y]=>(match di x,di y with|some a,some b=>some (En.mk a b)|_,_=>none)|_=>none
  | .ls=>match cs with|[x,y,z]=>(match di x,di y,Rx .en z with|some a,some b,some c=>some (Ls.mk a b c)|_,_,_=>none)|_=>none
  | .db=>match cs with|[x]=>Rx .ls x|_=>none
  | .pk=>match cs with|[x,y,z,q]=>(match di x,di y,di z,Rx .en q with|some t,some a,some b,some c=>some (Pk.mk t (Ls.mk a b c))|_,_,_,_=>none)|_=>none
  | .ev=>match cs with|[x,y]=>(match di x,di y with|some a,some b=>some (Ev.mk a b)|_,_=>none)|_=>none
  | .lb=>match cs with|[x,y]=>(match di x,di y with|some a,some b=>some (Lb.mk a b)|_,_=>none)|_=>none
section
variable {w:World} {E X:Nat→Prop} {h:List Fa} {β:List (Nat×Nat)}
theorem Yg {v:PV} {x:Int} {u:Value} (hd:di v=some x) (hc:C1 w E X h β v u):Ri w E X (iI x) u:=by
  unfold di at hd
  split at hd
  ·injection hd with hd;subst hd;exact hc
  ·cases hd
theorem Sx {g:Bool} {A:Option Addr} (τ:Ty):Ri w E X (.sl g τ []) (.slice A 0 0):=.sl g τ [] A 0 0 0 [] (fun h=>by simp at h) ⟨Nat.le_refl _,Nat.zero_le _⟩ rfl (fun j u hu=>by simp at hu) (fun j x u hx=>by simp [Nb] at hx)
theorem EL {τ:Ty} {v:PV} {xs:List (El τ)} {u:Value} (hd:Rx τ v=some xs) (hc:C1 w E X h β v u):Ri w E X (.sl true τ xs) u:=by
  unfold Rx at hd
  split at hd
  ·obtain ⟨e,he⟩:=Fq hd
   subst e
   subst he
   exact hc
  ·injection hd with hd
   subst hd
   have hc:Ri w E X .nil u:=hc
   cases hc
   exact Sx τ
  ·cases hd
theorem Z8 {τ:Ty} {cs:List PV} {x:El τ} {us:List Value} (hd:BC τ cs=some x) (hF:F2 (C1 w E X h β) cs us):F2 (Ri w E X) (cells τ x) us:=by
  cases τ<;>unfold BC at hd<;>dsimp only at hd
  ·match cs,hd,hF with
   |[x1],hd,hF =>
    obtain ⟨u,r,rfl,h1,h2⟩:=hF.cons_inv
    rw [h2.nil_inv]
    exact F2.cons (Yg hd h1) F2.nil
   |[],hd,_=>cases hd
   |_::_::_,hd,_=>cases hd
  ·split at hd
   case h_2=>cases hd
   injection hd with hd;subst hd;exact UT (h:=h) (β:=β) hF
  ·split at hd
   case h_2=>cases hd
   injection hd with hd;subst hd;exact UT (h:=h) (β:=β) hF
  ·split at hd
   case h_2=>cases hd
   injection hd with hd;subst hd;exact UT (h:=h) (β:=β) hF
  ·split at hd
   case h_2=>cases hd
   split at hd
   case h_2=>cases hd
   rename_i h1 h2 h3
   injection hd with hd;subst hd
   obtain ⟨u,r,rfl,q1,hF⟩:=hF.cons_inv
   obtain ⟨u,r,rfl,q2,hF⟩:=hF.cons_inv
   obtain ⟨u,r,rfl,q3,hF⟩:=hF.cons_inv
   rw [hF.nil_inv]
   exact (F2.cons (Yg h1 q1) (F2.cons (Yg h2 q2) (F2.cons (Yg h3 q3) F2.nil)))
  ·split at hd
   case h_2=>cases hd
   split at hd
   case h_2=>cases hd
   rename_i h1 h2
   injection hd with hd;subst hd
   obtain ⟨u,r,rfl,q1,hF⟩:=hF.cons_inv
   obtain ⟨u,r,rfl,q2,hF⟩:=hF.cons_inv
   rw [hF.nil_inv]
   exact (F2.cons (Yg h1 q1) (F2.cons (EL h2 q2) F2.nil))
  ·split at hd
   case h_2=>cases hd
   split at hd
   case h_2=>cases hd
   rename_i h1 h2
   injection hd with hd;subst hd
   obtain ⟨u,r,rfl,q1,hF⟩:=hF.cons_inv
   obtain ⟨u,r,rfl,q2,hF⟩:=hF.cons_inv
   rw [hF.nil_inv]
   exact (F2.cons (Yg h1 q1) (F2.cons (Yg h2 q2) F2.nil))
  ·split at hd
   case h_2=>cases hd
   split at hd
   case h_2=>cases hd
   rename_i h1 h2 h3
   injection hd with hd;subst hd
   obtain ⟨u,r,rfl,q1,hF⟩:=hF.cons_inv
   obtain ⟨u,r,rfl,q2,hF⟩:=hF.cons_inv
   obtain ⟨u,r,rfl,q3,hF⟩:=hF.cons_inv
   rw [hF.nil_inv]
   exact (F2.cons (Yg h1 q1) (F2.cons (Yg h2 q2) (F2.cons (EL h3 q3) F2.nil)))
  ·match cs,hd,hF with
   |[x1],hd,hF =>
    obtain ⟨u,r,rfl,h1,h2⟩:=hF.cons_inv
    rw [h2.nil_inv]
    exact F2.cons (EL hd h1) F2.nil
   |[],hd,_=>cases hd
   |_::_::_,hd,_=>cases hd
  ·split at hd
   case h_2=>cases hd
   split at hd
   case h_2=>cases hd
   rename_i h1 h2 h3 h4
   injection hd with hd;subst hd
   obtain ⟨u,r,rfl,q1,hF⟩:=hF.cons_inv
   obtain ⟨u,r,rfl,q2,hF⟩:=hF.cons_inv
   obtain ⟨u,r,rfl,q3,hF⟩:=hF.cons_inv
   obtain ⟨u,r,rfl,q4,hF⟩:=hF.cons_inv
   rw [hF.nil_inv]
   exact (F2.cons (Yg h1 q1) (F2.cons (Yg h2 q2) (F2.cons (Yg h3 q3) (F2.cons (EL h4 q4) F2.nil))))
  ·split at hd
   case h_2=>cases hd
   split at hd
   case h_2=>cases hd
   rename_i h1 h2
   injection hd with hd;subst hd
   obtain ⟨u,r,rfl,q1,hF⟩:=hF.cons_inv
   obtain ⟨u,r,rfl,q2,hF⟩:=hF.cons_inv
   rw [hF.nil_inv]
   exact (F2.cons (Yg h1 q1) (F2.cons (Yg h2 q2) F2.nil))
  ·split at hd
   case h_2=>cases hd
   split at hd
   case h_2=>cases hd
   rename_i h1 h2
   injection hd with hd;subst hd
   obtain ⟨u,r,rfl,q1,hF⟩:=hF.cons_inv
   obtain ⟨u,r,rfl,q2,hF⟩:=hF.cons_inv
   rw [hF.nil_inv]
   exact (F2.cons (Yg h1 q1) (F2.cons (Yg h2 q2) F2.nil))
end
def Po (k:Nat) (τ:Ty) (xs:List (El τ)):PV→PV
  | .own j=>bif Nat.beq j k then .im (.sl true τ xs) else .own j
  |v=>v
def DU (k:Nat) (τ:Ty) (xs:List (El τ)):PV→PV
  | .agg cs=>.agg (cs.map (Po k τ xs))
  | .fn f cs=>.fn f (cs.map (Po k τ xs))
  |v=>Po k τ xs v
def EU (k:Nat) (τ:Ty) (xs:List (El τ)):PV→PV
  | .tup cs=>.tup (cs.map (DU k τ xs))
  |v=>DU k τ xs v
def Tx (k:Nat) (τ:Ty) (xs:List (El τ)):Fa→Fa
  | .box t cs=>.box t (cs.map (Po k τ xs))
  |o=>o
def Je (k:Nat) (τ:Ty) (xs:List (El τ)):Nat→List Fa→List Fa
  |_,[]=>[]
  |0,_::r=>.dead::r.map (Tx k τ xs)
  |n+1,o::r=>Tx k τ xs o::Je k τ xs n r
def FL (k:Nat) (τ:Ty) (xs:List (El τ)):List (Nat×PV)→List (Nat×PV)
  |[]=>[]
  |(i,v)::r=>(i,EU k τ xs v)::FL k τ xs r
def frz (k:Nat) (st:St):St:=match st.h[k]? with
  |some (.row _ τ xs)=>⟨FL k τ xs st.t,Je k τ xs k st.h⟩
  |_=>st
theorem A9 (k:Nat) (τ:Ty) (xs:List (El τ)):∀(t:List (Nat×PV)) (i:Nat),Ad (FL k τ xs t) i=(Ad t i).map (EU k τ xs)
  |[],i=>rfl
  |(j,v)::r,i=>by
   simp only [FL,Ad]
   cases Nat.beq j i with
   |true=>rfl
   |false=>exact A9 k τ xs r i
theorem B9 (k:Nat) (τ:Ty) (xs:List (El τ)):∀(n:Nat) (h:List Fa) (j:Nat),(Je k τ xs n h)[j]? =if j=n then h[j]?.map (fun _=>Fa.dead) else h[j]?.map (Tx k τ xs)
  |n,[],j=>by cases n<;>simp [Je]
  |0,o::r,j=>by cases j<;>simp [Je]
  |n+1,o::r,j=>by
   cases j with
   |zero=>simp [Je]
   |succ j=>simpa [Je] using B9 k τ xs n r j
theorem FU (k:Nat) (τ:Ty) (xs:List (El τ)):∀(n:Nat) (h:List Fa),(Je k τ xs n h).length=h.length
  |n,[]=>by cases n<;>rfl
  |0,o::r=>by simp [Je]
  |n+1,o::r=>by simp [Je,FU k τ xs n r]
section
variable {C:Nc} {st:St} {a:Act} {w:World} {β:List (Nat×Nat)} {k:Nat} {t:TypeId} {τ:Ty} {xs:List (El τ)}
theorem Gq {h:List Fa} {j:Nat} {o:Fa} (hj:(Je k τ xs k h)[j]? =some o):(j=k∧o=.dead)∨(j≠k∧∃o',h[j]? =some o'∧o=Tx k τ xs o'):=by
  rw [B9] at hj
  split at hj
  ·rename_i e
   obtain ⟨o',_,rfl⟩:=Option.map_eq_some_iff.1 hj
   exact .inl ⟨e,rfl⟩
  ·rename_i e
   obtain ⟨o',h1,rfl⟩:=Option.map_eq_some_iff.1 hj
   exact .inr ⟨e,o',h1,rfl⟩
theorem IL {o:Fa} {c:Nat}:Qc (Tx k τ xs o) c↔Qc o c:=by cases o<;>exact Iff.rfl
theorem JL {h:List Fa} {b:Nat} (hl:La (Je k τ xs k h) β b):La h β b:=by
  obtain ⟨j,o,c,h1,h2,h3⟩:=hl
  rcases Gq h1 with ⟨_,rfl⟩|⟨_,o',h4,rfl⟩
  ·exact h2.elim
  ·exact ⟨j,o',c,h4,IL.1 h2,h3⟩
theorem KL (h:List Fa):Cd h (Je k τ xs k h):=⟨by rw [FU];exact Nat.le_refl _,fun j t' σ ys hj e=>by
  rcases Gq e with ⟨_,h1⟩|⟨_,o',h2,h3⟩
  ·cases h1
  ·cases o'<;>first|(cases h3;done)|skip
   injection h3 with e1 e2 e3
   subst e1 e2
   have:=eq_of_heq e3
   subst this
   exact .inl ⟨_,h2,rfl⟩,fun j hj e=>by
  cases hq:(Je k τ xs k h)[j]? with
  |none=>simp [Dc,hq] at e
  |some o =>
   rcases Gq hq with ⟨_,rfl⟩|⟨_,o',h2,rfl⟩
   ·simp [Dc,hq] at e
   ·cases o'<;>simp [Dc,hq,h2,Tx] at e ⊢⟩
theorem nT {X:Nat→Prop} {h:List Fa} {E':Nat→Prop} (hh:Qd w (La h β) X h β) (hk:h[k]? =some (.row t τ xs)) (hE:∀b,¬La h β b→¬E' b) (hkE:∀b c,β[k]? =some (b,c)→0<c→¬E' b) {g:Bool} {u:Value} (hc:C1 w (La h β) X h β (.own k) u):Ri w E' X (.sl g τ xs) u:=by
  obtain ⟨_,_,_,h2⟩:=hc
  obtain ⟨b,c,A,h3,rfl,h4,h5⟩:=h2 t τ xs hk
  obtain ⟨b',c',h6,h7,h8,h9⟩:=hh.ok k _ hk
  rw [h3] at h6
  injection h6 with h6;injection h6 with e1 e2
  subst e1 e2
  rcases Nat.eq_zero_or_pos c with hc|hc
  ·have hx:=h7 hc
   subst hx hc
   exact .sl g τ [] A 0 0 0 [] (fun h=>by simp at h) ⟨Nat.le_refl _,Nat.zero_le _⟩ rfl (fun j u hu=>by simp at hu) (fun j x u hx=>by simp [Nb] at hx)
  ·obtain ⟨us,junk,q1,q2,q3,q4⟩:=h9 hc
   have hlen:xs.length≤c:=by
     have:xs.length*sz τ≤c*sz τ:=by rw [←q4,←Md,←q2.1];simp
     exact Nat.le_of_mul_le_mul_right this (Gj τ)
   refine .sl g τ xs A c b 0 us (fun _=>⟨h4 hc,(Array.getElem?_eq_some_iff.1 q1).1,hkE b c h3 hc,fun _=>hh.nx b ⟨k,_,c,hk,hc,h3⟩⟩) ⟨hlen,h8⟩ q2.1 (fun j u hu=>by rw [Nat.zero_add];exact Dq q1 hu) (fun j x u hx hu=>?_)
   exact (q2.2 j x u hx hu).keep (fun _ _ _=>rfl) (Nat.le_refl _) (fun b _=>hE b) (fun _ _ _ h=>h)
theorem GU {X:Nat→Prop} {h:List Fa} (hh:Qd w (La h β) X h β) (hk:h[k]? =some (.row t τ xs)) {v:PV} {u:Value} (hc:C1 w (La h β) X h β v u):C1 w (La (Je k τ xs k h) β) X (Je k τ xs k h) β (Po k τ xs v) u:=by
  have hE:∀b,¬La h β b→¬La (Je k τ xs k h) β b:=fun b hn hl=>hn (JL hl)
  have keep:∀v,C1 w (La h β) X h β v u→C1 w (La (Je k τ xs k h) β) X (Je k τ xs k h) β v u:=fun v hc=>hc.keep (fun _ _ _=>rfl) (Nat.le_refl _) (fun b _=>hE b) (fun _ _ _ h=>h) (KL h) (fun _ _ h=>h)
  cases v with
  |own j =>
   simp only [Po]
   cases hj:Nat.beq j k with
   |false=>exact keep _ hc
   |true =>
    have:=Nat.eq_of_beq_eq_true hj
    subst this
    refine nT hh hk hE (fun b c h1 h2 ⟨j',o,c',h3,h4,h5⟩=>?_) hc
    rcases Gq h3 with ⟨_,rfl⟩|⟨hne,o',h6,rfl⟩
    ·exact h4
    ·exact hne (hh.inj j' j o' _ b c' c h6 hk (IL.1 h4) h2 h5 h1)
  |im x=>exact keep _ hc
  |ptr k o=>exact keep _ hc
  |ept k i z o=>exact keep _ hc
  |at_ xs o=>exact keep _ hc
  |fn f caps=>exact hc.elim
  |agg cs=>exact hc.elim
  |tup cs=>exact hc.elim
theorem nU {X:Nat→Prop} {h:List Fa} (hh:Qd w (La h β) X h β) (hk:h[k]? =some (.row t τ xs)) {v:PV} {u:Value} (hc:Cv w (La h β) X h β v u):Cv w (La (Je k τ xs k h) β) X (Je k τ xs k h) β (EU k τ xs v) u:=by
  have H:=fun v u hc=>GU (v:=v) (u:=u) hh hk hc
  have hC2:∀v u,C2 w (La h β) X h β v u→C2 w (La (Je k τ xs k h) β) X (Je k τ xs k h) β (DU k τ xs v) u:=fun v u hc=>by
    cases v with
    |agg cs=>obtain ⟨us,h1,h2⟩:=hc;exact ⟨us,h1,h2.mapl H⟩
    |fn f caps=>obtain ⟨us,h1,h2⟩:=hc;exact ⟨us,h1,h2.mapl H⟩
    |im x=>exact (H (.im x) u hc).c2
    |own k=>exact (H (.own k) u hc).c2
    |ptr k o=>exact (H (.ptr k o) u hc).c2
    |ept k i z o=>exact (H (.ept k i z o) u hc).c2
    |at_ xs o=>exact (H (.at_ xs o) u hc).c2
    |tup cs=>exact hc.elim
  cases v with
  |tup cs=>obtain ⟨us,h1,h2⟩:=hc;exact ⟨us,h1,h2.mapl hC2⟩
  |agg cs=>exact hC2 (.agg cs) u hc
  |fn f caps=>exact hC2 (.fn f caps) u hc
  |im x=>exact (H (.im x) u hc).cv
  |own k=>exact (H (.own k) u hc).cv
  |ptr k o=>exact (H (.ptr k o) u hc).cv
  |ept k i z o=>exact (H (.ept k i z o) u hc).cv
  |at_ xs o=>exact (H (.at_ xs o) u hc).cv
theorem Tb.frz (S:Ya C st a w β) (k:Nat):Ya C (Go.Proofs.YtjffopopheiinaaGreatDoor.frz k st) a w β:=by
  unfold Go.Proofs.YtjffopopheiinaaGreatDoor.frz
  split
  case h_2=>exact S
  rename_i t τ xs hk
  have hn:∀b,La (Je k τ xs k st.h) β b→La st.h β b:=fun b=>JL
  refine ⟨S.cl,S.xw,?_,⟨by rw [FU];exact S.heap.len,fun _ h=>h,fun b hb=>S.heap.nx b (hn b hb),fun j o hj=>?_,fun i j o o' b c c' hi hj li lj bi bj=>?_⟩,S.sz,S.df,fun i v hi=>?_⟩
  ·exact S.step.trans ⟨rfl,rfl,rfl,Nat.le_refl _,fun _ _ _=>rfl,fun b _=>hn b,fun _ _ h=>h,KL _⟩
  ·rcases Gq hj with ⟨_,rfl⟩|⟨hne,o',h2,rfl⟩
   ·trivial
   ·have ho:=S.heap.ok j o' h2
    cases o' with
    |dead=>trivial
    |vrow t' σ=>exact ho
    |row t' σ ys =>
     obtain ⟨b,c,h3,h4,h5,h6⟩:=ho
     refine ⟨b,c,h3,h4,h5,fun hc=>?_⟩
     obtain ⟨us,junk,h7,h8,h9⟩:=h6 hc
     exact ⟨us,junk,h7,h8.mono fun x u h=>h.keep (fun _ _ _=>rfl) (Nat.le_refl _) (fun b _ h1 h2=>h1 (hn b h2)) (fun _ _ _ h=>h),h9⟩
    |box t' cs =>
     obtain ⟨b,c,us,h3,h4,h5,h6⟩:=ho
     exact ⟨b,c,us,h3,h4,h5.mapl fun v u hc=>GU S.heap hk hc,h6⟩
  ·rcases Gq hi with ⟨_,rfl⟩|⟨_,o1,h1,rfl⟩
   ·exact li.elim
   ·rcases Gq hj with ⟨_,rfl⟩|⟨_,o2,h2,rfl⟩
    ·exact lj.elim
    ·exact S.heap.inj i j o1 o2 b c c' h1 h2 (IL.1 li) (IL.1 lj) bi bj
  ·rw [A9] at hi
   obtain ⟨v',h1,rfl⟩:=Option.map_eq_some_iff.1 hi
   obtain ⟨u,h2,h3⟩:=S.tm i v' h1
   exact ⟨u,h2,nU S.heap hk h3⟩
def Zd:List PV→St→List PV→St×List PV
  |[],st,cs=>(st,cs)
  | .own k::r,st,cs=>match st.h[k]? with
    |some (.row _ τ xs)=>Zd r (Go.Proofs.YtjffopopheiinaaGreatDoor.frz k st) (cs.map (Po k τ xs))
    |_=>Zd r st cs
  |_::r,st,cs=>Zd r st cs
theorem Dk:∀(l:List PV) {st:St} (_:Ya C st a w β) (cs:List PV) {us:List Value} (_:F2 (C1 w (La st.h β) C.X st.h β) cs us),Ya C (Zd l st cs).1 a w β∧F2 (C1 w (La (Zd l st cs).1.h β) C.X (Zd l st cs).1.h β) (Zd l st cs).2 us∧Ac w st.h β w (Zd l st cs).1.h β
  |[],_,S,_,_,hF=>⟨S,hF,Ac.refl _ _ _⟩
  | .own k::r,st,S,cs,us,hF=>by
    unfold Zd
    split
    ·rename_i t τ xs hk
     have S1:=S.frz k
     have e:(Go.Proofs.YtjffopopheiinaaGreatDoor.frz k st).h=Je k τ xs k st.h:=by unfold Go.Proofs.YtjffopopheiinaaGreatDoor.frz;rw [hk]
     have hs:Ac w st.h β w (Go.Proofs.YtjffopopheiinaaGreatDoor.frz k st).h β:=by rw [e];exact ⟨rfl,rfl,rfl,Nat.le_refl _,fun _ _ _=>rfl,fun b _=>JL,fun _ _ h=>h,KL _⟩
     obtain ⟨h1,h2,h3⟩:=Dk r S1 (cs.map (Po k τ xs)) (us:=us) (by rw [e];exact hF.mapl fun v u hc=>GU S.heap hk hc)
     exact ⟨h1,h2,hs.trans h3⟩
    ·exact Dk r S cs hF
  | .im x::r,st,S,cs,us,hF=>Dk r S cs hF
  | .ptr k o::r,st,S,cs,us,hF=>Dk r S cs hF
  | .ept k i z o::r,st,S,cs,us,hF=>Dk r S cs hF
  | .at_ xs o::r,st,S,cs,us,hF=>Dk r S cs hF
  | .fn f caps::r,st,S,cs,us,hF=>Dk r S cs hF
  | .agg cs'::r,st,S,cs,us,hF=>Dk r S cs hF
  | .tup cs'::r,st,S,cs,us,hF=>Dk r S cs hF
end
end Go.Proofs.YtjffopopheiinaaGreatDoor
end
