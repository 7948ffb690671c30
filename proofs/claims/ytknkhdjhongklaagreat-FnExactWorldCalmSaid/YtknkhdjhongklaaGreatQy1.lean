/- Part 1 of the proof: Ka. -/
import Derived.WalkKit
import Derived.WalkSpells
import Derived.WalkLawsBesides
import Derived.Laws.OwnMore
import Derived.Laws.MakeOwn
import Derived.Maps.AppendAt
import Derived.Deep.AppendLies
import Derived.Deep.Draws
import Derived.Lib.Hide
import Derived.Below
import Derived.BigQuiet
import Derived.Deep.QuietTactic
import Derived.Deep.DeepCutAuto
import Derived.Deep.LoopGhost
import Derived.Deep.RegionHeld3
import Derived.Deep.RegionWith
import Derived.OrdersHeld
import Derived.StillTail
import Derived.StillTailTactics
import Derived.IntWalk
import Derived.Great.BuildSlice
import Derived.Lib.SliceRun
import Derived.Laws.BytesArg
import Derived.Laws.Concat
set_option linter.unusedSimpArgs false
set_option linter.unusedVariables false
set_option maxRecDepth 100000
section
namespace Go.Proofs.YtknkhdjhongklaaGreat
open Go.RowKit
theorem dT {p:Prop} [Decidable p] (h:p):decide p=true:=decide_eq_true h
theorem dF {p:Prop} [Decidable p] (h:¬p):decide p=false:=decide_eq_false h
theorem oT {p:Prop} [Decidable p] (h:decide p=true):p:=of_decide_eq_true h
theorem oF {p:Prop} [Decidable p] (h:decide p=false):¬p:=of_decide_eq_false h
theorem iE {k:IntKind} {a b:Int} (h:a=b):Ending.returned (.int k a)=.returned (.int k b):=by rw [h]
def Dc (a b c:Int):Bool:=decide (b≤a∧a≤c)
theorem Mh {a b c:Int} (h:Dc a b c=true):b≤a∧a≤c:=oT h
theorem Xi {a b c:Int} (h:Dc a b c=false):¬(b≤a∧a≤c):=oF h
theorem Fx {a b c:Int} (h:b≤a∧a≤c):Dc a b c=true:=decide_eq_true h
theorem Di {a b c:Int}:(Dc a b c=true)=(b≤a∧a≤c):=by simp [Dc]
theorem Ei {a b c:Int}:(Dc a b c=false)=¬(b≤a∧a≤c):=by unfold Dc;rw [decide_eq_false_iff_not]
theorem iF (p:Bool):p=false∨p=true:=by cases p<;>simp
theorem We:(∀a b c:Int,(Dc a b c=true)=(b≤a∧a≤c))∧(∀a b c:Int,(Dc a b c=false)=¬(b≤a∧a≤c))∧(∀b:Bool,((!b)=true)=(b=false))∧(∀b:Bool,((!b)=false)=(b=true)) ∧
    (∀(p:Prop) [Decidable p],(decide p=true)=p)∧(∀(p:Prop) [Decidable p],(decide p=false)=¬p)∧(∀a b:Int,((a==b)=true)=(a=b))∧(∀a b:Int,((a==b)=false)=¬(a=b)) ∧
    (∀a b:Int,((a != b)=true)=¬(a=b))∧(∀a b:Int,((a != b)=false)=(a=b))∧(∀b:Bool,(¬(b=true))=(b=false))∧(∀b:Bool,(¬(b=false))=(b=true)) :=
  ⟨fun _ _ _=>Di,fun _ _ _=>Ei,fun b=>by cases b<;>simp,fun b=>by cases b<;>simp,fun p _=>by simp,fun p _=>by simp,fun _ _=>by simp,fun _ _=>by simp,fun _ _=>by simp,fun _ _=>by simp,fun b=>by simp,fun b=>by simp⟩
theorem iG {B:Nat} {a w:World} (h:Below B a w) (n:Nat):Below B a (w.drewN n):=⟨h.os,h.tape,h.output,h.size,h.block⟩
theorem iH {a w:World} (h:a.grownBy w none):Below a.heap.size a w:=⟨h.os,h.tape,h.output,h.size,fun i hi=>h.block i hi (by simp)⟩
def Hn (w w':World):Prop:=∃n,w'=w.drewN n
theorem Hn.refl (w:World):Hn w w:=⟨0,rfl⟩
theorem Hn.more {w:World} (n:Nat):Hn w (w.drewN n):=⟨n,rfl⟩
theorem Hn.two {w:World} (n m:Nat):Hn w ((w.drewN n).drewN m):=⟨n+m,World.drewN_drewN _ _ _⟩
theorem Hn.below {w w':World} (h:Hn w w') (B:Nat):Below B w w':=by obtain ⟨n,rfl⟩:=h;exact iG (Below.refl _ _) n
structure iJ (w:World) where
  now:World
  ok:Below w.heap.size w now
instance (w:World):Nonempty (iJ w):=⟨⟨w,Below.refl _ _⟩⟩
def Zd (w:World) (g:Nat) (t:TypeId) (cs:Array Value):Prop:=w.heap[g]? =some (.cells cs t (0,0))
section
variable {w w':World} {g:Nat} {t:TypeId} {cs:Array Value}
theorem Zd.lt (h:Zd w g t cs):g<w.heap.size:=by
  rcases Nat.lt_or_ge g w.heap.size with hlt|hge
  ·exact hlt
  ·unfold Zd at h;rw [Array.getElem?_eq_none hge] at h;cases h
theorem Zd.cell (h:Zd w g t cs) (i:Nat):w.cell? ⟨g,i,none⟩=cs[i]? :=cell_of_row w g i cs t (0,0) h
theorem Zd.new (w:World) (t:TypeId) (cs:Array Value):Zd (w.alloc (.cells cs t)) w.heap.size t cs:=heap_alloc_new w _
theorem Zd.drew (h:Zd w g t cs):Zd w.drew g t cs:=h
theorem Zd.drewN (h:Zd w g t cs) (n:Nat):Zd (w.drewN n) g t cs:=h
theorem Zd.alloc (h:Zd w g t cs) (o:Obj):Zd (w.alloc o) g t cs:=(Below.heap_alloc w o g h.lt).trans h
theorem Zd.set_ (h:Zd w g t cs) (i:Nat) (u:Value):Zd (w.setCell ⟨g,i,none⟩ u) g t (cs.setIfInBounds i u):=by
  unfold Zd at h ⊢
  simp [World.setCell,Array.getElem?_modify,h]
theorem Zd.below (h:Zd w g t cs) (hb:Below w.heap.size w w'):Zd w' g t cs:=(hb.block g h.lt).trans h
theorem Zd.grown {row:Option Nat} (h:Zd w g t cs) (hb:w.grownBy w' row) (hg:row≠some g):Zd w' g t cs:=(hb.block g h.lt (fun e=>hg e.symm)).trans h
end
def Rd (w:World) (size:Nat) (A:Option Addr) (n:Nat) (xs:List Value):Prop :=
  xs.length=n*size∧(0<n→∃b o,A=some ⟨b,o,none⟩∧∀j u,xs[j]? =some u→w.cell? ⟨b,o+j,none⟩=some u)
theorem OG {w:World} {b o:Nat} {v:Value} (h:w.cell? ⟨b,o,none⟩=some v):b<w.heap.size:=World.block_lt_of_cell? w ⟨b,o,none⟩ h
section
variable {w w':World} {size n:Nat} {A:Option Addr} {xs:List Value}
theorem Rd.keep (h:Rd w size A n xs) (hk:∀b o,b<w.heap.size→(∃o',A=some ⟨b,o',none⟩)→w'.cell? ⟨b,o,none⟩=w.cell? ⟨b,o,none⟩):Rd w' size A n xs :=
  ⟨h.1,fun hn=>by
    obtain ⟨b,o,e,hc⟩:=h.2 hn
    exact ⟨b,o,e,fun j u hu=>(hk b _ (OG (hc j u hu)) ⟨o,e⟩).trans (hc j u hu)⟩⟩
theorem Rd.below (h:Rd w size A n xs) (hb:Below w.heap.size w w'):Rd w' size A n xs:=h.keep fun b o hlt _=>hb.cell (p:=⟨b,o,none⟩) hlt
theorem Rd.drewN (h:Rd w size A n xs) (k:Nat):Rd (w.drewN k) size A n xs:=h
theorem Rd.drew (h:Rd w size A n xs):Rd w.drew size A n xs:=h
theorem Rd.alloc (h:Rd w size A n xs) (o:Obj):Rd (w.alloc o) size A n xs:=h.below ((Below.refl _ _).alloc (Nat.le_refl _) o)
theorem Rd.grown {row:Option Nat} (h:Rd w size A n xs) (hg:w.grownBy w' row) (hr:∀b o,A=some ⟨b,o,none⟩→row≠some b):Rd w' size A n xs :=
  h.keep fun b o hlt ⟨o',e⟩=>World.cell?_of_block (a:=⟨b,o,none⟩) (hg.block b hlt (fun e'=>hr b o' e e'.symm))
theorem Rd.set_ (h:Rd w size A n xs) {p:Addr} (hp:∀b o,A=some ⟨b,o,none⟩→b≠p.block) (u:Value):Rd (w.setCell p u) size A n xs :=
  h.keep fun b o hlt ⟨o',e⟩=>World.cell?_setCell_other w p ⟨b,o,none⟩ u (fun e'=>hp b o' e (by rw [e']))
theorem Rd.cell (h:Rd w size A n xs) {j:Nat} (hj:j<xs.length):∃b o u,A=some ⟨b,o,none⟩∧b<w.heap.size∧xs[j]? =some u∧w.cell? ⟨b,o+j,none⟩=some u:=by
  have hn:0<n:=by
    rcases Nat.eq_zero_or_pos n with h0|h0
    ·have:=h.1;rw [h0] at this;omega
    ·exact h0
  obtain ⟨b,o,e,hc⟩:=h.2 hn
  have hu:xs[j]? =some xs[j]:=List.getElem?_eq_getElem hj
  exact ⟨b,o,_,e,OG (hc j _ hu),hu,hc j _ hu⟩
end
def iK (zs:List Int):List Value:=zs.map (Value.int .i64)
def Rl (w:World) (A:Option Addr) (len:Nat) (zs:List Int):Prop:=zs.length=len∧len≤16777216∧Rd w 1 A len (iK zs)
def iz (zs:List Int) (i:Nat):Int:=zs.getD i 0
theorem z8 {zs:List Int} {i:Nat} (h:i<zs.length):zs[i]? =some (iz zs i):=by simp [iz,List.getD,h]
section
variable {w w':World} {A:Option Addr} {len:Nat} {zs:List Int}
theorem Rl.below (h:Rl w A len zs) (hb:Below w.heap.size w w'):Rl w' A len zs:=⟨h.1,h.2.1,h.2.2.below hb⟩
theorem Rl.drewN (h:Rl w A len zs) (k:Nat):Rl (w.drewN k) A len zs:=h
theorem Rl.alloc (h:Rl w A len zs) (o:Obj):Rl (w.alloc o) A len zs:=⟨h.1,h.2.1,h.2.2.alloc o⟩
end
structure Lk where
  a:Int
  b:Int
  c:Int
  deriving DecidableEq
def Lk.row (l:Lk):List Value:=[.int .i64 l.a,.int .i64 l.b,.int .i64 l.c]
def iL (ls:List Lk):List Value:=ls.flatMap Lk.row
def Sl (w:World) (A:Option Addr) (len:Nat) (ls:List Lk):Prop:=ls.length=len∧len≤16777216∧Rd w 3 A len (iL ls)
def lk (ls:List Lk) (i:Nat):Lk:=ls.getD i ⟨0,0,0⟩
theorem K2 {ls:List Lk} {i:Nat} (h:i<ls.length):ls[i]? =some (lk ls i):=by simp [lk,List.getD,h]
section
variable {w w':World} {A:Option Addr} {len:Nat} {ls:List Lk}
theorem Sl.below (h:Sl w A len ls) (hb:Below w.heap.size w w'):Sl w' A len ls:=⟨h.1,h.2.1,h.2.2.below hb⟩
theorem Sl.drewN (h:Sl w A len ls) (k:Nat):Sl (w.drewN k) A len ls:=h
theorem Sl.alloc (h:Sl w A len ls) (o:Obj):Sl (w.alloc o) A len ls:=⟨h.1,h.2.1,h.2.2.alloc o⟩
end
end Go.Proofs.YtknkhdjhongklaaGreat
namespace Go.Proofs.YtknkhdjhongklaaGreat
open Go.RowKit
def Nc (Q:Exit→Act→World→Prop):Exit→Act→World→Prop
  | .panic _,_,_=>False
  |e,a,w=>Q e a w
theorem Nc.le {Q:Exit→Act→World→Prop}:∀e a w,Nc Q e a w→Q e a w:=by
  intro e a w h
  cases e<;>first|exact h|exact h.elim
theorem iM {P:Program} {o:Oper} {a:Act} {w:World} {K:Act→World→Prop} {Q Q':Exit→Act→World→Prop} (hq:∀e a w,Q e a w→Q' e a w) (h:o.wp P a w K Q):o.wp P a w K Q':=by
  unfold Oper.wp at *
  generalize (execOp a.eval o).run P w=r at *
  cases r with
  |ok n w' =>
   cases n<;>simp only [Oper.upon] at h ⊢<;>first|exact h|skip
   case enter f args =>
     refine Calls.mono h fun e w'' he=>?_
     cases e with
     |returned u=>exact he
     |panicked c=>exact hq _ _ _ he
     |outgrown=>obtain ⟨a',w',h'⟩:=he;exact ⟨a',w',hq _ _ _ h'⟩
  |halt x w' =>
   cases x<;>simp only [Oper.upon] at h ⊢
   case panic u=>exact hq _ _ _ h
theorem L2 {P:Program} {ops:Array Oper} {i:Nat} {a:Act} {w:World} {K:Act→World→Prop} {Q Q':Exit→Act→World→Prop} (hq:∀e a w,Q e a w→Q' e a w) (h:wpOp P ops Q i K a w):wpOp P ops Q' i K a w:=by
  unfold wpOp at *
  split at h
  ·exact h
  ·split at h
   ·rename_i hw
    simp only [hw,if_true]
    rcases h with h|⟨h1,a',w',h2⟩
    ·exact .inl (iM hq h)
    ·exact .inr ⟨h1,a',w',hq _ _ _ h2⟩
   ·rename_i hw
    simp only [hw]
    exact h
section
variable {P:Program} {ops:Array Oper} {md:Region.Mode} {Q:Exit→Act→World→Prop} {S:World→Prop}
def Of (P:Program) (md:Region.Mode) (ops:Array Oper) (Q:Exit→Act→World→Prop) (S:World→Prop) (n:Nat) (T:Array Bool→Act→World→Prop):Nat→Array Bool→Act→World→Prop
  |0,listed,a,w=>T listed a w
  |f+1,listed,a,w=>Region.ready md ops listed≠[]∧∀i∈Region.ready md ops listed,i<n∧wpOp P ops Q i (fun a' w'=>S w'∧Of P md ops Q S n T f (listed.setIfInBounds i true) a' w') a w
theorem Gx {n g:Nat} {T:Array Bool→Act→World→Prop} {Q':Exit→Act→World→Prop} (hq:∀e a w,Q e a w→Q' e a w) (hT:∀listed a w,T listed a w→wpAny P md ops Q' g listed a w) :
    ∀(f:Nat) (listed:Array Bool) (a:Act) (w:World),Of P md ops Q S n T f listed a w→wpAny P md ops Q' (f+g) listed a w
  |0,listed,a,w,h=>by rw [Nat.zero_add];exact hT _ _ _ h
  |f+1,listed,a,w,h=>by
   rw [show f+1+g=(f+g)+1 by omega]
   exact ⟨fun h0=>absurd h0 h.1,fun i hi=>wpOp_mono (fun a' w' h'=>Gx hq hT f _ a' w' h'.2) (L2 hq (h.2 i hi).2)⟩
def Hx (md:Region.Mode) (ops:Array Oper) (n:Nat):Prop:=n=ops.size∨(Region.sinkB md ops n=true∧Region.chainB md ops n=true∧n<ops.size)
theorem Hx.lt {n:Nat} (ht:Hx md ops n) {listed:Array Bool} (inv:HeadInv md ops n listed) {i:Nat} (hin:i<n) (hun:listed.getD i true=false) {j:Nat} (hj:j∈Region.ready md ops listed):j<n:=by
  rcases ht with rfl|⟨hs,hc,hn⟩
  ·obtain ⟨_,o,ho,_⟩:=mem_ready.1 hj
   exact (Array.getElem?_eq_some_iff.1 ho).1
  ·rcases Nat.lt_or_ge j n with h|h
   ·exact h
   ·exact absurd hj (tail_waits hs hc hn inv _ i rfl hin hun j h)
theorem JO {n i:Nat} {oi:Oper} {v:Value} {T:Array Bool→Act→World→Prop} (hi:ops[i]? =some oi) (hsel:∀(j:Nat) (o:Oper) cs b,ops[j]? =some o→o.op≠.select cs b)
    (hQ:∀c a w,Q (.panic c) (a.put oi.dst v) w→Q (.panic c) a w)
    (ht:Hx md ops n) (hin:i<n)
    (hdone:∀listed a w,T listed a w→∀j∈Region.ready md ops listed,n≤j) :
    ∀(f:Nat) (listed:Array Bool) (a:Act) (w:World),HeadInv md ops n listed →
     (∀j oj,ops[j]? =some oj→j≠i→listed.getD j true=false→(∀e∈oj.after,Region.binds md e=true→e.on≠i)→oi.apart ops oj=true) →
     i∈Region.ready md ops listed→YieldsIf P ops S oi v a→S w →
     Of P md ops Q S n T f (listed.setIfInBounds i true) (a.put oi.dst v) w→Of P md ops Q S n T (f+1) listed a w:=by
  intro f
  induction f with
  |zero =>
   intro listed a w inv _ hr hy hS H
   have hun:=(mem_ready.1 hr).1
   refine ⟨fun h=>(by rw [h] at hr;cases hr),fun j hj=>?_⟩
   have hjn:j<n:=ht.lt inv hin hun hj
   refine ⟨hjn,?_⟩
   by_cases hji:j=i
   ·subst hji;exact hy.wpOp hi hS ⟨hS,H⟩
   ·have:=hdone _ _ _ H j (ready_mono hj hji)
    omega
  |succ f ih =>
   intro listed a w inv hfree hr hy hS H
   have hun:=(mem_ready.1 hr).1
   refine ⟨fun h=>(by rw [h] at hr;cases hr),fun j hj=>?_⟩
   have hjn:j<n:=ht.lt inv hin hun hj
   refine ⟨hjn,?_⟩
   by_cases hji:j=i
   ·subst hji;exact hy.wpOp hi hS ⟨hS,H⟩
   ·have h1:=(H.2 j (ready_mono hj hji)).2
    obtain ⟨hjun,oj,hoj,hall⟩:=mem_ready.1 hj
    have hnot:∀e∈oj.after,Region.binds md e=true→e.on≠i:=fun e he hb heq=>by
      have h1:=hall e he hb
      rw [heq,getD_both hun] at h1
      cases h1
    have h2:=wpOp_putIf hoj (hfree j oj hoj hji hjun hnot) (fun cs b=>hsel i oi cs b hi) (fun cs b=>hsel j oj cs b hoj) hQ hy h1
    have hfree':∀k ok,ops[k]? =some ok→k≠i→(listed.setIfInBounds j true).getD k true=false →
        (∀e∈ok.after,Region.binds md e=true→e.on≠i)→oi.apart ops ok=true:=fun k ok hk hki hun hno=>by
      refine hfree k ok hk hki ?_ hno
      by_cases hjk:j=k
      ·subst hjk;exact hjun
      ·rw [getD_set_ne true hjk] at hun;exact hun
    refine wpOp_mono (fun a' w' h3=>⟨h3.2.1,ih (listed.setIfInBounds j true) a' w' (inv.set hj hjn) hfree' (ready_mono hr (Ne.symm hji)) h3.1 h3.2.1 ?_⟩) h2
    rw [Array.setIfInBounds_comm _ _ hji]
    exact h3.2.2
def Jf:Op→Bool
  | .move _| .assign _| .pick _ _ _| .build _ _| .load _ _| .binOp _ _ _ _ _| .unOp _ _ _| .convert _ _ _| .slice _ _ _ _ _| .fieldAddr _ _ _| .field _ _ _| .indexAddr _ _ _| .index _ _ _| .extract _ _| .nilCheck _=>true
  | .call { callee:=.builtin .len,.. }| .call { callee:=.builtin .cap,.. }| .call { callee:=.builtin .min,.. }| .call { callee:=.builtin .max,.. }=>true
  |_=>false
def Xe (P:Program) (s:Sem Next):Prop:=∀w n w',s.run P w=.ok n w'→∃u,n=.value u
theorem Xe.bind {α:Type} {s:Sem α} {f:α→Sem Next} (h:∀a,Xe P (f a)):Xe P (s >>= f):=by
  intro w n w' e
  rw [Sem.run_bind] at e
  generalize s.run P w=r at e
  cases r with
  |ok a w1=>exact h a w1 n w' e
  |halt x w1=>simp [Result.andThen] at e
theorem Xe.pure {v:Value}:Xe P (pure (Next.value v)):=by
  intro w n w' e
  simp only [Sem.run_pure,Result.ok.injEq] at e
  exact ⟨_,e.1.symm⟩
theorem Xe.nilDeref:Xe P (runtimePanic .nilDeref):=by
  intro w n w' e
  simp [runtimePanic,go_sem] at e
theorem iN {ρ:Operand→Value} {o:Oper} (hv:Jf o.op=true):Xe P (execOp ρ o):=by
  obtain ⟨dst,op,ty,pos,after,guard⟩:=o
  cases op<;>simp only [Jf] at hv<;>first|cases hv|skip
  all_goals try (exact Xe.bind fun _=>Xe.pure)
  all_goals try (exact Xe.pure)
  case nilCheck x =>
    simp only [execOp]
    split<;>first|exact Xe.nilDeref|exact Xe.pure|skip
    split<;>first|exact Xe.nilDeref|exact Xe.pure|skip
    refine Xe.bind fun _=>Xe.bind fun _=>?_
    split
    ·exact Xe.bind fun _=>Xe.pure
    ·exact Xe.pure
  case call c =>
    obtain ⟨cal,args,tys⟩:=c
    cases cal with
    |builtin b =>
     cases b<;>simp only at hv<;>first|cases hv|skip
     all_goals
       simp only [execOp,resolve,pure_bind,invoke,builtin]
       exact Xe.bind fun _=>Xe.pure
    |_=>cases hv
theorem PG {o:Oper} {a:Act} {K:Act→Prop} (hv:Jf o.op=true) (hw:Region.wanted o (yielded ops a.tmps)=true) (h:o.quiet P a S K):∃v,YieldsIf P ops S o v a∧K (a.put o.dst v):=by
  obtain ⟨v,h1,h2⟩:=h
  refine ⟨v,.inl ⟨hw,fun w hS=>?_⟩,h2⟩
  have h3:=h1 w hS
  unfold Oper.quietAt at h3
  have h4:=iN (P:=P) (ρ:=a.eval) hv w
  generalize hr:(execOp a.eval o).run P w=r at h3 h4 ⊢
  cases r with
  |ok n w' =>
   obtain ⟨u,rfl⟩:=h4 n w' rfl
   simp only [Oper.quietUpon] at h3
   rw [h3.1,h3.2]
  |halt x w'=>exact h3.elim
def Qd (P:Program) (ops:Array Oper) (Q:Exit→Act→World→Prop) (S:World→Prop) (T:Act→World→Prop):List (Oper×Bool)→Act→World→Prop
  |[],a,w=>T a w
  |(o,f)::r,a,w =>
   if Region.wanted o (yielded ops a.tmps) then
     (match f&&Jf o.op with
      |false=>o.wp P a w (fun a' w'=>S w'∧Qd P ops Q S T r a' w') (Nc Q)
      |true=>o.quiet P a S (fun a'=>Qd P ops Q S T r a' w))
   else Qd P ops Q S T r (a.put o.dst undef) w
def Ix (md:Region.Mode) (ops:Array Oper) (g n:Nat):List (Nat×Bool)→Array Bool→Bool
  |[],listed=>Region.seqB md ops g n listed
  |(k,f)::r,listed =>
   decide (k<n)&&(match ops[k]? with
    |some o=>(if f&&Jf o.op then (Region.ready md ops listed).contains k&&Region.free md ops listed k else decide (Region.ready md ops listed=[k]))
    |none=>false)&&Ix md ops g n r (listed.setIfInBounds k true)
def QG (md:Region.Mode) (ops:Array Oper) (n:Nat) (ord:List (Nat×Bool)):Bool :=
  Region.noSelect ops&&decide (n<ops.size)&&Region.sinkB md ops n&&Region.chainB md ops n&&decide (ord.length=n)&&Ix md ops (ops.size-n) n ord (Array.replicate ops.size false)
def Ec (l:List Oper) (ord:List (Nat×Bool)):List (Oper×Bool):=ord.filterMap fun k=>l[k.1]?.map fun o=>(o,k.2)
theorem N2 {n g:Nat} {T:Act→World→Prop} (hsel:Region.noSelect ops=true) (hs:Region.sinkB md ops n=true) (hc:Region.chainB md ops n=true) (hn:n<ops.size) :
    ∀(ord:List (Nat×Bool)) (listed:Array Bool) (a:Act) (w:World),HeadInv md ops n listed→Ix md ops g n ord listed=true→S w→Qd P ops Q S T (Ec ops.toList ord) a w →
    Of P md ops (Nc Q) S n (fun listed' a' w'=>Region.seqB md ops g n listed'=true∧T a' w') ord.length listed a w
  |[],listed,a,w,_,hB,_,h=>⟨by simpa [Ix] using hB,h⟩
  |(k,f)::l,listed,a,w,inv,hB,hS,h=>by
   simp only [Ix,Bool.and_eq_true,decide_eq_true_eq] at hB
   obtain ⟨⟨hkn,hB1⟩,hB'⟩:=hB
   cases h0:ops[k]? with
   |none=>simp [h0] at hB1
   |some o =>
   simp only [h0] at hB1
   have hp:Ec ops.toList ((k,f)::l)=(o,f)::Ec ops.toList l:=by
     have:ops.toList[k]? =some o:=by rw [Array.getElem?_toList];exact h0
     unfold Ec;rw [List.filterMap_cons];simp only [this,Option.map_some]
   rw [hp] at h
   have go_on:=fun (a':Act) (w':World) (hr':k∈Region.ready md ops listed) (hS':S w') (h':Qd P ops Q S T (Ec ops.toList l) a' w') =>
     N2 hsel hs hc hn l (listed.setIfInBounds k true) a' w' (inv.set hr' hkn) hB' hS' h'
   unfold Qd at h
   cases hv:f&&Jf o.op with
   |true =>
    have hv2:f=true∧Jf o.op=true:=by simpa only [Bool.and_eq_true] using hv
    have hv':=hv2.2
    rw [if_pos hv2] at hB1
    simp only [Bool.and_eq_true] at hB1
    have hr':k∈Region.ready md ops listed:=by simpa using hB1.1
    obtain ⟨v,hy,hK⟩:∃v,YieldsIf P ops S o v a∧Qd P ops Q S T (Ec ops.toList l) (a.put o.dst v) w:=by
      by_cases hw:Region.wanted o (yielded ops a.tmps)=true
      ·simp only [hw,if_true,hv] at h
       exact PG hv' hw h
      ·simp only [hw] at h
       exact ⟨undef,.inr ⟨by simpa using hw,rfl⟩,h⟩
    exact JO h0 (Region.noSelect_spec hsel) (fun _ _ _ h=>h) (.inr ⟨hs,hc,hn⟩) hkn (fun listed' a' w' hL=>seqB_ready hL.1) l.length listed a w inv (Region.free_spec h0 hB1.2) hr' hy hS (go_on _ _ hr' hS hK)
   |false =>
    have hv2:¬(f=true∧Jf o.op=true):=by rw [←Bool.and_eq_true,hv];exact Bool.false_ne_true
    rw [if_neg hv2] at hB1
    simp only [decide_eq_true_eq] at hB1
    have hr':k∈Region.ready md ops listed:=by rw [hB1];simp
    refine ⟨by rw [hB1];simp,fun i hi=>?_⟩
    rw [hB1] at hi
    obtain rfl:i=k:=by simpa using hi
    refine ⟨hkn,?_⟩
    unfold wpOp
    simp only [h0]
    by_cases hw:Region.wanted o (yielded ops a.tmps)=true
    ·simp only [hw,if_true,hv] at h ⊢
     exact .inl (Oper.wp_mono (fun a' w' h'=>⟨h'.1,go_on a' w' hr' h'.1 h'.2⟩) h)
    ·simp only [hw] at h ⊢
     exact ⟨hS,go_on _ _ hr' hS h⟩
theorem iO {id:Nat} {a:Act} {w:World} {l:List Oper} (n:Nat) (ord:List (Nat×Bool)) (S:World→Prop) (hm:P.follows .mixedOrders=true) (hB:QG .any l.toArray n ord=true) (hS:S w.drew)
    (h:Qd P l.toArray Q S (fun a' w'=>wpList P l.toArray Q (l.drop n) a' w') (Ec l ord) a w.drew):(Code.region id l.toArray true).wp P Q a w:=by
  simp only [QG,Bool.and_eq_true,decide_eq_true_eq] at hB
  obtain ⟨⟨⟨⟨⟨hsel,hn⟩,hs⟩,hc⟩,hon⟩,hlex⟩:=hB
  have hn':n<l.length:=by simpa using hn
  have hdl:(l.drop n).length=l.toArray.size-n:=by simp
  have inv0:HeadInv .any l.toArray n (Array.replicate l.toArray.size false) :=
    ⟨by simp,fun j oj _ hl=>(by rw [getD_replicate_false] at hl;cases hl),fun t _ ht=>getD_in (by simpa using ht) (getD_replicate_false _ _)⟩
  have H:=N2 (md:=.any) (g:=l.toArray.size-n) hsel hs hc hn ord _ a w.drew inv0 hlex hS h
  refine wp_region_any hm ?_
  have:=Gx (Q':=Q) (g:=l.toArray.size-n) Nc.le (fun listed a' w' hL=>by
    have:=wpAny_of_seq (md:=.any) (Q':=Q) (l.drop n) n listed a' w' (fun j=>by simp [List.getElem?_drop]) (by rw [hdl];exact hL.1) hL.2
    rwa [hdl] at this) _ _ _ _ H
  rw [hon] at this
  rwa [show n+(l.toArray.size-n)=l.toArray.size by simp;omega] at this
variable {T:Act→World→Prop} {a:Act} {w:World} {o:Oper} {r:List (Oper×Bool)} {f:Bool}
theorem KO (h:T a w):Qd P ops Q S T [] a w:=h
theorem P2 (hw:Region.wanted o (yielded ops a.tmps)=false) (h:Qd P ops Q S T r (a.put o.dst undef) w):Qd P ops Q S T ((o,f)::r) a w:=by
  unfold Qd
  simp only [hw]
  exact h
theorem iP (hw:Region.wanted o (yielded ops a.tmps)=true) (hv:(f&&Jf o.op)=true) (h:∀K:Act→Prop,(∀a',Qd P ops Q S T r a' w→K a')→o.quiet P a S K):Qd P ops Q S T ((o,f)::r) a w:=by
  unfold Qd
  simp only [hw,hv,if_true]
  exact h _ fun _ h=>h
theorem iQ (hw:Region.wanted o (yielded ops a.tmps)=true) (hv:(f&&Jf o.op)=false) (h:∀K:Act→World→Prop,(∀a' w',S w'→Qd P ops Q S T r a' w'→K a' w')→o.wp P a w K (Nc Q)):Qd P ops Q S T ((o,f)::r) a w:=by
  unfold Qd
  simp only [hw,hv,if_true]
  exact h _ fun _ _ h1 h2=>⟨h1,h2⟩
end
structure yAD (P:Program) (T E:TypeId) (size bytes:Nat):Prop where
  und:P.underlying T=some (.slice E)
  info:∃i z,P.info? E=some i∧i.zero=some z∧i.size=size∧i.bytes=bytes∧z.cells.size=size
  pos:0<size
  small:bytes≤1000
section
variable {P:Program} {T E size bytes:Nat} {w:World}
end
end Go.Proofs.YtknkhdjhongklaaGreat
namespace Go.Proofs.YtknkhdjhongklaaGreat
open Go.RowKit
inductive Tr where
  |done
  |val (k:Nat) (r:Tr)
  |one (k:Nat) (r:Tr)
  |two (k1:Nat) (r1:Tr) (k2:Nat) (r2:Tr)
  |alt (k:Nat) (r:Tr) (m:Tr)
def Je:Tr→List Nat
  | .one k _=>[k]
  | .alt k _ m=>k::Je m
  |_=>[]
section
variable {P:Program} {ops:Array Oper} {md:Region.Mode} {Q:Exit→Act→World→Prop} {S:World→Prop}
def Me (md:Region.Mode) (ops:Array Oper) (g n:Nat):Bool→Nat→Tr→Array Bool→Bool
  |_,0,.done,listed=>Region.seqB md ops g n listed
  |_,m+1,.val k r,listed=>decide (k<n)&&(match ops[k]? with
    |some o=>Jf o.op&&(Region.ready md ops listed).contains k&&Region.free md ops listed k
    |none=>false)&&Me md ops g n true m r (listed.setIfInBounds k true)
  |b,m+1,.one k r,listed=>decide (k<n)&&(!b||decide (Region.ready md ops listed=[k]))&&Me md ops g n true m r (listed.setIfInBounds k true)
  |_,m+1,.two k1 r1 k2 r2,listed=>decide (k1<n)&&decide (k2<n)&&decide (Region.ready md ops listed=[k1,k2])&&Me md ops g n true m r1 (listed.setIfInBounds k1 true)&&Me md ops g n true m r2 (listed.setIfInBounds k2 true)
  |b,m+1,.alt k r t,listed=>decide (k<n)&&(!b||decide (Region.ready md ops listed=k::Je t))&&Me md ops g n true m r (listed.setIfInBounds k true)&&Me md ops g n false (m+1) t listed
  |_,_,_,_=>false
def LO (md:Region.Mode) (ops:Array Oper) (n:Nat) (t:Tr):Bool :=
  Region.noSelect ops&&(decide (n=ops.size)||(decide (n<ops.size)&&Region.sinkB md ops n&&Region.chainB md ops n))&&Me md ops (ops.size-n) n true n t (Array.replicate ops.size false)
def Ru (P:Program) (ops:Array Oper) (Q:Exit→Act→World→Prop) (S:World→Prop) (o:Oper) (a:Act) (w:World) (R:Act→World→Prop):Prop :=
  if Region.wanted o (yielded ops a.tmps) then o.wp P a w (fun a' w'=>S w'∧R a' w') (Nc Q) else R (a.put o.dst undef) w
def Ye (P:Program) (ops:Array Oper) (Q:Exit→Act→World→Prop) (S:World→Prop) (T:Act→World→Prop):Tr→Act→World→Prop
  | .done,a,w=>T a w
  | .val k r,a,w=>∃o,ops[k]? =some o∧(if Region.wanted o (yielded ops a.tmps) then o.quiet P a S (fun a'=>Ye P ops Q S T r a' w) else Ye P ops Q S T r (a.put o.dst undef) w)
  | .one k r,a,w=>∃o,ops[k]? =some o∧Ru P ops Q S o a w (Ye P ops Q S T r)
  | .two k1 r1 k2 r2,a,w=>(∃o,ops[k1]? =some o∧Ru P ops Q S o a w (Ye P ops Q S T r1))∧(∃o,ops[k2]? =some o∧Ru P ops Q S o a w (Ye P ops Q S T r2))
  | .alt k r m,a,w=>(∃o,ops[k]? =some o∧Ru P ops Q S o a w (Ye P ops Q S T r))∧Ye P ops Q S T m a w
theorem Tl {o:Oper} {a:Act} {w:World} {k:Nat} {R:Act→World→Prop} {K:Act→World→Prop} (h0:ops[k]? =some o) (hS:S w) (h:Ru P ops Q S o a w R) (hk:∀a' w',S w'→R a' w'→K a' w'):wpOp P ops (Nc Q) k K a w:=by
  unfold wpOp
  simp only [h0]
  unfold Ru at h
  by_cases hw:Region.wanted o (yielded ops a.tmps)=true
  ·simp only [hw,if_true] at h ⊢
   exact .inl (Oper.wp_mono (fun a' w' h'=>hk a' w' h'.1 h'.2) h)
  ·simp only [hw] at h ⊢
   exact hk _ _ hS h
theorem U2 {n g m:Nat} {T:Act→World→Prop} (IH:∀(t:Tr) (listed:Array Bool) (a:Act) (w:World),HeadInv md ops n listed→Me md ops g n true m t listed=true→S w→Ye P ops Q S T t a w →
    Of P md ops (Nc Q) S n (fun listed' a' w'=>Region.seqB md ops g n listed'=true∧T a' w') m listed a w) {listed:Array Bool} {a:Act} {w:World} (inv:HeadInv md ops n listed) (hS:S w) :
    ∀(t:Tr),Me md ops g n false (m+1) t listed=true→Ye P ops Q S T t a w→∀i∈Je t,i∈Region.ready md ops listed→i<n∧wpOp P ops (Nc Q) i (fun a' w'=>S w'∧Of P md ops (Nc Q) S n (fun listed' a' w'=>Region.seqB md ops g n listed'=true∧T a' w') m (listed.setIfInBounds i true) a' w') a w
  | .done,_,_,i,hi,_=>by simp [Je] at hi
  | .val _ _,_,_,i,hi,_=>by simp [Je] at hi
  | .two _ _ _ _,_,_,i,hi,_=>by simp [Je] at hi
  | .one k r,hB,h,i,hi,hr=>by
    simp only [Me,Bool.and_eq_true,decide_eq_true_eq] at hB
    obtain ⟨⟨hkn,_⟩,hB'⟩:=hB
    obtain ⟨o,h0,h⟩:=h
    obtain rfl:i=k:=by simpa [Je] using hi
    exact ⟨hkn,Tl h0 hS h fun a' w' hS' h'=>⟨hS',IH r _ _ _ (inv.set hr hkn) hB' hS' h'⟩⟩
  | .alt k r t,hB,h,i,hi,hr=>by
    simp only [Me,Bool.and_eq_true,decide_eq_true_eq] at hB
    obtain ⟨⟨⟨hkn,_⟩,hB'⟩,hBt⟩:=hB
    obtain ⟨⟨o,h0,h⟩,ht⟩:=h
    rcases List.mem_cons.1 (show i∈k::Je t from hi) with rfl|hi
    ·exact ⟨hkn,Tl h0 hS h fun a' w' hS' h'=>⟨hS',IH r _ _ _ (inv.set hr hkn) hB' hS' h'⟩⟩
    ·exact U2 IH inv hS t hBt ht i hi hr
theorem Su {n g:Nat} {T:Act→World→Prop} (hsel:Region.noSelect ops=true) (htl:Hx md ops n) :
    ∀(m:Nat) (t:Tr) (listed:Array Bool) (a:Act) (w:World),HeadInv md ops n listed→Me md ops g n true m t listed=true→S w→Ye P ops Q S T t a w →
    Of P md ops (Nc Q) S n (fun listed' a' w'=>Region.seqB md ops g n listed'=true∧T a' w') m listed a w
  |0,.done,listed,a,w,_,hB,_,h=>⟨by simpa [Me] using hB,h⟩
  |0,.val _ _,_,_,_,_,hB,_,_=>by simp [Me] at hB
  |0,.one _ _,_,_,_,_,hB,_,_=>by simp [Me] at hB
  |0,.two _ _ _ _,_,_,_,_,hB,_,_=>by simp [Me] at hB
  |0,.alt _ _ _,_,_,_,_,hB,_,_=>by simp [Me] at hB
  |m+1,.done,_,_,_,_,hB,_,_=>by simp [Me] at hB
  |m+1,.val k r,listed,a,w,inv,hB,hS,h=>by
   simp only [Me,Bool.and_eq_true,decide_eq_true_eq] at hB
   obtain ⟨⟨hkn,hB1⟩,hB'⟩:=hB
   obtain ⟨o,h0,h⟩:=h
   simp only [h0,Bool.and_eq_true] at hB1
   have hr':k∈Region.ready md ops listed:=by simpa using hB1.1.2
   obtain ⟨v,hy,hK⟩:∃v,YieldsIf P ops S o v a∧Ye P ops Q S T r (a.put o.dst v) w:=by
     by_cases hw:Region.wanted o (yielded ops a.tmps)=true
     ·simp only [hw,if_true] at h
      exact PG hB1.1.1 hw h
     ·simp only [hw] at h
      exact ⟨undef,.inr ⟨by simpa using hw,rfl⟩,h⟩
   exact JO h0 (Region.noSelect_spec hsel) (fun _ _ _ h=>h) htl hkn (fun listed' a' w' hL=>seqB_ready hL.1) m listed a w inv (Region.free_spec h0 hB1.2) hr' hy hS
     (Su hsel htl m r _ _ _ (inv.set hr' hkn) hB' hS hK)
  |m+1,.one k r,listed,a,w,inv,hB,hS,h=>by
   simp only [Me,Bool.and_eq_true,decide_eq_true_eq,Bool.not_true,Bool.false_or] at hB
   obtain ⟨⟨hkn,hB1⟩,hB'⟩:=hB
   obtain ⟨o,h0,h⟩:=h
   have hr':k∈Region.ready md ops listed:=by rw [hB1];simp
   refine ⟨by rw [hB1];simp,fun i hi=>?_⟩
   rw [hB1] at hi
   obtain rfl:i=k:=by simpa using hi
   exact ⟨hkn,Tl h0 hS h fun a' w' hS' h'=>⟨hS',Su hsel htl m r _ _ _ (inv.set hr' hkn) hB' hS' h'⟩⟩
  |m+1,.two k1 r1 k2 r2,listed,a,w,inv,hB,hS,h=>by
   simp only [Me,Bool.and_eq_true,decide_eq_true_eq] at hB
   obtain ⟨⟨⟨⟨hk1,hk2⟩,hB1⟩,hBa⟩,hBb⟩:=hB
   obtain ⟨⟨o1,h1,ha⟩,o2,h2,hb⟩:=h
   have hr1:k1∈Region.ready md ops listed:=by rw [hB1];simp
   have hr2:k2∈Region.ready md ops listed:=by rw [hB1];simp
   refine ⟨by rw [hB1];simp,fun i hi=>?_⟩
   rw [hB1] at hi
   have hi:i=k1∨i=k2:=by simpa using hi
   rcases hi with rfl|rfl
   ·exact ⟨hk1,Tl h1 hS ha fun a' w' hS' h'=>⟨hS',Su hsel htl m r1 _ _ _ (inv.set hr1 hk1) hBa hS' h'⟩⟩
   ·exact ⟨hk2,Tl h2 hS hb fun a' w' hS' h'=>⟨hS',Su hsel htl m r2 _ _ _ (inv.set hr2 hk2) hBb hS' h'⟩⟩
  |m+1,.alt k r t,listed,a,w,inv,hB,hS,h=>by
   have hB0:Me md ops g n false (m+1) (.alt k r t) listed=true:=by
     simp only [Me,Bool.and_eq_true,decide_eq_true_eq,Bool.not_false,Bool.true_or,true_and] at hB ⊢
     exact ⟨⟨⟨hB.1.1.1,trivial⟩,hB.1.2⟩,hB.2⟩
   simp only [Me,Bool.and_eq_true,decide_eq_true_eq,Bool.not_true,Bool.false_or] at hB
   obtain ⟨⟨⟨_,hB1⟩,_⟩,_⟩:=hB
   refine ⟨by rw [hB1];simp,fun i hi=>?_⟩
   exact U2 (fun t listed a w=>Su hsel htl m t listed a w) inv hS (.alt k r t) hB0 h i (by rw [hB1] at hi;exact hi) hi
theorem iR {id:Nat} {a:Act} {w:World} {l:List Oper} (n:Nat) (t:Tr) (S:World→Prop) (hm:P.follows .mixedOrders=true) (hB:LO .any l.toArray n t=true) (hS:S w.drew)
    (h:Ye P l.toArray Q S (fun a' w'=>wpList P l.toArray Q (l.drop n) a' w') t a w.drew):(Code.region id l.toArray true).wp P Q a w:=by
  simp only [LO,Bool.and_eq_true,decide_eq_true_eq] at hB
  obtain ⟨⟨hsel,htl⟩,hlex⟩:=hB
  have htl:Hx .any l.toArray n:=by
    simp only [Bool.or_eq_true,Bool.and_eq_true,decide_eq_true_eq] at htl
    rcases htl with h|⟨⟨h1,h2⟩,h3⟩
    ·exact .inl h
    ·exact .inr ⟨h2,h3,h1⟩
  have hn':n≤l.length:=by
    rcases htl with h|⟨_,_,h⟩
    ·rw [h];simp
    ·have:n<l.length:=by simpa using h
     omega
  have hdl:(l.drop n).length=l.toArray.size-n:=by simp
  have inv0:HeadInv .any l.toArray n (Array.replicate l.toArray.size false) :=
    ⟨by simp,fun j oj _ hl=>(by rw [getD_replicate_false] at hl;cases hl),fun t _ ht=>getD_in (by simpa using ht) (getD_replicate_false _ _)⟩
  have H:=Su (md:=.any) (g:=l.toArray.size-n) hsel htl n t _ a w.drew inv0 hlex hS h
  refine wp_region_any hm ?_
  have:=Gx (Q':=Q) (g:=l.toArray.size-n) Nc.le (fun listed a' w' hL=>by
    have:=wpAny_of_seq (md:=.any) (Q':=Q) (l.drop n) n listed a' w' (fun j=>by simp [List.getElem?_drop]) (by rw [hdl];exact hL.1) hL.2
    rwa [hdl] at this) _ _ _ _ H
  rwa [show n+(l.toArray.size-n)=l.toArray.size by simp;omega] at this
inductive SG where
  |done
  |bad
  |val (o:Oper) (r:SG)
  |one (o:Oper) (r:SG)
  |two (r1 r2:SG)
variable {T:Act→World→Prop} {a:Act} {w:World} {o:Oper} {r r1 r2:SG}
end
structure yAE (S:World→Prop) where
  now:World
  ok:S now
end Go.Proofs.YtknkhdjhongklaaGreat
namespace Go.Proofs.YtknkhdjhongklaaGreat
open Go.RowKit
structure En where
  n:Int
  c:Int
structure Ls where
  o:Int
  s:Int
  e:List En
structure Gr where
  n:Int
  l:List Lk
structure Pk where
  t:Int
  p:Ls
structure Ev where
  k:Int
  a:Int
structure Lb where
  k:Int
  a:Int
inductive Ty where
  |int|bool|u8|str|lk|gr|en|ls|db|pk|ev|lb|uls|udb|upk
abbrev El:Ty→Type
  | .int=>Int
  | .bool=>Bool
  | .u8=>Int
  | .str=>ByteArray
  | .lk=>Lk
  | .gr=>Gr
  | .en=>En
  | .ls=>Ls
  | .db=>List Ls
  | .pk=>Pk
  | .ev=>Ev
  | .lb=>Lb
  | .uls=>Ls
  | .udb=>List Ls
  | .upk=>Pk
inductive IV where
  |s (v:Value)
  |nil
  |sl (g:Bool) (τ:Ty) (xs:List (El τ))
inductive PV where
  |im (x:IV)
  |own (k:Nat)
  |ptr (k o:Nat)
  |ept (k i z o:Nat)
  |at_ (cs:List IV) (o:Nat)
  |fn (f:FuncId) (caps:List PV)
  |agg (cs:List PV)
  |tup (cs:List PV)
inductive Ca where
  |dead
  |row (t:TypeId) (τ:Ty) (xs:List (El τ))
  |vrow (t:TypeId) (τ:Ty)
  |box (t:TypeId) (cs:List PV)
structure St where
  t:List (Nat×PV)
  h:List Ca
def iI (x:Int):IV:=.s (.int .i64 x)
def cells:(τ:Ty)→El τ→List IV
  | .int,x=>[iI x]
  | .bool,x=>[.s (.bool x)]
  | .u8,x=>[.s (.int .u8 x)]
  | .str,x=>[.s (.string x)]
  | .lk,x=>[iI (Lk.a x),iI (Lk.b x),iI (Lk.c x)]
  | .gr,x=>[iI (Gr.n x),.sl true .lk (Gr.l x)]
  | .en,x=>[iI (En.n x),iI (En.c x)]
  | .ls,x=>[iI (Ls.o x),iI (Ls.s x),.sl true .en (Ls.e x)]
  | .db,x=>[.sl true .ls x]
  | .pk,x=>[iI (Pk.t x),iI (Ls.o (Pk.p x)),iI (Ls.s (Pk.p x)),.sl true .en (Ls.e (Pk.p x))]
  | .ev,x=>[iI (Ev.k x),iI (Ev.a x)]
  | .lb,x=>[iI (Lb.k x),iI (Lb.a x)]
  | .uls,x=>[iI (Ls.o x),iI (Ls.s x),.sl true .en (Ls.e x)]
  | .udb,x=>[.sl true .ls x]
  | .upk,x=>[iI (Pk.t x),iI (Ls.o (Pk.p x)),iI (Ls.s (Pk.p x)),.sl true .en (Ls.e (Pk.p x))]
def sz:Ty→Nat
  | .int| .bool| .u8| .str| .db| .udb=>1
  | .gr| .en| .ev| .lb=>2
  | .lk| .ls| .uls=>3
  | .pk| .upk=>4
theorem Yi:∀(τ:Ty) (x:El τ),(cells τ x).length=sz τ:=by intro τ x;cases τ<;>rfl
theorem Pf (τ:Ty):0<sz τ:=by cases τ<;>decide
def Ua (τ:Ty) (xs:List (El τ)):List IV:=xs.flatMap (cells τ)
theorem Kb (τ:Ty) (xs:List (El τ)):(Ua τ xs).length=xs.length*sz τ:=by
  unfold Ua
  induction xs with
  |nil=>simp
  |cons x r ih=>rw [List.flatMap_cons,List.length_append,ih,Yi,List.length_cons,Nat.succ_mul];omega
theorem Qo (τ:Ty) (xs ys:List (El τ)):Ua τ (xs++ys)=Ua τ xs++Ua τ ys:=by simp [Ua]
theorem In (τ:Ty) (x:El τ) (ys:List (El τ)):Ua τ (x::ys)=cells τ x++Ua τ ys:=by simp [Ua]
theorem Ro (τ:Ty):∀(xs:List (El τ)) (i:Nat) (x:El τ),xs[i]? =some x→((Ua τ xs).drop (i*sz τ)).take (sz τ)=cells τ x
  |[],i,x,h=>by simp at h
  |y::r,0,x,h=>by
   simp at h;subst h
   rw [In,Nat.zero_mul,List.drop_zero,←Yi τ y,List.take_left]
  |y::r,i+1,x,h=>by
   rw [In,Nat.succ_mul,Nat.add_comm,←List.drop_drop]
   have e:(cells τ y++Ua τ r).drop (sz τ)=Ua τ r:=by
     have:=List.drop_left (l₁:=cells τ y) (l₂:=Ua τ r)
     rwa [Yi] at this
   rw [e]
   exact Ro τ r i x (by simpa using h)
def Kd:List (Nat×PV)→Nat→Option PV
  |[],_=>none
  |(j,v)::r,i=>bif Nat.beq j i then some v else Kd r i
def So (xs:List IV):List PV:=xs.map PV.im
def F2 {α β:Type} (R:α→β→Prop) (xs:List α) (us:List β):Prop:=us.length=xs.length∧∀(i:Nat) x u,xs[i]? =some x→us[i]? =some u→R x u
theorem F2.mono {α β:Type} {R R':α→β→Prop} {xs:List α} {us:List β} (h:F2 R xs us) (hr:∀x u,R x u→R' x u):F2 R' xs us:=⟨h.1,fun i x u hx hu=>hr _ _ (h.2 i x u hx hu)⟩
theorem F2.monoI {α γ:Type} {R R':α→γ→Prop} {xs:List α} {us:List γ} (h:F2 R xs us) (hr:∀x∈xs,∀u,R x u→R' x u):F2 R' xs us:=⟨h.1,fun i x u hx hu=>hr x (List.mem_of_getElem? hx) u (h.2 i x u hx hu)⟩
theorem F2.nil {α β:Type} {R:α→β→Prop}:F2 R [] []:=⟨rfl,fun i x u hx _=>by simp at hx⟩
theorem F2.cons {α β:Type} {R:α→β→Prop} {x:α} {u:β} {xs:List α} {us:List β} (h:R x u) (hs:F2 R xs us):F2 R (x::xs) (u::us) :=
  ⟨by simp [hs.1],fun i y v hy hv=>by
    cases i with
    |zero=>simp at hy hv;subst hy hv;exact h
    |succ i=>exact hs.2 i y v (by simpa using hy) (by simpa using hv)⟩
theorem F2.nil_inv {α β:Type} {R:α→β→Prop} {us:List β} (h:F2 R [] us):us=[]:=List.length_eq_zero_iff.1 h.1
theorem F2.cons_inv {α β:Type} {R:α→β→Prop} {x:α} {xs:List α} {us:List β} (h:F2 R (x::xs) us):∃u r,us=u::r∧R x u∧F2 R xs r:=by
  cases us with
  |nil=>have:=h.1;simp at this
  |cons u r=>exact ⟨u,r,rfl,h.2 0 x u rfl rfl,by have:=h.1;simpa using this,fun i y v hy hv=>h.2 (i+1) y v (by simpa using hy) (by simpa using hv)⟩
theorem F2.get {α β:Type} {R:α→β→Prop} {xs:List α} {us:List β} (h:F2 R xs us) {i:Nat} {x:α} (hx:xs[i]? =some x):∃u,us[i]? =some u∧R x u:=by
  have hi:i<us.length:=by rw [h.1];exact (List.getElem?_eq_some_iff.1 hx).1
  exact ⟨us[i],List.getElem?_eq_getElem hi,h.2 i x _ hx (List.getElem?_eq_getElem hi)⟩
theorem F2.app {α β:Type} {R:α→β→Prop} {xs ys:List α} {us vs:List β} (h:F2 R xs us) (k:F2 R ys vs):F2 R (xs++ys) (us++vs) :=
  ⟨by simp [h.1,k.1],fun i x u hx hu=>by
    rw [List.getElem?_append] at hx hu
    rw [h.1] at hu
    split at hx
    ·rename_i hi
     rw [if_pos hi] at hu
     exact h.2 i x u hx hu
    ·rename_i hi
     rw [if_neg hi] at hu
     exact k.2 _ x u hx hu⟩
theorem F2.part {α β:Type} {R:α→β→Prop} {xs:List α} {us:List β} (h:F2 R xs us) (o n:Nat):F2 R ((xs.drop o).take n) ((us.drop o).take n) :=
  ⟨by simp [h.1],fun i x u hx hu=>by
    rw [List.getElem?_take] at hx hu
    split at hx
    ·rename_i hi
     rw [if_pos hi] at hu
     rw [List.getElem?_drop] at hx hu
     exact h.2 _ x u hx hu
    ·cases hx⟩
theorem F2.mapl {α α' γ:Type} {R:α→γ→Prop} {R':α'→γ→Prop} {f:α→α'} {xs:List α} {us:List γ} (h:F2 R xs us) (hr:∀x u,R x u→R' (f x) u):F2 R' (xs.map f) us :=
  ⟨by rw [List.length_map];exact h.1,fun i x u hx hu=>by
    rw [List.getElem?_map] at hx
    obtain ⟨y,hy,rfl⟩:=Option.map_eq_some_iff.1 hx
    exact hr _ _ (h.2 i y u hy hu)⟩
theorem F2.unmap {α α' γ:Type} {R:α'→γ→Prop} {R':α→γ→Prop} {f:α→α'} {xs:List α} {us:List γ} (h:F2 R (xs.map f) us) (hr:∀x u,R (f x) u→R' x u):F2 R' xs us :=
  ⟨by rw [h.1,List.length_map],fun i x u hx hu=>hr _ _ (h.2 i _ u (by rw [List.getElem?_map,hx];rfl) hu)⟩
def wr {α:Type} (xs:List α) (p:Nat) (ys:List α):List α:=xs.take p++ys++xs.drop (p+ys.length)
theorem F2.wr {α γ:Type} {R:α→γ→Prop} {xs ys:List α} {us vs:List γ} (h:F2 R xs us) (k:F2 R ys vs) (p:Nat):F2 R (wr xs p ys) (us.take p++vs++us.drop (p+vs.length)):=by
  have h1:=h.part 0 p
  have h2:=h.part (p+ys.length) (xs.length-(p+ys.length))
  simp only [List.drop_zero] at h1
  rw [List.take_of_length_le (by simp),List.take_of_length_le (by simp [h.1])] at h2
  rw [k.1]
  exact (h1.app k).app h2
inductive Ri (w:World) (E X:Nat→Prop):IV→Value→Prop
  |s (v:Value):Ri w E X (.s v) v
  |nil (A:Option Addr):Ri w E X .nil (.slice A 0 0)
  |sl (g:Bool) (τ:Ty) (xs:List (El τ)) (A:Option Addr) (cap b o:Nat) (us:List Value) (hA:0<xs.length→A=some ⟨b,o,none⟩∧b<w.heap.size∧¬E b∧(g=true→¬X b)) (hcap:xs.length≤cap∧cap≤maxLen) (hl:us.length=(Ua τ xs).length)
     (hc:∀(j:Nat) u,us[j]? =some u→w.cell? ⟨b,o+j,none⟩=some u) (hr:∀(j:Nat) x u,(Ua τ xs)[j]? =some x→us[j]? =some u→Ri w E X x u):Ri w E X (.sl g τ xs) (.slice A xs.length cap)
def Vb (h:List Ca) (j:Nat):Bool:=match h[j]? with|some (.vrow _ _)=>true|_=>false
def TG (_:World) (_ _:Nat→Prop) (_:TypeId) (_:Option Addr):Prop:=True
def C1 (w:World) (E X:Nat→Prop) (h:List Ca) (β:List (Nat×Nat)):PV→Value→Prop
  | .im x,u=>Ri w E X x u
  | .own k,u=>k<h.length∧Vb h k=false∧(∃A n c,u=.slice A n c)∧∀t τ (xs:List (El τ)),h[k]? =some (.row t τ xs)→∃b c A,β[k]? =some (b,c)∧u=.slice A xs.length c∧(0<c→A=some ⟨b,0,none⟩)∧(c=0→TG w E X t A)
  | .ptr k o,u=>∃b c,β[k]? =some (b,c)∧u=.pointer (some ⟨b,o,none⟩)
  | .ept k i z o,u=>k<h.length∧Vb h k=false∧∃b c,β[k]? =some (b,c)∧u=.pointer (some ⟨b,i*z+o,none⟩)∧∀t τ (xs:List (El τ)),h[k]? =some (.row t τ xs)→z=sz τ∧i<xs.length
  | .at_ xs o,u=>∃b p us,u=.pointer (some ⟨b,p+o,none⟩)∧¬E b∧b<w.heap.size∧(∀(j:Nat) v,us[j]? =some v→w.cell? ⟨b,p+j,none⟩=some v)∧F2 (Ri w E X) xs us
  |_,_=>False
def CF (w:World) (E X:Nat→Prop) (h:List Ca) (β:List (Nat×Nat)):PV→Value→Prop
  | .fn f caps,u=>∃us,u=.func (.func f) #[] us.toArray∧F2 (C1 w E X h β) caps us
  |v,u=>C1 w E X h β v u
def C2 (w:World) (E X:Nat→Prop) (h:List Ca) (β:List (Nat×Nat)):PV→Value→Prop
  | .agg cs,u=>∃us,u=.agg us.toArray∧F2 (C1 w E X h β) cs us
  |v,u=>CF w E X h β v u
def Cv (w:World) (E X:Nat→Prop) (h:List Ca) (β:List (Nat×Nat)):PV→Value→Prop
  | .tup cs,u=>∃us,u=.tuple us.toArray∧F2 (C2 w E X h β) cs us
  |v,u=>C2 w E X h β v u
def Bc:Ca→Nat→Prop
  | .dead,_=>False
  | .row _ _ _,c=>0<c
  | .vrow _ _,_=>False
  | .box _ _,_=>True
def Da (h:List Ca) (β:List (Nat×Nat)) (b:Nat):Prop:=∃(k:Nat) (o:Ca) (c:Nat),h[k]? =some o∧Bc o c∧β[k]? =some (b,c)
def Vf (w:World) (E X:Nat→Prop) (h:List Ca) (β:List (Nat×Nat)) (k:Nat):Ca→Prop
  | .dead=>True
  | .row t τ xs=>∃b c,β[k]? =some (b,c)∧(c=0→xs=[])∧c≤maxLen∧(0<c→∃us junk,w.heap[b]? =some (.cells (us++junk).toArray t (0,0))∧F2 (Ri w E X) (Ua τ xs) us∧(∀u∈us,u.oneCell'=true)∧(us++junk).length=c*sz τ)
  | .vrow _ _=>∃b,β[k]? =some (b,0)
  | .box t cs=>∃b c us,β[k]? =some (b,c)∧w.heap[b]? =some (.cells us.toArray t (0,0))∧F2 (C1 w E X h β) cs us∧∀u∈us,u.oneCell'=true
def Ty.u:Ty→Bool
  | .uls| .udb| .upk=>true
  |_=>false
def UG:(τ:Ty)→El τ→Bool
  | .uls,x=>(Ls.e x).isEmpty
  | .udb,x=>List.isEmpty (α:=Ls) x
  | .upk,x=>(Ls.e (Pk.p x)).isEmpty
  |_,_=>true
def Ca.nu:Ca→Bool
  | .row _ τ xs=>!τ.u||xs.all (UG τ)
  |_=>true
def Wf:Ty→TypeId
  | .en=>153
  | .uls=>108
  |_=>0
def Yb:Ty→Nat
  | .uls=>2
  | .upk=>3
  |_=>0
def Fi:Ty→Ty
  | .udb=>.uls
  |_=>.en
def Jc (u:Value) (n:Nat):Prop:=∃o len c,u=.slice (some ⟨n,o,none⟩) len c∧0<len
def MO (w:World) (τ:Ty) (us:List Value) (p:Nat×Nat) (σ:Ty) (u:Value):Prop :=
  (τ.u=true∧p.2=0∧us[p.1]? =some u∧σ=Fi τ∧p.1 % sz τ=Yb τ)∨(τ=.udb∧σ=.en∧∃b o len c j,us[p.1]? =some (.slice (some ⟨b,o,none⟩) len c)∧p.2=j+1∧j<len*3∧j % 3=2∧w.cell? ⟨b,o+j,none⟩=some u)
def Va (w:World) (h:List Ca) (β:List (Nat×Nat)) (k:Nat) (p:Nat×Nat) (σ:Ty) (u:Value):Prop:=∃(t:TypeId) (τ:Ty) (xs:List (El τ)) (b c:Nat) (us junk:List Value),h[k]? =some (.row t τ xs)∧β[k]? =some (b,c)∧0<c∧w.heap[b]? =some (.cells (us++junk).toArray t (0,0))∧us.length=xs.length*sz τ∧MO w τ us p σ u
def Mb (w:World) (h:List Ca) (β:List (Nat×Nat)) (k:Nat) (p:Nat×Nat) (n:Nat):Prop:=∃σ u,Va w h β k p σ u∧Jc u n
def Gg (w:World) (σ:Ty) (u:Value):Prop:=∃n len c cs,u=.slice (some ⟨n,0,none⟩) len c∧w.heap[n]? =some (.cells cs (Wf σ) (0,0))∧cs.size=c*sz σ∧len≤c
structure Pb (w:World) (E X:Nat→Prop) (h:List Ca) (β:List (Nat×Nat)):Prop where
  len:β.length=h.length
  sub:∀b,Da h β b→E b
  nx:∀b,Da h β b→¬X b
  ok:∀(k:Nat) (o:Ca),h[k]? =some o→Vf w E X h β k o
  inj:∀(j k:Nat) (o o':Ca) (b c c':Nat),h[j]? =some o→h[k]? =some o'→Bc o c→Bc o' c'→β[j]? =some (b,c)→β[k]? =some (b,c')→j=k
  uq:∀(k:Nat) (p:Nat×Nat) (k':Nat) (p':Nat×Nat) (n:Nat),Mb w h β k p n→Mb w h β k' p' n→k=k'∧p=p'
  pl:∀(k:Nat) (p:Nat×Nat) (σ:Ty) (u:Value) (n:Nat),Va w h β k p σ u→Jc u n→Gg w σ u
def Cc (h h':List Ca):Prop:=h.length≤h'.length∧(∀k t τ (xs':List (El τ)),k<h.length→h'[k]? =some (.row t τ xs')→(∃xs:List (El τ),h[k]? =some (.row t τ xs)∧xs.length=xs'.length)∨Vb h k=true)∧∀k,k<h.length→Vb h' k=true→Vb h k=true
theorem Cc.refl (h:List Ca):Cc h h:=⟨Nat.le_refl _,fun _ _ _ xs _ e=>.inl ⟨xs,e,rfl⟩,fun _ _ e=>e⟩
theorem Cc.trans {a b c:List Ca} (h:Cc a b) (k:Cc b c):Cc a c:=⟨Nat.le_trans h.1 k.1,fun i t τ xs hi e=>by
  rcases k.2.1 i t τ xs (Nat.lt_of_lt_of_le hi h.1) e with ⟨ys,e1,l1⟩|e1
  ·rcases h.2.1 i t τ ys hi e1 with ⟨zs,e2,l2⟩|e2
   ·exact .inl ⟨zs,e2,l2.trans l1⟩
   ·exact .inr e2
  ·exact .inr (h.2.2 i hi e1),fun i hi e=>h.2.2 i hi (k.2.2 i (Nat.lt_of_lt_of_le hi h.1) e)⟩
theorem Cc.push (h l:List Ca):Cc h (h++l):=⟨by simp,fun k t τ xs hk e=>.inl ⟨xs,by rwa [List.getElem?_append_left hk] at e,rfl⟩,fun k hk e=>by unfold Vb at *;rwa [List.getElem?_append_left hk] at e⟩
section
variable {w w':World} {E E' X X':Nat→Prop} {h h':List Ca} {β β':List (Nat×Nat)}
theorem Ri.keep (hk:∀b,b<w.heap.size→¬E b→w'.heap[b]? =w.heap[b]?) (hs:w.heap.size≤w'.heap.size) (hE:∀b,b<w.heap.size→¬E b→¬E' b) (hX:∀b,b<w.heap.size→¬E b→¬X b→¬X' b) {x:IV} {u:Value} (h:Ri w E X x u):Ri w' E' X' x u:=by
  induction h with
  |s v=>exact .s v
  |nil A=>exact .nil A
  |sl g τ xs A cap b o us hA hcap hl hc hr ih =>
   refine .sl g τ xs A cap b o us (fun h=>⟨(hA h).1,Nat.lt_of_lt_of_le (hA h).2.1 hs,hE b (hA h).2.1 (hA h).2.2.1,fun e=>hX b (hA h).2.1 (hA h).2.2.1 ((hA h).2.2.2 e)⟩) hcap hl (fun j u hu=>?_) ih
   have hn:0<xs.length:=by
     rcases Nat.eq_zero_or_pos xs.length with hn|hn
     ·have h0:=Kb τ xs
      rw [hn,Nat.zero_mul] at h0
      have:us=[]:=List.length_eq_zero_iff.1 (by rw [hl,h0])
      rw [this] at hu;simp at hu
     ·exact hn
   exact (World.cell?_of_block (a:=⟨b,o+j,none⟩) (hk b (hA hn).2.1 (hA hn).2.2.1)).trans (hc j u hu)
theorem C1.keep (hk:∀b,b<w.heap.size→¬E b→w'.heap[b]? =w.heap[b]?) (hs:w.heap.size≤w'.heap.size) (hE:∀b,b<w.heap.size→¬E b→¬E' b) (hX:∀b,b<w.heap.size→¬E b→¬X b→¬X' b) (hh:Cc h h') (hβ:∀(k:Nat) p,β[k]? =some p→β'[k]? =some p) {v:PV} {u:Value} (hc:C1 w E X h β v u):C1 w' E' X' h' β' v u:=by
  cases v with
  |im x=>exact Ri.keep hk hs hE hX hc
  |own k =>
   obtain ⟨h0,hv,h1,h2⟩:=hc
   refine ⟨Nat.lt_of_lt_of_le h0 hh.1,(Bool.eq_false_iff.2 fun e=>by rw [hh.2.2 k h0 e] at hv;cases hv),h1,fun t τ xs e=>?_⟩
   obtain ⟨ys,e1,e2⟩:=(hh.2.1 k t τ xs h0 e).resolve_right (by rw [hv];simp)
   obtain ⟨b,c,A,h3,h4,h5,h6⟩:=h2 t τ ys e1
   refine ⟨b,c,A,hβ _ _ h3,by rw [←e2];exact h4,h5,fun _=>trivial⟩
  |ptr k o=>obtain ⟨b,c,h1,h2⟩:=hc;exact ⟨b,c,hβ _ _ h1,h2⟩
  |ept k i z o =>
   obtain ⟨h0,hv,b,c,h1,h2,h3⟩:=hc
   refine ⟨Nat.lt_of_lt_of_le h0 hh.1,(Bool.eq_false_iff.2 fun e=>by rw [hh.2.2 k h0 e] at hv;cases hv),b,c,hβ _ _ h1,h2,fun t τ xs e=>?_⟩
   obtain ⟨ys,e1,e2⟩:=(hh.2.1 k t τ xs h0 e).resolve_right (by rw [hv];simp)
   have:=h3 t τ ys e1
   exact ⟨this.1,by omega⟩
  |at_ xs o =>
   obtain ⟨b,p,us,h1,h2,h3,h4,h5⟩:=hc
   exact ⟨b,p,us,h1,hE b h3 h2,Nat.lt_of_lt_of_le h3 hs,fun j v hv=>(World.cell?_of_block (a:=⟨b,p+j,none⟩) (hk b h3 h2)).trans (h4 j v hv),h5.mono fun x u h=>h.keep hk hs hE hX⟩
  |fn f caps=>exact hc.elim
  |agg cs=>exact hc.elim
  |tup cs=>exact hc.elim
theorem Cv.lift {w w':World} {E E' X X':Nat→Prop} {h h':List Ca} {β β':List (Nat×Nat)} (H:∀v u,C1 w E X h β v u→C1 w' E' X' h' β' v u) {v:PV} {u:Value} (hc:Cv w E X h β v u):Cv w' E' X' h' β' v u:=by
  have hF:∀v u,CF w E X h β v u→CF w' E' X' h' β' v u:=fun v u hc=>by
    cases v with
    |fn f caps=>obtain ⟨us,h1,h2⟩:=hc;exact ⟨us,h1,h2.mono H⟩
    |im x=>exact H (.im x) u hc
    |own k=>exact H (.own k) u hc
    |ptr k o=>exact H (.ptr k o) u hc
    |ept k i z o=>exact H (.ept k i z o) u hc
    |at_ xs o=>exact H (.at_ xs o) u hc
    |agg cs=>exact hc.elim
    |tup cs=>exact hc.elim
  have h2:∀v u,C2 w E X h β v u→C2 w' E' X' h' β' v u:=fun v u hc=>by
    cases v with
    |agg cs=>obtain ⟨us,h1,h2⟩:=hc;exact ⟨us,h1,h2.mono H⟩
    |fn f caps=>exact hF (.fn f caps) u hc
    |im x=>exact hF (.im x) u hc
    |own k=>exact hF (.own k) u hc
    |ptr k o=>exact hF (.ptr k o) u hc
    |ept k i z o=>exact hF (.ept k i z o) u hc
    |at_ xs o=>exact hF (.at_ xs o) u hc
    |tup cs=>exact hc.elim
  cases v with
  |tup cs=>obtain ⟨us,h1,h3⟩:=hc;exact ⟨us,h1,h3.mono h2⟩
  |agg cs=>exact h2 (.agg cs) u hc
  |fn f caps=>exact h2 (.fn f caps) u hc
  |im x=>exact h2 (.im x) u hc
  |own k=>exact h2 (.own k) u hc
  |ptr k o=>exact h2 (.ptr k o) u hc
  |ept k i z o=>exact h2 (.ept k i z o) u hc
  |at_ xs o=>exact h2 (.at_ xs o) u hc
theorem Cv.keep (hk:∀b,b<w.heap.size→¬E b→w'.heap[b]? =w.heap[b]?) (hs:w.heap.size≤w'.heap.size) (hE:∀b,b<w.heap.size→¬E b→¬E' b) (hX:∀b,b<w.heap.size→¬E b→¬X b→¬X' b) (hh:Cc h h') (hβ:∀(k:Nat) p,β[k]? =some p→β'[k]? =some p) {v:PV} {u:Value} (hc:Cv w E X h β v u):Cv w' E' X' h' β' v u :=
  hc.lift fun _ _ h=>h.keep hk hs hE hX hh hβ
def Te:PV→Bool
  | .im (.s v)=>v.oneCell'
  | .im .nil| .im (.sl _ _ _)=>true
  | .own _| .ptr _ _| .ept _ _ _ _| .at_ _ _=>true
  |_=>false
theorem C1.one {v:PV} {u:Value} (hc:C1 w E X h β v u) (hv:Te v=true):u.oneCell'=true:=by
  cases v with
  |im x =>
   cases hc with
   |s v=>exact hv
   |nil=>rfl
   |sl=>rfl
  |own k=>obtain ⟨_,_,⟨A,n,c,rfl⟩,_⟩:=hc;rfl
  |ptr k o=>obtain ⟨b,c,_,rfl⟩:=hc;rfl
  |ept k i z o=>obtain ⟨_,_,b,c,_,rfl,_⟩:=hc;rfl
  |at_ xs o=>obtain ⟨b,p,us,rfl,_⟩:=hc;rfl
  |fn f caps=>exact hc.elim
  |agg cs=>exact hc.elim
  |tup cs=>exact hc.elim
theorem C1.cv {v:PV} {u:Value} (hc:C1 w E X h β v u):Cv w E X h β v u:=by cases v<;>first|exact hc|exact hc.elim
theorem Cv.c1 {v:PV} {u:Value} (hc:Cv w E X h β v u) (hv:Te v=true):C1 w E X h β v u:=by cases v<;>first|exact hc|cases hv
theorem C1.c2 {v:PV} {u:Value} (hc:C1 w E X h β v u):C2 w E X h β v u:=by cases v<;>first|exact hc|exact hc.elim
end
structure Gb (w:World) (h:List Ca) (β:List (Nat×Nat)) (w':World) (h':List Ca) (β':List (Nat×Nat)):Prop where
  os:w'.os=w.os
  tape:w'.tape=w.tape
  output:w'.output=w.output
  size:w.heap.size≤w'.heap.size
  block:∀b,b<w.heap.size→¬Da h β b→w'.heap[b]? =w.heap[b]?
  new:∀b,b<w.heap.size→Da h' β' b→Da h β b
  beta:∀(k:Nat) p,β[k]? =some p→β'[k]? =some p
  hle:Cc h h'
  fp:∀(k:Nat) (p:Nat×Nat) (n:Nat),n<w.heap.size→Mb w' h' β' k p n→(∃k p,Mb w h β k p n)∨Da h β n
theorem Gb.refl (w:World) (h:List Ca) (β:List (Nat×Nat)):Gb w h β w h β:=⟨rfl,rfl,rfl,Nat.le_refl _,fun _ _ _=>rfl,fun _ _ h=>h,fun _ _ h=>h,Cc.refl _,fun k p _ _ h=>.inl ⟨k,p,h⟩⟩
theorem Gb.trans {w w' w'':World} {h h' h'':List Ca} {β β' β'':List (Nat×Nat)} (a:Gb w h β w' h' β') (b:Gb w' h' β' w'' h'' β''):Gb w h β w'' h'' β'' :=
  ⟨b.os.trans a.os,b.tape.trans a.tape,b.output.trans a.output,Nat.le_trans a.size b.size,
    fun k hk hn=>(b.block k (Nat.lt_of_lt_of_le hk a.size) (fun e=>hn (a.new k hk e))).trans (a.block k hk hn),
    fun k hk e=>a.new k hk (b.new k (Nat.lt_of_lt_of_le hk a.size) e),fun k p h=>b.beta k p (a.beta k p h),a.hle.trans b.hle,fun k p n hn ho=>by
      rcases b.fp k p n (Nat.lt_of_lt_of_le hn a.size) ho with ⟨k',p',h'⟩|h'
      ·exact a.fp k' p' n hn h'
      ·exact .inr (a.new n hn h')⟩
theorem Da.lt {w:World} {E X:Nat→Prop} {h:List Ca} {β:List (Nat×Nat)} {b:Nat} (hh:Pb w E X h β) (hl:Da h β b):b<w.heap.size:=by
  obtain ⟨k,o,c,h1,h2,h3⟩:=hl
  have h4:=hh.ok k o h1
  cases o with
  |dead=>exact h2.elim
  |vrow t τ=>exact h2.elim
  |row t τ xs =>
   obtain ⟨b',c',h5,_,_,h6⟩:=h4
   rw [h3] at h5
   injection h5 with h5;injection h5 with e1 e2
   subst e1 e2
   obtain ⟨us,junk,h7,_⟩:=h6 h2
   exact (Array.getElem?_eq_some_iff.1 h7).1
  |box t cs =>
   obtain ⟨b',c',us,h5,h6,_⟩:=h4
   rw [h3] at h5
   injection h5 with h5;injection h5 with e1 e2
   subst e1 e2
   exact (Array.getElem?_eq_some_iff.1 h6).1
section
variable {w w':World} {E X:Nat→Prop} {h h':List Ca} {β β':List (Nat×Nat)}
theorem Qf {α:Type} {a b c d:List α} (e:a++b=c++d) (hl:a.length=c.length):a=c:=(List.append_inj e hl).1
theorem Ul (τ:Ty) (hu:τ.u=true∨τ=.ls) (xs:List (El τ)):∀x∈Ua τ xs,(∃z,x=iI z)∨(∃(σ:Ty) (ys:List (El σ)),x=.sl true σ ys∧∀y∈Ua σ ys,σ=.en→∃z,y=iI z):=fun x hx=>by
  unfold Ua at hx
  obtain ⟨y,_,hy⟩:=List.mem_flatMap.1 hx
  have hen:∀(ys:List (El .en)),∀y∈Ua .en ys,Ty.en=.en→∃z,y=iI z:=fun ys y hy _=>by
    unfold Ua at hy
    obtain ⟨q,_,hq⟩:=List.mem_flatMap.1 hy
    simp [cells] at hq
    rcases hq with rfl|rfl<;>exact ⟨_,rfl⟩
  cases τ<;>simp [Ty.u] at hu<;>simp [cells] at hy
  ·rcases hy with rfl|rfl|rfl
   ·exact .inl ⟨_,rfl⟩
   ·exact .inl ⟨_,rfl⟩
   ·exact .inr ⟨_,_,rfl,hen _⟩
  ·rcases hy with rfl|rfl|rfl
   ·exact .inl ⟨_,rfl⟩
   ·exact .inl ⟨_,rfl⟩
   ·exact .inr ⟨_,_,rfl,hen _⟩
  ·subst hy;exact .inr ⟨_,_,rfl,fun _ _ h=>by cases h⟩
  ·rcases hy with rfl|rfl|rfl|rfl
   ·exact .inl ⟨_,rfl⟩
   ·exact .inl ⟨_,rfl⟩
   ·exact .inl ⟨_,rfl⟩
   ·exact .inr ⟨_,_,rfl,hen _⟩
theorem VG {x:IV} {u:Value} {n:Nat} (hx:(∃z,x=iI z)∨∃(σ:Ty) (ys:List (El σ)),x=.sl true σ ys) (hr:Ri w E X x u) (hs:Jc u n):n<w.heap.size∧¬E n:=by
  obtain ⟨o,len,c,rfl,hl⟩:=hs
  rcases hx with ⟨z,rfl⟩|⟨σ,ys,rfl⟩
  ·cases hr
  ·cases hr with
   |sl _ _ _ A cap b o' us hA hcap hl' hc hr =>
    obtain ⟨e,h1,h2,_⟩:=hA hl
    injection e with e
    injection e with e1 e2
    subst e1
    exact ⟨h1,h2⟩
theorem De {k:Nat} {p:Nat×Nat} {σ:Ty} {u:Value} {n:Nat} (hh:∀(k:Nat) (o:Ca),h[k]? =some o→Vf w E X h β k o) (ho:Va w h β k p σ u) (hs:Jc u n):n<w.heap.size∧¬E n:=by
  obtain ⟨t,τ,xs,b,c,us,junk,h1,h2,h3,h4,h5,h6⟩:=ho
  obtain ⟨b',c',h7,_,_,h8⟩:=hh k _ h1
  rw [h2] at h7
  injection h7 with h7;injection h7 with e1 e2
  subst e1 e2
  obtain ⟨us',junk',h9,h10,_⟩:=h8 h3
  rw [h4] at h9
  injection h9 with h9;injection h9 with e1
  have e1:us++junk=us'++junk':=by simpa using congrArg Array.toList e1
  have:=Qf e1 (by rw [h5,h10.1,Kb])
  subst this
  rcases h6 with ⟨g1,g2,g3,g4⟩|⟨rfl,rfl,b1,o1,len,c1,j,g3,g4,g5,_,g6⟩
  ·have hl:p.1<(Ua τ xs).length:=by rw [←h10.1];exact (List.getElem?_eq_some_iff.1 g3).1
   have hx:=List.getElem?_eq_getElem hl
   rcases Ul τ (.inl g1) xs _ (List.mem_of_getElem? hx) with ⟨z,e⟩|⟨σ',ys,e,_⟩
   ·exact VG (.inl ⟨z,e⟩) (h10.2 _ _ _ hx g3) hs
   ·exact VG (.inr ⟨_,_,e⟩) (h10.2 _ _ _ hx g3) hs
  ·have hl:p.1<(Ua .udb xs).length:=by rw [←h10.1];exact (List.getElem?_eq_some_iff.1 g3).1
   have hx:=List.getElem?_eq_getElem hl
   have hr:=h10.2 _ _ _ hx g3
   have hm:=List.mem_of_getElem? hx
   generalize (Ua .udb xs)[p.1]=x at *
   have hx':∃ys:List (El .ls),x=.sl true .ls ys:=by
     unfold Ua at hm
     obtain ⟨y,_,hy⟩:=List.mem_flatMap.1 hm
     simp [cells] at hy
     exact ⟨_,hy⟩
   obtain ⟨ys,rfl⟩:=hx'
   cases hr with
   |sl _ _ _ A cap b o' us2 hA hcap hl' hc hr =>
    obtain ⟨e,q1,q2,_⟩:=hA (by omega)
    injection e with e
    injection e with e1 e2
    subst e1 e2
    have hj:j<(Ua .ls ys).length:=by rw [Kb];exact g5
    have hj2:=List.getElem?_eq_getElem hj
    have hju:j<us2.length:=by rw [hl'];exact hj
    have hu2:=List.getElem?_eq_getElem hju
    have:=hc j _ hu2
    rw [g6] at this
    injection this with this
    rcases Ul .ls (.inr rfl) ys _ (List.mem_of_getElem? hj2) with ⟨z,e⟩|⟨σ',zs,e,_⟩
    ·exact VG (.inl ⟨z,e⟩) (this▸hr j _ _ hj2 hu2) hs
    ·exact VG (.inr ⟨_,_,e⟩) (this▸hr j _ _ hj2 hu2) hs
theorem Pb.occ (hh:Pb w E X h β) {k:Nat} {p:Nat×Nat} {n:Nat} (ho:Mb w h β k p n):n<w.heap.size∧¬E n:=by
  obtain ⟨σ,u,h1,h2⟩:=ho
  exact De hh.ok h1 h2
theorem Tu {k:Nat} {p:Nat×Nat} {σ:Ty} {u:Value} {o:Ca} (hh:Pb w E X h β) (hk:h[k]? =some o) (hk':h'[k]? =some o) (hβ:∀q,β[k]? =some q→β'[k]? =some q) (hb:∀b c,β[k]? =some (b,c)→0<c→Bc o c→w'.heap[b]? =w.heap[b]?) (hE:∀b,b<w.heap.size→¬E b→w'.heap[b]? =w.heap[b]?) (ho:Va w' h' β' k p σ u):Va w h β k p σ u:=by
  obtain ⟨t,τ,xs,b,c,us,junk,h1,h2,h3,h4,h5,h6⟩:=ho
  rw [hk'] at h1
  injection h1 with h1
  subst h1
  obtain ⟨b',c',h7,_,_,h8⟩:=hh.ok k _ hk
  have:=hβ _ h7
  rw [h2] at this
  injection this with this;injection this with e1 e2
  subst e1 e2
  rw [hb _ _ h7 h3 h3] at h4
  refine ⟨t,τ,xs,b,c,us,junk,hk,h7,h3,h4,h5,?_⟩
  obtain ⟨us',junk',h9,h10,_⟩:=h8 h3
  rw [h4] at h9
  injection h9 with h9;injection h9 with e1
  have e1:us++junk=us'++junk':=by simpa using congrArg Array.toList e1
  have:=Qf e1 (by rw [h5,h10.1,Kb])
  subst this
  rcases h6 with g|⟨rfl,rfl,b1,o1,len,c1,j,g3,g4,g5,g7,g6⟩
  ·exact .inl g
  ·refine .inr ⟨rfl,rfl,b1,o1,len,c1,j,g3,g4,g5,g7,?_⟩
   have hn:=De (n:=b1) (p:=(p.1,0)) (σ:=.uls) hh.ok ⟨t,.udb,xs,b,c,us,junk,hk,h7,h3,h4,h5,.inl ⟨rfl,rfl,g3,rfl,by simp [sz,Yb,Nat.mod_one]⟩⟩ ⟨o1,len,c1,rfl,by omega⟩
   exact (World.cell?_of_block (a:=⟨b1,o1+j,none⟩) (hE b1 hn.1 hn.2)).symm.trans g6
theorem Gg.keep {σ:Ty} {u:Value} {n:Nat} (hp:Gg w σ u) (hs:Jc u n) (hn:w'.heap[n]? =w.heap[n]?):Gg w' σ u:=by
  obtain ⟨m,len,c,cs,rfl,h1,h2⟩:=hp
  obtain ⟨o,len',c',e,_⟩:=hs
  injection e with e;injection e with e;injection e with e
  subst e
  exact ⟨m,len,c,cs,rfl,hn.trans h1,h2⟩
theorem iS (τ:Ty) (hu:τ.u=true) (xs:List (El τ)) (hn:xs.all (UG τ)=true):∀x∈Ua τ xs,(∃z,x=iI z)∨∃(σ:Ty),x=.sl true σ []:=fun x hx=>by
  unfold Ua at hx
  obtain ⟨y,hy0,hy⟩:=List.mem_flatMap.1 hx
  have hn:=List.all_eq_true.1 hn y hy0
  cases τ<;>simp [Ty.u] at hu<;>simp [cells] at hy<;>simp [UG] at hn
  ·rcases hy with rfl|rfl|rfl
   ·exact .inl ⟨_,rfl⟩
   ·exact .inl ⟨_,rfl⟩
   ·rw [hn];exact .inr ⟨_,rfl⟩
  ·subst hy;rw [hn];exact .inr ⟨_,rfl⟩
  ·rcases hy with rfl|rfl|rfl|rfl
   ·exact .inl ⟨_,rfl⟩
   ·exact .inl ⟨_,rfl⟩
   ·exact .inl ⟨_,rfl⟩
   ·rw [hn];exact .inr ⟨_,rfl⟩
theorem NO {k:Nat} {p:Nat×Nat} {σ:Ty} {u:Value} {n:Nat} {o:Ca} (hk:h[k]? =some o) (hK:Vf w E X h β k o) (hn:o.nu=true) (ho:Va w h β k p σ u) (hs:Jc u n):False:=by
  obtain ⟨t,τ,xs,b,c,us,junk,h1,h2,h3,h4,h5,h6⟩:=ho
  rw [hk] at h1
  injection h1 with h1
  subst h1
  have hu:τ.u=true:=by
    rcases h6 with ⟨g,_⟩|⟨rfl,_⟩
    ·exact g
    ·rfl
  simp only [Ca.nu,hu,Bool.not_true,Bool.false_or] at hn
  obtain ⟨b',c',h7,_,_,h8⟩:=hK
  rw [h2] at h7
  injection h7 with h7;injection h7 with e1 e2
  subst e1 e2
  obtain ⟨us',junk',h9,h10,_⟩:=h8 h3
  rw [h4] at h9
  injection h9 with h9;injection h9 with e1
  have e1:us++junk=us'++junk':=by simpa using congrArg Array.toList e1
  have:=Qf e1 (by rw [h5,h10.1,Kb])
  subst this
  have key:∀v m,us[p.1]? =some v→Jc v m→False:=fun v m hv hs=>by
    obtain ⟨o1,len,c1,rfl,hl⟩:=hs
    have hlt:p.1<(Ua τ xs).length:=by rw [←h10.1];exact (List.getElem?_eq_some_iff.1 hv).1
    have hx:=List.getElem?_eq_getElem hlt
    have hr:=h10.2 _ _ _ hx hv
    rcases iS τ hu xs hn _ (List.mem_of_getElem? hx) with ⟨z,e⟩|⟨σ',e⟩
    ·rw [e] at hr;cases hr
    ·rw [e] at hr
     cases hr with
     |sl=>simp at hl
  rcases h6 with ⟨_,_,g3,_⟩|⟨rfl,rfl,b1,o1,len,c1,j,g3,g4,g5,_,g6⟩
  ·exact key u n g3 hs
  ·exact key _ b1 g3 ⟨o1,len,c1,rfl,by omega⟩
end
def V2:List (Nat×Array Value):=[]
def Gi (w:World) (h:List Ca) (β:List (Nat×Nat)):Prop:=∀g cs,(g,cs)∈V2→¬Da h β g∧∃t z,w.heap[g]? =some (.cells cs t z)
theorem Gi.step {w w':World} {h h':List Ca} {β β':List (Nat×Nat)} (H:Gi w h β) (S:Gb w h β w' h' β'):Gi w' h' β':=fun g cs hg=>by
  obtain ⟨h1,t,z,h2⟩:=H g cs hg
  have hlt:g<w.heap.size:=(Array.getElem?_eq_some_iff.1 h2).1
  exact ⟨fun hl=>h1 (S.new g hlt hl),t,z,by rw [S.block g hlt h1];exact h2⟩
theorem Gi.sub {w:World} {h h':List Ca} {β β':List (Nat×Nat)} (H:Gi w h β) (hs:∀b,Da h' β' b→Da h β b):Gi w h' β':=fun g cs hg=>⟨fun hl=>(H g cs hg).1 (hs g hl),(H g cs hg).2⟩
structure Pc where
  w:World
  h:List Ca
  β:List (Nat×Nat)
  N:Nat
  X:Nat→Prop
structure Jb (C:Pc) (E:Nat→Prop) (st:St) (a:Act) (w:World) (β:List (Nat×Nat)):Prop where
  cl:C.β.length=C.h.length∧Gi C.w C.h C.β
  xw:∀b,C.X b→b<C.w.heap.size
  step:Gb C.w C.h C.β w st.h β
  heap:Pb w E C.X st.h β
  sz:a.tmps.size=C.N
  df:a.defers=[]
  tm:∀i v,Kd st.t i=some v→∃u,a.tmps[i]? =some u∧Cv w E C.X st.h β v u
abbrev Oa (C:Pc) (st:St) (a:Act) (w:World) (β:List (Nat×Nat)):Prop:=Jb C (Da st.h β) st a w β
def Vl:Value→PV
  | .slice none 0 0=>.im .nil
  |v=>.im (.s v)
def Za (t:List (Nat×PV)):Operand→Option PV
  | .tmp i=>Kd t i
  | .const v=>some (Vl v)
  | .func f=>some (.fn f [])
  | .global _=>none
section
variable {C:Pc} {E:Nat→Prop} {st:St} {a:Act} {w w':World} {β β':List (Nat×Nat)}
theorem Z2 {X:Nat→Prop} {h:List Ca} (v:Value):Cv w E X h β (Vl v) v:=by
  unfold Vl
  split
  ·exact Ri.nil none
  ·exact Ri.s v
theorem Jb.op (S:Jb C E st a w β) {x:Operand} {v:PV} (h:Za st.t x=some v):Cv w E C.X st.h β v (a.eval x):=by
  cases x with
  |tmp i =>
   obtain ⟨u,h1,h2⟩:=S.tm i v h
   have e:a.eval (.tmp i)=u:=by simp [Act.eval,Array.getD_eq_getD_getElem?,h1]
   rw [e];exact h2
  |const c=>simp only [Za,Option.some.injEq] at h;subst h;exact Z2 c
  |func f=>simp only [Za,Option.some.injEq] at h;subst h;exact ⟨[],rfl,F2.nil⟩
  |global g=>cases h
theorem Nh {X:Nat→Prop} {h:List Ca} {v u:Value} (hc:Cv w E X h β (.im (.s v)) u):u=v:=by
  cases hc;rfl
theorem Jb.ev (S:Jb C E st a w β) {x:Operand} {v:Value} (h:Za st.t x=some (.im (.s v))):a.eval x=v:=Nh (S.op h)
end
end Go.Proofs.YtknkhdjhongklaaGreat
namespace Go.Proofs.YtknkhdjhongklaaGreat
open Go.RowKit
def Xl:Ty→List Value
  | .int=>[.int .i64 0]
  | .bool=>[.bool false]
  | .u8=>[.int .u8 0]
  | .str=>[.string ByteArray.empty]
  | .lk=>[.int .i64 0,.int .i64 0,.int .i64 0]
  | .gr=>[.int .i64 0,.slice none 0 0]
  | .en| .ev| .lb=>[.int .i64 0,.int .i64 0]
  | .ls| .uls=>[.int .i64 0,.int .i64 0,.slice none 0 0]
  | .db| .udb=>[.slice none 0 0]
  | .pk| .upk=>[.int .i64 0,.int .i64 0,.int .i64 0,.slice none 0 0]
def Cd:List Int→List Int→Bool
  |[],[]=>true
  |a::r,b::s=>decide (a=b)&&Cd r s
  |_,_=>false
structure TI where
  agg:Bool
  size:Nat
  fields:List (Nat×Nat)
  elem:Option (TypeId×Ty×Nat)
  zero:Option (List Value)
  prim:Nat
  ik:Option IntKind
  fg:List Bool
structure Nb (P:Program) (t:TypeId) (i:TI):Prop where
  sz:∀w,(sizeOf t).run P w=.ok i.size w
  ag:∀w,(isAgg t).run P w=.ok i.agg w
  one:i.agg=false→i.size=1
  fld:∀(j off fs:Nat),i.fields[j]? =some (off,fs)→∃fl f,(∀w,(underlying t).run P w=.ok (.struct fl) w)∧fl[j]? =some f∧f.offset=off∧(∀w,(sizeOf f.type).run P w=.ok fs w)∧fs≠0
  el:∀e τ bytes,i.elem=some (e,τ,bytes)→P.underlying t=some (.slice e)∧(∃inf z,P.info? e=some inf∧inf.zero=some z∧inf.size=Go.Proofs.YtknkhdjhongklaaGreat.sz τ∧inf.bytes=bytes∧z.cells.size=Go.Proofs.YtknkhdjhongklaaGreat.sz τ)∧bytes≤1000
  elz:∀e τ bytes inf z,i.elem=some (e,τ,bytes)→P.info? e=some inf→inf.zero=some z→z.cells.toList=Xl τ
  zero:∀zs,i.zero=some zs→∃z,(∀w,(zeroValue t).run P w=.ok z w)∧z.cells.toList=zs∧∀u∈zs,u.oneCell'=true
  places:∀zs,i.zero=some zs→i.agg=true→∃fs,(∀w,(underlying t).run P w=.ok (.struct fs) w)∧∀w,(fs.mapM fun f=>do pure (f.offset,←sizeOf f.type):Sem (Array (Nat×Nat))).run P w=.ok i.fields.toArray w
  bool:i.prim=1→P.underlying t=some .bool
  int:∀k,i.ik=some k→∀w,(underlying t).run P w=.ok (.int k) w
  str:i.prim=2→P.underlying t=some .string
  ieq:i.prim=3→∀(as bs:List Int),as.length=i.size→bs.length=i.size→∀x y w,(do eqGuard .eql t x y (.agg (as.map (Value.int .i64)).toArray) (.agg (bs.map (Value.int .i64)).toArray);binOp .eql t (.agg (as.map (Value.int .i64)).toArray) (.agg (bs.map (Value.int .i64)).toArray):Sem Value).run P w=.ok (.bool (Cd as bs)) w
  ine:i.prim=3→∀(as bs:List Int),as.length=i.size→bs.length=i.size→∀x y w,(do eqGuard .neq t x y (.agg (as.map (Value.int .i64)).toArray) (.agg (bs.map (Value.int .i64)).toArray);binOp .neq t (.agg (as.map (Value.int .i64)).toArray) (.agg (bs.map (Value.int .i64)).toArray):Sem Value).run P w=.ok (.bool (!Cd as bs)) w
  fag:∀(j off fs:Nat) (b:Bool),i.fields[j]? =some (off,fs)→i.fg[j]? =some b→∃fl f,(∀w,(underlying t).run P w=.ok (.struct fl) w)∧fl[j]? =some f∧f.offset=off∧(∀w,(isAgg f.type).run P w=.ok b w)∧(∀w,(sizeOf f.type).run P w=.ok fs w)
def Qb (P:Program) (tab:TypeId→Option TI):Prop:=∀t i,tab t=some i→Nb P t i
def Gc (w w':World) (E:Nat→Prop) (h:List Ca) (β:List (Nat×Nat)):Prop:=w.heap.size≤w'.heap.size∧∀b,b<w.heap.size→(¬E b∨Da h β b)→w'.heap[b]? =w.heap[b]?
theorem Gc.refl (w:World) (E:Nat→Prop) (h:List Ca) (β:List (Nat×Nat)):Gc w w E h β:=⟨Nat.le_refl _,fun _ _ _=>rfl⟩
def Jx (P:Program) (st:St) (o:Oper) (v:PV):Prop:=∀C E a w β,Jb C E st a w β→∃u,Cv w E C.X st.h β v u∧∀w',Gc w w' E st.h β→(execOp a.eval o).run P w'=.ok (.value u) w'
def Ue (P:Program) (st:St) (o:Oper) (v:PV):Prop:=∀C E a w β,Jb C E st a w β→∃u,Cv w E C.X st.h β v u∧∀w':World,True→(execOp a.eval o).run P w'=.ok (.value u) w'
theorem Ue.val {P:Program} {st:St} {o:Oper} {v:PV} (h:Ue P st o v):Jx P st o v:=fun C E a w β S=>by
  obtain ⟨u,h1,h2⟩:=h C E a w β S
  exact ⟨u,h1,fun w' _=>h2 w' trivial⟩
def Kf:IntKind→Int→Int
  | .i64,x=>wrap64 x
  |k,x=>k.wrap x
theorem WG (k:IntKind) (x:Int):Kf k x=k.wrap x:=by cases k<;>first|rfl|simp [Kf,wrap64,IntKind.wrap_i64]
def Kn:IntKind→IntKind→Bool
  | .i8,.i8| .i16,.i16| .i32,.i32| .i64,.i64| .u8,.u8| .u16,.u16| .u32,.u32| .u64,.u64=>true
  |_,_=>false
theorem OO {a b:IntKind} (h:Kn a b=true):a=b:=by cases a<;>cases b<;>first|rfl|cases h
def D3 (k:IntKind) (a b:Int):Int:=Kf k ((BitVec.ofInt k.bits a &&& BitVec.ofInt k.bits b).toNat:Int)
def E3 (k:IntKind) (a b:Int):Int:=Kf k ((BitVec.ofInt k.bits a ||| BitVec.ofInt k.bits b).toNat:Int)
def F3 (k:IntKind) (a b:Int):Int:=Kf k ((BitVec.ofInt k.bits a ^^^ BitVec.ofInt k.bits b).toNat:Int)
def G3 (k:IntKind) (a b:Int):Int:=Kf k (a*2 ^ (min b.toNat k.bits))
def Qk (k:IntKind) (a b:Int):Int:=a.fdiv (2 ^ (min b.toNat k.bits))
def PO (op:BinOp) (k:IntKind) (a b:Int):Option (Bool×Value) :=
  match op with
  | .add=>some (true,.int k (Kf k (a+b)))
  | .sub=>some (true,.int k (Kf k (a-b)))
  | .mul=>some (true,.int k (Kf k (a*b)))
  | .lss=>some (true,.bool (decide (a<b)))
  | .leq=>some (true,.bool (decide (a≤b)))
  | .gtr=>some (true,.bool (decide (b<a)))
  | .geq=>some (true,.bool (decide (b≤a)))
  | .eql=>some (true,.bool (decide (a=b)))
  | .neq=>some (true,.bool (!decide (a=b)))
  | .and=>some (true,.int k (D3 k a b))
  | .or=>some (true,.int k (E3 k a b))
  | .xor=>some (true,.int k (F3 k a b))
  |_=>none
theorem iT {P:Program} {op:BinOp} {k:IntKind} {a b:Int} {c:Bool} {r:Value} (h:PO op k a b=some (c,r)) (t:TypeId) (x y:Operand) (w:World):(do eqGuard op t x y (.int k a) (.int k b);binOp op t (.int k a) (.int k b):Sem Value).run P w=.ok r w:=by
  cases op<;>simp only [PO,Option.some.injEq,Prod.mk.injEq] at h<;>first|(cases h;done)|skip
  all_goals obtain ⟨_,rfl⟩:=h
  all_goals first
    |(simp [eqGuard,binOp,Op.intArith,WG];done)
    |(simp [eqGuard,binOp,Op.intBits,D3,E3,F3,WG];done)
    |(simp [eqGuard,binOp,Op.intCmp];done)
    |(simp [eqGuard,binOp,Op.intCmp];rfl)
    |(simp [eqGuard,binOp,Op.intCmp];exact Bool.eq_iff_iff.2 (by simp))
def QO (op:BinOp) (a b:Int):Option (Bool×Value) :=
  match op with
  | .quo=>some (!decide (b=0),.int .i64 (wrap64 (a.tdiv b)))
  | .rem=>some (!decide (b=0),.int .i64 (a.tmod b))
  |_=>none
theorem iU {P:Program} {op:BinOp} {a b:Int} {c:Bool} {r:Value} (h:QO op a b=some (c,r)) (hc:c=true) (t:TypeId) (x y:Operand) (w:World):(do eqGuard op t x y (.int .i64 a) (.int .i64 b);binOp op t (.int .i64 a) (.int .i64 b):Sem Value).run P w=.ok r w:=by
  subst hc
  cases op<;>simp only [QO,Option.some.injEq,Prod.mk.injEq] at h<;>first|(cases h;done)|skip
  all_goals
    obtain ⟨h0,rfl⟩:=h
    have h0:b≠0:=by simpa using h0
    simp [eqGuard,binOp,Op.intDiv,h0,wrap64,IntKind.wrap_i64]
def RO (op:BinOp) (k:IntKind) (a b:Int):Option (Bool×Value) :=
  match op with
  | .shl=>some (!decide (b<0),.int k (G3 k a b))
  | .shr=>some (!decide (b<0),.int k (Qk k a b))
  |_=>none
theorem iV {P:Program} {op:BinOp} {k k':IntKind} {a b:Int} {c:Bool} {r:Value} (h:RO op k a b=some (c,r)) (hc:c=true) (t:TypeId) (x y:Operand) (w:World):(do eqGuard op t x y (.int k a) (.int k' b);binOp op t (.int k a) (.int k' b):Sem Value).run P w=.ok r w:=by
  subst hc
  cases op<;>simp only [RO,Option.some.injEq,Prod.mk.injEq] at h<;>first|(cases h;done)|skip
  all_goals
    obtain ⟨h0,rfl⟩:=h
    have h0:¬b<0:=by simpa using h0
    simp [eqGuard,binOp,Op.shift,h0,G3,Qk,WG]
def SO (op:BinOp) (a b:Bool):Option (Bool×Value) :=
  match op with
  | .eql=>some (true,.bool (a==b))
  | .neq=>some (true,.bool (!(a==b)))
  |_=>none
theorem iW {P:Program} {op:BinOp} {a b:Bool} {c:Bool} {r:Value} (h:SO op a b=some (c,r)) (t:TypeId) (hu:P.underlying t=some .bool) (x y:Operand) (w:World):(do eqGuard op t x y (.bool a) (.bool b);binOp op t (.bool a) (.bool b):Sem Value).run P w=.ok r w:=by
  cases op<;>simp only [SO,Option.some.injEq,Prod.mk.injEq] at h<;>first|(cases h;done)|skip
  all_goals obtain ⟨_,rfl⟩:=h
  ·simp only [eqGuard,Sem.run_bind];simp [run_eql_bool w t a b hu]
  ·simp only [eqGuard,Sem.run_bind];simp [run_neq_bool w t a b hu]
def I3 (a b:ByteArray):ByteArray:=a++b
def XG (a b:ByteArray):Bool:=a.toList==b.toList
def YG (xs:List Int):ByteArray:=strOfNums xs
def TO (op:BinOp) (a b:ByteArray):Option (Bool×Value) :=
  match op with
  | .add=>some (decide (a.size+b.size≤9223372036854775807),.string (I3 a b))
  | .eql=>some (true,.bool (XG a b))
  | .neq=>some (true,.bool (!XG a b))
  |_=>none
theorem iX {P:Program} {op:BinOp} {a b:ByteArray} {c:Bool} {r:Value} (h:TO op a b=some (c,r)) (hc:c=true) (t:TypeId) (x y:Operand) (w:World):(do eqGuard op t x y (.string a) (.string b);binOp op t (.string a) (.string b):Sem Value).run P w=.ok r w:=by
  subst hc
  cases op<;>simp only [TO,Option.some.injEq,Prod.mk.injEq] at h<;>first|(cases h;done)|skip
  ·obtain ⟨h0,rfl⟩:=h
   have:=run_string_add_sum (P:=P) w a b (oT h0)
   simp [eqGuard,binOp,this,I3]
  ·obtain ⟨_,rfl⟩:=h
   simp [eqGuard,binOp,Op.stringOp,XG]
  ·obtain ⟨_,rfl⟩:=h
   simp [eqGuard,binOp,Op.stringOp,XG]
def Uu:List PV→Option (List Int)
  |[]=>some []
  | .im (.s (.int .i64 a))::r=>match Uu r with|some l=>some (a::l)|none=>none
  |_::_=>none
theorem UO {w:World} {E X:Nat→Prop} {h:List Ca} {β:List (Nat×Nat)}:∀{cs:List PV} {l:List Int} {us:List Value},Uu cs=some l→F2 (C1 w E X h β) cs us→us=l.map (Value.int .i64)
  |[],l,us,h,hF=>by
   simp only [Uu,Option.some.injEq] at h
   subst h
   exact hF.nil_inv
  | .im (.s (.int .i64 a))::r,l,us,h,hF=>by
    simp only [Uu] at h
    split at h
    ·rename_i l' hl
     injection h with h;subst h
     obtain ⟨u,us',rfl,h1,h2⟩:=hF.cons_inv
     rw [UO hl h2]
     cases h1
     rfl
    ·cases h
def VO (tab:TypeId→Option TI) (t:TypeId) (op:BinOp):PV→PV→Option (Bool×Value)
  | .im (.s (.int k a)),.im (.s (.int k' b))=>match RO op k a b with|some r=>some r|none=>bif Kn k k' then (match PO op k a b with|some r=>some r|none=>bif Kn k .i64 then QO op a b else none) else none
  | .im (.s (.bool a)),.im (.s (.bool b))=>match tab t with|some i=>bif Nat.beq i.prim 1 then SO op a b else none|none=>none
  | .im (.s (.string a)),.im (.s (.string b))=>TO op a b
  | .agg cs,.agg ds=>match tab t,Uu cs,Uu ds with
    |some i,some as,some bs=>bif Nat.beq i.prim 3&&Nat.beq as.length i.size&&Nat.beq bs.length i.size then (match op with| .eql=>some (true,.bool (Cd as bs))| .neq=>some (true,.bool (!Cd as bs))|_=>none) else none
    |_,_,_=>none
  |_,_=>none
section
variable {P:Program} {st:St} {o:Oper} {tab:TypeId→Option TI}
theorem iY (H:Qb P tab) {op:BinOp} {t t':TypeId} {x y:Operand} {vx vy:PV} {r:Value} {c:Bool} (ho:o.op=.binOp op t x y t') (hx:Za st.t x=some vx) (hy:Za st.t y=some vy) (h:VO tab t op vx vy=some (c,r)) (hc:c=true):Ue P st o (.im (.s r)):=fun C E a w β S=>by
  have key:∀w,(do eqGuard op t x y (a.eval x) (a.eval y);binOp op t (a.eval x) (a.eval y):Sem Value).run P w=.ok r w:=fun w=>by
    have h1:=S.op hx
    have h2:=S.op hy
    generalize a.eval x=ux at *
    generalize a.eval y=uy at *
    unfold VO at h
    split at h
    ·rename_i k a k' b
     rw [Nh h1,Nh h2]
     split at h
     ·rename_i r' hr
      injection h with h;subst h
      exact iV hr hc t x y w
     ·cases hk:Kn k k' with
      |false=>rw [hk] at h;cases h
      |true =>
       rw [hk] at h
       have:=OO hk
       subst this
       simp only [cond_true] at h
       split at h
       ·rename_i r' hr
        injection h with h;subst h
        exact iT hr t x y w
       ·cases hq:Kn k .i64 with
        |false=>rw [hq] at h;cases h
        |true =>
         rw [hq] at h
         have:=OO hq
         subst this
         exact iU h hc t x y w
    ·rw [Nh h1,Nh h2]
     split at h
     ·rename_i i hi
      cases hq:Nat.beq i.prim 1 with
      |false=>rw [hq] at h;cases h
      |true =>
       rw [hq] at h
       exact iW h t ((H t i hi).bool (Nat.eq_of_beq_eq_true hq)) x y w
     ·cases h
    ·rw [Nh h1,Nh h2]
     exact iX h hc t x y w
    ·split at h
     ·rename_i i as bs hi ha hb
      cases hq:(Nat.beq i.prim 3&&Nat.beq as.length i.size&&Nat.beq bs.length i.size) with
      |false=>rw [hq] at h;cases h
      |true =>
       rw [hq] at h
       simp only [Bool.and_eq_true] at hq
       obtain ⟨⟨q1,q2⟩,q3⟩:=hq
       obtain ⟨us,rfl,hF⟩:=h1
       obtain ⟨vs,rfl,hG⟩:=h2
       rw [UO ha hF,UO hb hG]
       have T:=H t i hi
       simp only [cond_true] at h
       split at h<;>first|(cases h;done)|skip
       all_goals simp only [Option.some.injEq,Prod.mk.injEq] at h;obtain ⟨_,rfl⟩:=h
       ·exact T.ieq (Nat.eq_of_beq_eq_true q1) as bs (Nat.eq_of_beq_eq_true q2) (Nat.eq_of_beq_eq_true q3) x y w
       ·exact T.ine (Nat.eq_of_beq_eq_true q1) as bs (Nat.eq_of_beq_eq_true q2) (Nat.eq_of_beq_eq_true q3) x y w
     ·cases h
    ·cases h
  exact ⟨r,Ri.s r,fun w' _=>by simp only [execOp,ho,Sem.run_bind];have:=key w';simp only [Sem.run_bind] at this;simp [this]⟩
def WO (tab:TypeId→Option TI) (t:TypeId):BinOp→PV→Operand→Option Bool
  | .eql,.im (.sl _ _ xs),.const (.slice none 0 0)=>(match tab t with
    |some i=>(match i.elem with|some _=>some (decide (0<xs.length))|none=>none)
    |none=>none)
  |_,_,_=>none
theorem iZ (H:Qb P tab) {op:BinOp} {t t':TypeId} {x y:Operand} {vx:PV} {c:Bool} (ho:o.op=.binOp op t x y t') (hx:Za st.t x=some vx) (h:WO tab t op vx y=some c) (hc:c=true):Ue P st o (.im (.s (.bool false))):=fun C E a w β S=>by
  have key:∀w,(do eqGuard op t x y (a.eval x) (a.eval y);binOp op t (a.eval x) (a.eval y):Sem Value).run P w=.ok (.bool false) w:=fun w=>by
    have h1:=S.op hx
    generalize a.eval x=ux at *
    unfold WO at h
    split at h
    ·split at h
     ·rename_i i hi
      split at h
      ·rename_i el hel
       injection h with h
       rw [←h] at hc
       have hn:=oT hc
       obtain ⟨hund,_⟩:=(H t i hi).el el.1 el.2.1 el.2.2 hel
       cases h1 with
       |sl g τ xs A cap b o us hA hcap hl hcc hr =>
        rw [(hA hn).1]
        simp only [eqGuard,Sem.run_bind,Act.eval]
        simp [Go.Lib.run_eql_slice_nil w t _ _ _ _ _ _ hund]
      ·cases h
     ·cases h
    ·cases h
  exact ⟨_,Ri.s _,fun w' _=>by simp only [execOp,ho,Sem.run_bind];have:=key w';simp only [Sem.run_bind] at this;simp [this]⟩
theorem jA {x:Operand} {v:PV} (ho:o.op=.move x) (h:Za st.t x=some v):Ue P st o v:=fun C E a w β S=>⟨_,S.op h,fun w' _=>by simp [execOp,ho]⟩
theorem jB {x:Operand} {v:PV} (ho:o.op=.assign x) (h:Za st.t x=some v):Ue P st o v:=fun C E a w β S=>⟨_,S.op h,fun w' _=>by simp [execOp,ho]⟩
theorem jC {c x y:Operand} {b:Bool} {v1 v2:PV} (ho:o.op=.pick c x y) (hc:Za st.t c=some (.im (.s (.bool b)))) (h1:Za st.t x=some v1) (h2:Za st.t y=some v2):Ue P st o (bif b then v1 else v2):=fun C E a w β S=>by
  have e:=S.ev hc
  cases b
  ·exact ⟨_,S.op h2,fun w' _=>by simp [execOp,ho,e,asBool]⟩
  ·exact ⟨_,S.op h1,fun w' _=>by simp [execOp,ho,e,asBool]⟩
def XO:UnOp→Value→Option Value
  | .not,.bool b=>some (.bool (!b))
  | .neg,.int .i64 x=>some (.int .i64 (wrap64 (-x)))
  |_,_=>none
theorem jD {op:UnOp} {t:TypeId} {x:Operand} {vx r:Value} (ho:o.op=.unOp op t x) (hx:Za st.t x=some (.im (.s vx))) (h:XO op vx=some r):Ue P st o (.im (.s r)):=fun C E a w β S =>
  ⟨r,Ri.s r,fun w' _=>by
    have hr:(Op.unary op vx).run P w'=.ok r w':=by
      unfold XO at h
      split at h<;>first|(cases h;done)|skip
      all_goals
        injection h with h
        subst h
        simp [Op.unary,Op.intArith,wrap64,IntKind.wrap_i64]
    simp only [execOp,ho,S.ev hx,Sem.run_bind,hr,Result.andThen_ok];simp⟩
theorem Rk (b p n:Nat):(⟨b,p,none⟩:Addr).add n=⟨b,p+n,none⟩:=by unfold Addr.add;split<;>simp_all
def YO (off:Nat):PV→Option PV
  | .ptr k o=>some (.ptr k (o+off))
  | .ept k i z o=>some (.ept k i z (o+off))
  | .at_ cs o=>some (.at_ cs (o+off))
  |_=>none
theorem jE (H:Qb P tab) {t:TypeId} {x:Operand} {j off fs:Nat} {i:TI} {v v':PV} (ho:o.op=.fieldAddr t x j) (hx:Za st.t x=some v) (hi:tab t=some i) (hf:i.fields[j]? =some (off,fs)) (h:YO off v=some v'):Ue P st o v':=fun C E a w β S=>by
  obtain ⟨fl,f,hu,hfl,hoff,hs,h0⟩:=(H t i hi).fld j off fs hf
  have hop:=S.op hx
  unfold YO at h
  split at h<;>first|(cases h;done)|skip
  all_goals injection h with h;subst h
  ·obtain ⟨b,c,h1,h2⟩:=hop
   refine ⟨_,⟨b,c,h1,rfl⟩,fun w' _=>?_⟩
   simp [execOp,ho,h2,Instr.fieldAt,hu,hfl,Instr.sureAddr,fieldPlace,hs,h0,Rk,hoff]
  ·obtain ⟨hk,hv,b,c,h1,h2,h3⟩:=hop
   refine ⟨_,⟨hk,hv,b,c,h1,rfl,h3⟩,fun w' _=>?_⟩
   simp [execOp,ho,h2,Instr.fieldAt,hu,hfl,Instr.sureAddr,fieldPlace,hs,h0,Rk,hoff,Nat.add_assoc]
  ·obtain ⟨b,q,us,h1,h2⟩:=hop
   refine ⟨_,⟨b,q,us,rfl,h2⟩,fun w' _=>?_⟩
   simp [execOp,ho,h1,Instr.fieldAt,hu,hfl,Instr.sureAddr,fieldPlace,hs,h0,Rk,hoff,Nat.add_assoc]
end
end Go.Proofs.YtknkhdjhongklaaGreat
namespace Go.Proofs.YtknkhdjhongklaaGreat
open Go.RowKit
section
variable {P:Program} {st:St} {o:Oper} {tab:TypeId→Option TI}
theorem ZG {w w':World} {b p:Nat} {v:Value} (h:w.cell? ⟨b,p,none⟩=some v) (hk:w'.heap[b]? =w.heap[b]?):w'.cell? ⟨b,p,none⟩=some v:=(World.cell?_of_block (a:=⟨b,p,none⟩) hk).trans h
theorem J3 {t:TypeId} {i:TI} (T:Nb P t i) (hg:i.agg=false) {w:World} {b p:Nat} {v:Value} (h:w.cell? ⟨b,p,none⟩=some v):(Instr.loadAt t (.pointer (some ⟨b,p,none⟩))).run P w=.ok v w:=by
  have:=T.ag
  rw [hg] at this
  simp [Instr.loadAt,Instr.sureAddr,loadVar,this,load,h,Sem.run]
theorem K3 {t:TypeId} {i:TI} (T:Nb P t i) (hg:i.agg=true) {w:World} {b p:Nat} {us:List Value} (hl:us.length=i.size) (h:∀(j:Nat) v,us[j]? =some v→w.cell? ⟨b,p+j,none⟩=some v):(Instr.loadAt t (.pointer (some ⟨b,p,none⟩))).run P w=.ok (.agg us.toArray) w:=by
  have:=run_loadCells_list (P:=P) w ⟨b,p,none⟩ us (fun j v hv=>by rw [Rk];exact h j v hv)
  rw [hl] at this
  have ha:=T.ag
  rw [hg] at ha
  simp [Instr.loadAt,Instr.sureAddr,loadVar,ha,T.sz,this]
theorem Qg {w:World} {b:Nat} {us junk:List Value} {t:TypeId} {fr:Nat×Nat} (h:w.heap[b]? =some (.cells (us++junk).toArray t fr)) {j:Nat} {u:Value} (hu:us[j]? =some u):w.cell? ⟨b,j,none⟩=some u:=by
  rw [cell_of_row w b j _ t fr h,List.getElem?_toArray,List.getElem?_append_left (List.getElem?_eq_some_iff.1 hu).1]
  exact hu
def ZO (i:TI) (cs:List PV):Option PV:=bif Nat.beq cs.length i.size then (bif i.agg then some (.agg cs) else match cs with|[v]=>some v|_=>none) else none
theorem AP {t:TypeId} {i:TI} (T:Nb P t i) {w w':World} {E X:Nat→Prop} {h:List Ca} {β:List (Nat×Nat)} {b p:Nat} {cs:List PV} {us:List Value} {v:PV} (hF:F2 (C1 w E X h β) cs us) (hc:∀(j:Nat) u,us[j]? =some u→w'.cell? ⟨b,p+j,none⟩=some u) (hv:ZO i cs=some v):∃u,Cv w E X h β v u∧(Instr.loadAt t (.pointer (some ⟨b,p,none⟩))).run P w'=.ok u w'∧∀w'',(∀(j:Nat) u,us[j]? =some u→w''.cell? ⟨b,p+j,none⟩=some u)→(Instr.loadAt t (.pointer (some ⟨b,p,none⟩))).run P w''=.ok u w'':=by
  unfold ZO at hv
  cases hl:Nat.beq cs.length i.size with
  |false=>rw [hl] at hv;cases hv
  |true =>
   rw [hl] at hv
   have hl:=Nat.eq_of_beq_eq_true hl
   simp only [cond_true] at hv
   cases hg:i.agg with
   |true =>
    rw [hg] at hv
    injection hv with hv
    subst hv
    exact ⟨.agg us.toArray,⟨us,rfl,hF⟩,K3 T hg (by rw [hF.1,hl]) hc,fun w'' hc=>K3 T hg (by rw [hF.1,hl]) hc⟩
   |false =>
    rw [hg] at hv
    simp only [cond_false] at hv
    split at hv
    ·injection hv with hv
     subst hv
     obtain ⟨u,r,rfl,h1,h2⟩:=hF.cons_inv
     exact ⟨u,h1.cv,J3 T hg (by have:=hc 0 u rfl;simpa using this),fun w'' hc=>J3 T hg (by have:=hc 0 u rfl;simpa using this)⟩
    ·cases hv
def Oh:(τ:Ty)→El τ
  | .int=>(0:Int)
  | .bool=>false
  | .u8=>(0:Int)
  | .str=>ByteArray.empty
  | .lk=>Lk.mk 0 0 0
  | .gr=>Gr.mk 0 []
  | .en=>En.mk 0 0
  | .ls=>Ls.mk 0 0 []
  | .db=>([]:List Ls)
  | .pk=>Pk.mk 0 (Ls.mk 0 0 [])
  | .ev=>Ev.mk 0 0
  | .lb=>Lb.mk 0 0
  | .uls=>Ls.mk 0 0 []
  | .udb=>([]:List Ls)
  | .upk=>Pk.mk 0 (Ls.mk 0 0 [])
def Ba (τ:Ty):List (El τ)→Nat→El τ
  |[],_=>Oh τ
  |x::_,0=>x
  |_::r,i+1=>Ba τ r i
theorem To (τ:Ty):∀(xs:List (El τ)) (i:Nat),i<xs.length→xs[i]? =some (Ba τ xs i)
  |[],i,h=>by simp at h
  |x::_,0,_=>rfl
  |x::r,i+1,h=>by simpa [Ba] using To τ r i (by simpa using h)
def BP (h:List Ca):PV→Option (List PV)
  | .ptr k o=>match h[k]? with|some (.box _ cs)=>some (cs.drop o)|_=>none
  | .ept k i _ o=>match h[k]? with|some (.row _ τ xs)=>some ((So (cells τ (Ba τ xs i))).drop o)|_=>none
  | .at_ cs o=>some ((So cs).drop o)
  |_=>none
def Kx (st:St) (i:TI) (v:PV):Option PV:=match BP st.h v with|some cs=>ZO i (cs.take i.size)|none=>none
theorem CP {w:World} {E X:Nat→Prop} {h:List Ca} {β:List (Nat×Nat)} {cs:List IV} {us:List Value} (hF:F2 (Ri w E X) cs us):F2 (C1 w E X h β) (So cs) us:=hF.mapl fun _ _ h=>h
theorem DP {w:World} {E X:Nat→Prop} {h:List Ca} {β:List (Nat×Nat)} {cs:List IV} {us:List Value} (hF:F2 (C1 w E X h β) (So cs) us):F2 (Ri w E X) cs us:=hF.unmap fun _ _ h=>h
theorem L3 (H:Qb P tab) {t:TypeId} {x:Operand} {i:TI} {v v':PV} (ho:o.op=.load t x) (hx:Za st.t x=some v) (hi:tab t=some i) (h:Kx st i v=some v'):Jx P st o v':=fun C E a w β S=>by
  have T:=H t i hi
  have hop:=S.op hx
  unfold Kx at h
  split at h
  case h_2=>cases h
  rename_i cs hcs
  unfold BP at hcs
  split at hcs
  ·rename_i k off
   split at hcs
   case h_2=>cases hcs
   rename_i t' cs' hk
   injection hcs with hcs
   subst hcs
   obtain ⟨b,c,h1,h2⟩:=hop
   obtain ⟨b',c',us,h3,h4,h5,h6⟩:=S.heap.ok k _ hk
   rw [h1] at h3
   injection h3 with h3;injection h3 with e1 e2
   subst e1 e2
   have hb:b<w.heap.size:=(Array.getElem?_eq_some_iff.1 h4).1
   have hcell:∀w':World,w'.heap[b]? =w.heap[b]?→∀(j:Nat) u,((us.drop off).take i.size)[j]? =some u→w'.cell? ⟨b,off+j,none⟩=some u:=fun w' hw j u hu=>by
     rw [List.getElem?_take] at hu
     split at hu
     ·rw [List.getElem?_drop] at hu
      exact ZG (Qg (junk:=[]) (by simpa using h4) hu) hw
     ·cases hu
   obtain ⟨u,g1,g2,g3⟩:=AP T (h5.part off i.size) (hcell w rfl) h
   exact ⟨u,g1,fun w' hw=>by simp [execOp,ho,h2,g3 w' (hcell w' (hw.2 b hb (.inr ⟨k,_,c,hk,trivial,h1⟩)))]⟩
  ·rename_i k j _ off
   split at hcs
   case h_2=>cases hcs
   rename_i t' τ xs hk
   injection hcs with hcs
   subst hcs
   obtain ⟨_,_,b,c,h1,h2,h3⟩:=hop
   obtain ⟨rfl,hj⟩:=h3 t' τ xs hk
   obtain ⟨b',c',h4,hc0,hcm,h5⟩:=S.heap.ok k _ hk
   rw [h1] at h4
   injection h4 with h4;injection h4 with e1 e2
   subst e1 e2
   have hc:0<c:=by
     rcases Nat.eq_zero_or_pos c with e|e
     ·rw [hc0 e] at hj;simp at hj
     ·exact e
   obtain ⟨us,junk,h6,h7,h8,h9⟩:=h5 hc
   have hb:b<w.heap.size:=(Array.getElem?_eq_some_iff.1 h6).1
   have hat:=Ro τ xs j _ (To τ xs j hj)
   have hF1:=h7.part (j*sz τ) (sz τ)
   rw [hat] at hF1
   have hF2:=(CP (h:=st.h) (β:=β) hF1).part off i.size
   have hcell:∀w':World,w'.heap[b]? =w.heap[b]?→∀(q:Nat) u,(((((us.drop (j*sz τ)).take (sz τ)).drop off).take i.size))[q]? =some u→w'.cell? ⟨b,j*sz τ+off+q,none⟩=some u:=fun w' hw q u hu=>by
     rw [List.getElem?_take] at hu
     split at hu
     ·rw [List.getElem?_drop,List.getElem?_take] at hu
      split at hu
      ·rw [List.getElem?_drop] at hu
       have:=ZG (Qg h6 hu) hw
       rwa [←Nat.add_assoc] at this
      ·cases hu
     ·cases hu
   obtain ⟨u,g1,g2,g3⟩:=AP T hF2 (hcell w rfl) h
   exact ⟨u,g1,fun w' hw=>by simp [execOp,ho,h2,g3 w' (hcell w' (hw.2 b hb (.inr ⟨k,_,c,hk,hc,h1⟩)))]⟩
  ·rename_i cs' off
   injection hcs with hcs
   subst hcs
   obtain ⟨b,p,us,h1,hE,hb,h2,h3⟩:=hop
   have hcell:∀w':World,w'.heap[b]? =w.heap[b]?→∀(q:Nat) u,(((us.drop off).take i.size))[q]? =some u→w'.cell? ⟨b,p+off+q,none⟩=some u:=fun w' hw q u hu=>by
     rw [List.getElem?_take] at hu
     split at hu
     ·rw [List.getElem?_drop] at hu
      have:=ZG (h2 _ _ hu) hw
      rwa [←Nat.add_assoc] at this
     ·cases hu
   obtain ⟨u,g1,g2,g3⟩:=AP T ((CP (h:=st.h) (β:=β) h3).part off i.size) (hcell w rfl) h
   exact ⟨u,g1,fun w' hw=>by simp [execOp,ho,h1,g3 w' (hcell w' (hw.2 b hb (.inl hE)))]⟩
  ·cases hcs
end
end Go.Proofs.YtknkhdjhongklaaGreat
namespace Go.Proofs.YtknkhdjhongklaaGreat
open Go.RowKit
section
variable {P:Program} {st:St} {o:Oper} {tab:TypeId→Option TI}
theorem Tj {t:TypeId} {i:TI} (T:Nb P t i) {e:TypeId} {τ:Ty} {bytes:Nat} (he:i.elem=some (e,τ,bytes)) (w:World):(sizeOf e).run P w=.ok (sz τ) w:=by
  obtain ⟨_,⟨inf,z,h1,h2,h3,h4,h5⟩,_⟩:=T.el e τ bytes he
  simp [sizeOf,typeInfo,h1,h3]
theorem Zi {t:TypeId} {i:TI} (T:Nb P t i) {e:TypeId} {τ:Ty} {bytes:Nat} (he:i.elem=some (e,τ,bytes)) (w:World):(underlying t).run P w=.ok (.slice e) w:=run_underlying (T.el e τ bytes he).1 w
def Ea (z:Int) (n:Nat):Bool:=decide (0≤z)&&decide (z<(n:Int))
theorem EP {z:Int} {n:Nat} (h:Ea z n=true):0≤z∧z<n:=by simpa [Ea] using h
def FP (h:List Ca) (i:TI) (z:Int):PV→Option (Bool×PV)
  | .im (.sl _ τ xs)=>match i.elem with|some (_,σ,_)=>bif Nat.beq (sz τ) (sz σ) then some (Ea z xs.length,.at_ (cells τ (Ba τ xs z.toNat)) 0) else none|none=>none
  | .own k=>match h[k]?,i.elem with
    |some (.row _ τ xs),some (_,σ,_)=>bif Nat.beq (sz τ) (sz σ) then some (Ea z xs.length,.ept k z.toNat (sz τ) 0) else none
    |_,_=>none
  |_=>none
theorem N3 {t:TypeId} {i:TI} (T:Nb P t i) {e:TypeId} {σ:Ty} {bytes:Nat} (he:i.elem=some (e,σ,bytes)) (b p n c:Nat) (k:IntKind) (z:Int) (h0:0≤z) (h1:z<n) (w:World) :
    (Instr.indexAt t (.slice (some ⟨b,p,none⟩) n c) (.int k z)).run P w=.ok (.pointer (some ⟨b,p+z.toNat*sz σ,none⟩)) w:=by
  simp [Instr.indexAt,asIntOf,Zi T he,h0,h1,Tj T he,Rk]
theorem jF (H:Qb P tab) {t:TypeId} {x y:Operand} {i:TI} {k:IntKind} {z:Int} {v v':PV} {c:Bool} (ho:o.op=.indexAddr t x y) (hx:Za st.t x=some v) (hy:Za st.t y=some (.im (.s (.int k z)))) (hi:tab t=some i) (h:FP st.h i z v=some (c,v')) (hc:c=true):Ue P st o v':=fun C E a w β S=>by
  have T:=H t i hi
  have ey:=S.ev hy
  have hop:=S.op hx
  unfold FP at h
  split at h
  ·rename_i g τ xs
   split at h
   case h_2=>cases h
   rename_i e σ bytes he
   cases hq:Nat.beq (sz τ) (sz σ) with
   |false=>rw [hq] at h;cases h
   |true =>
    rw [hq] at h
    simp only [cond_true,Option.some.injEq,Prod.mk.injEq] at h
    obtain ⟨h1,rfl⟩:=h
    subst h1
    have hsz:=Nat.eq_of_beq_eq_true hq
    obtain ⟨z0,z1⟩:=EP hc
    generalize ex:a.eval x=ux at *
    cases hop with
    |sl _ _ _ A cap b p us hA hcap hl hcc hr =>
     have hz:z.toNat<xs.length:=by omega
     obtain ⟨rfl,hb,hE,_⟩:=hA (by omega)
     have hF:F2 (Ri w E C.X) (Ua τ xs) us:=⟨hl,hr⟩
     have hF1:=hF.part (z.toNat*sz τ) (sz τ)
     rw [Ro τ xs _ _ (To τ xs _ hz)] at hF1
     refine ⟨_,⟨b,p+z.toNat*sz τ,_,rfl,hE,hb,fun j u hu=>?_,hF1⟩,fun w' _=>by simp [execOp,ho,ex,ey,N3 T he,z0,z1,hsz]⟩
     rw [List.getElem?_take] at hu
     split at hu
     ·rw [List.getElem?_drop] at hu
      have:=hcc _ _ hu
      rwa [←Nat.add_assoc] at this
     ·cases hu
  ·rename_i q
   split at h
   case h_2=>cases h
   rename_i t' τ xs e σ bytes hk he
   cases hq:Nat.beq (sz τ) (sz σ) with
   |false=>rw [hq] at h;cases h
   |true =>
    rw [hq] at h
    simp only [cond_true,Option.some.injEq,Prod.mk.injEq] at h
    obtain ⟨h1,rfl⟩:=h
    subst h1
    have hsz:=Nat.eq_of_beq_eq_true hq
    obtain ⟨z0,z1⟩:=EP hc
    obtain ⟨hkl,hkv,_,h2⟩:=hop
    obtain ⟨b,c',A,h3,h4,h5,_⟩:=h2 t' τ xs hk
    obtain ⟨b',c'',h6,hc0,_⟩:=S.heap.ok q _ hk
    rw [h3] at h6
    injection h6 with h6;injection h6 with e1 e2
    subst e1 e2
    have hcp:0<c':=by
      rcases Nat.eq_zero_or_pos c' with e|e
      ·rw [hc0 e] at z1;simp at z1;omega
      ·exact e
    have hA:=h5 hcp
    subst hA
    refine ⟨_,⟨hkl,hkv,b,c',h3,rfl,fun t2 τ2 xs2 h=>?_⟩,fun w' _=>by simp [execOp,ho,h4,ey,N3 T he,z0,z1,hsz]⟩
    rw [hk] at h
    injection h with h
    cases h
    exact ⟨rfl,by omega⟩
  ·cases h
theorem jG (H:Qb P tab) {t:TypeId} {x y:Operand} {i:TI} {k:IntKind} {z:Int} {b:ByteArray} (ho:o.op=.index t x y) (hx:Za st.t x=some (.im (.s (.string b)))) (hy:Za st.t y=some (.im (.s (.int k z)))) (hi:tab t=some i) (hp:i.prim=2) (hc:Ea z b.size=true):Ue P st o (.im (.s (.int .u8 (b.get! z.toNat).toNat))):=fun C E a w β S=>by
  obtain ⟨z0,z1⟩:=EP hc
  have hu:=run_underlying ((H t i hi).str hp)
  refine ⟨_,Ri.s _,fun w' _=>?_⟩
  have hz:z.toNat<b.size:=by omega
  have hg:b[z.toNat]? =some (b.get! z.toNat):=by
    rw [getElem?_pos b z.toNat hz]
    congr 1
    simp only [ByteArray.get!]
    cases b
    rename_i d
    have hz':z.toNat<d.size:=hz
    show d[z.toNat]=d[z.toNat]!
    simp [getElem!_pos,hz']
  simp [execOp,ho,S.ev hx,S.ev hy,Instr.index,asIntOf,hu,z0,hg]
def Uo (lo hi:Int) (n:Nat):Bool:=decide (0≤lo)&&decide (lo≤hi)&&decide (hi≤(n:Int))
theorem P3 {lo hi:Int} {n:Nat} (h:Uo lo hi n=true):0≤lo∧lo≤hi∧hi≤n:=by simp [Uo] at h;omega
def Uj (t:List (Nat×PV)):Option Operand→Int→Option Int
  |none,d=>some d
  |some x,_=>match Za t x with|some (.im (.s (.int .i64 z)))=>some z|_=>none
def GP (i:TI) (lo hi:Int):PV→Option (Bool×PV)
  | .im (.sl g τ xs)=>match i.elem with|some (_,σ,_)=>bif Nat.beq (sz τ) (sz σ) then some (Uo lo hi xs.length,.im (.sl g τ ((xs.drop lo.toNat).take (hi.toNat-lo.toNat)))) else none|none=>none
  | .im (.s (.string b))=>bif Nat.beq i.prim 2 then some (Uo lo hi b.size,.im (.s (.string (b.extract lo.toNat hi.toNat)))) else none
  | .own _=>match i.elem with|some (_,σ,_)=>bif decide (lo=0)&&decide (hi=0) then some (true,.im (.sl true σ [])) else none|none=>none
  |_=>none
def Sk (h:List Ca):PV→Option Nat
  | .im (.sl _ _ xs)=>some xs.length
  | .im .nil=>some 0
  | .im (.s (.string b))=>some b.size
  | .own k=>match h[k]? with|some (.row _ _ xs)=>some xs.length|_=>none
  |_=>none
theorem AH {C:Pc} {E:Nat→Prop} {a:Act} {w:World} {β:List (Nat×Nat)} (S:Jb C E st a w β) {x:Option Operand} {d z:Int} (h:Uj st.t x d=some z):(x=none∧z=d)∨∃y,x=some y∧a.eval y=.int .i64 z:=by
  cases x with
  |none=>simp only [Uj,Option.some.injEq] at h;exact .inl ⟨rfl,h.symm⟩
  |some y =>
   simp only [Uj] at h
   split at h
   ·rename_i z' hz
    injection h with h;subst h
    exact .inr ⟨y,rfl,S.ev hz⟩
   ·cases h
theorem Lx (τ:Ty) (xs:List (El τ)) (lo n:Nat) (h:lo+n≤xs.length):((Ua τ xs).drop (lo*sz τ)).take (n*sz τ)=Ua τ ((xs.drop lo).take n):=by
  have e:xs=xs.take lo++((xs.drop lo).take n++(xs.drop lo).drop n):=by rw [List.take_append_drop,List.take_append_drop]
  have h1:(Ua τ (xs.take lo)).length=lo*sz τ:=by rw [Kb,List.length_take,Nat.min_eq_left (by omega)]
  have h2:(Ua τ ((xs.drop lo).take n)).length=n*sz τ:=by rw [Kb,List.length_take,List.length_drop,Nat.min_eq_left (by omega)]
  conv=>lhs;rw [e]
  rw [Qo,Qo,List.drop_append_of_le_length (by omega),←h1,List.drop_length,List.nil_append,List.take_append_of_le_length (by omega),←h2,List.take_length]
theorem jH (H:Qb P tab) {t:TypeId} {x:Operand} {l m:Option Operand} {i:TI} {n:Nat} {lo hi:Int} {v v':PV} {c:Bool} (ho:o.op=.slice t x l m none) (hx:Za st.t x=some v) (hn:Sk st.h v=some n) (hlo:Uj st.t l 0=some lo) (hhi:Uj st.t m n=some hi) (hi':tab t=some i) (h:GP i lo hi v=some (c,v')) (hc:c=true):Ue P st o v':=fun C E a w β S=>by
  have T:=H t i hi'
  have hop:=S.op hx
  have hl:=AH S hlo
  have hm:=AH S hhi
  unfold GP at h
  split at h
  ·rename_i g τ xs
   split at h
   case h_2=>cases h
   rename_i e σ bytes he
   cases hq:Nat.beq (sz τ) (sz σ) with
   |false=>rw [hq] at h;cases h
   |true =>
    rw [hq] at h
    simp only [cond_true,Option.some.injEq,Prod.mk.injEq] at h
    obtain ⟨h1,rfl⟩:=h
    subst h1
    have hsz:=Nat.eq_of_beq_eq_true hq
    obtain ⟨z0,z1,z2⟩:=P3 hc
    simp only [Sk,Option.some.injEq] at hn
    subst hn
    generalize ex:a.eval x=ux at *
    cases hop with
    |sl _ _ _ A cap b p us hA hcap hul hcc hr =>
     have hlen:((xs.drop lo.toNat).take (hi.toNat-lo.toNat)).length=hi.toNat-lo.toNat:=by rw [List.length_take,List.length_drop];omega
     have hF:F2 (Ri w E C.X) (Ua τ xs) us:=⟨hul,hr⟩
     have hF1:=hF.part (lo.toNat*sz τ) ((hi.toNat-lo.toNat)*sz τ)
     rw [Lx τ xs _ _ (by omega)] at hF1
     have hA':∀(hpos:0<hi.toNat-lo.toNat),(if cap=lo.toNat then A else A.map (·.add (lo.toNat*sz σ)))=some ⟨b,p+lo.toNat*sz τ,none⟩:=fun hpos=>by
       obtain ⟨rfl,_⟩:=hA (by omega)
       rw [if_neg (by omega)]
       simp [Rk,hsz]
     have hrun:∀w':World,(execOp a.eval o).run P w'=.ok (.value (.slice (if cap=lo.toNat then A else A.map (·.add (lo.toNat*sz σ))) (hi.toNat-lo.toNat) (cap-lo.toNat))) w':=fun w'=>by
       have b1:lo≤(hi.toNat:Int):=by omega
       have b2:hi≤(cap:Int):=by omega
       have b3:lo≤(xs.length:Int):=by omega
       have h0:(0:Int)≤hi:=by omega
       rcases hl with ⟨rfl,rfl⟩|⟨y1,rfl,e1⟩<;>rcases hm with ⟨rfl,rfl⟩|⟨y2,rfl,e2⟩<;>simp [execOp,Instr.sliceAt,Instr.slice,Zi T he,Instr.sliceBounds,Instr.sliceBound,asIntOf,Tj T he, *]<;>(intro hh;exfalso;omega)
     have key:=Ri.sl g τ ((xs.drop lo.toNat).take (hi.toNat-lo.toNat)) (if cap=lo.toNat then A else A.map (·.add (lo.toNat*sz σ))) (cap-lo.toNat) b (p+lo.toNat*sz τ) _ (w:=w) (E:=E) (X:=C.X) (fun h=>by
         rw [hlen] at h
         have:=hA (by omega)
         exact ⟨hA' h,this.2⟩) (by rw [hlen];omega) hF1.1 (fun j u hu=>by
           rw [List.getElem?_take] at hu
           split at hu
           ·rw [List.getElem?_drop] at hu
            have:=hcc _ _ hu
            rwa [←Nat.add_assoc] at this
           ·cases hu) hF1.2
     rw [hlen] at key
     exact ⟨_,key,fun w' _=>hrun w'⟩
  ·rename_i s
   cases hq:Nat.beq i.prim 2 with
   |false=>rw [hq] at h;cases h
   |true =>
    rw [hq] at h
    simp only [cond_true,Option.some.injEq,Prod.mk.injEq] at h
    obtain ⟨h1,rfl⟩:=h
    subst h1
    obtain ⟨z0,z1,z2⟩:=P3 hc
    simp only [Sk,Option.some.injEq] at hn
    subst hn
    have ex:=Nh hop
    have hu:=run_underlying (T.str (Nat.eq_of_beq_eq_true hq))
    refine ⟨_,Ri.s _,fun w' _=>?_⟩
    have b1:lo≤(hi.toNat:Int):=by omega
    have b3:lo≤(s.size:Int):=by omega
    have h0:(0:Int)≤hi:=by omega
    rcases hl with ⟨rfl,rfl⟩|⟨y1,rfl,e1⟩<;>rcases hm with ⟨rfl,rfl⟩|⟨y2,rfl,e2⟩<;>simp [execOp,Instr.sliceAt,Instr.slice,Instr.sliceBounds,Instr.sliceBound,asIntOf, *]<;>(intro hh;exfalso;omega)
  ·rename_i k
   split at h
   case h_2=>cases h
   rename_i e σ bytes he
   cases hq:(decide (lo=0)&&decide (hi=0)) with
   |false=>rw [hq] at h;cases h
   |true =>
    rw [hq] at h
    simp only [cond_true,Option.some.injEq,Prod.mk.injEq] at h
    obtain ⟨h1,rfl⟩:=h
    simp only [Bool.and_eq_true,decide_eq_true_eq] at hq
    obtain ⟨rfl,rfl⟩:=hq
    simp only [Sk] at hn
    split at hn
    case h_2=>cases hn
    rename_i t' τ xs hk
    injection hn with hn;subst hn
    obtain ⟨_,_,_,h4⟩:=hop
    obtain ⟨b,cap,A,hβ,hu,_,_⟩:=h4 t' τ xs hk
    obtain ⟨b',c',hβ',_,hcap,_⟩:=S.heap.ok k _ hk
    rw [hβ] at hβ'
    injection hβ' with hβ'
    injection hβ' with _ hβ'
    subst hβ'
    have hrun:∀w':World,(execOp a.eval o).run P w'=.ok (.value (.slice (if cap=0 then A else A.map (·.add (0*sz σ))) 0 cap)) w':=fun w'=>by
      have hun:=Zi T he w'
      have hsz:=Tj T he w'
      rcases hl with ⟨rfl,_⟩|⟨y1,rfl,e1⟩<;>rcases hm with ⟨rfl,e0⟩|⟨y2,rfl,e2⟩
      ·have e0':xs.length=0:=by omega
       simp [execOp,ho,hu,Instr.sliceAt,Instr.slice,hun,Instr.sliceBounds,hsz,e0']
      ·simp [execOp,ho,hu,Instr.sliceAt,Instr.slice,hun,Instr.sliceBounds,Instr.sliceBound,asIntOf,hsz,e2]
      ·have e0':xs.length=0:=by omega
       simp [execOp,ho,hu,Instr.sliceAt,Instr.slice,hun,Instr.sliceBounds,Instr.sliceBound,asIntOf,hsz,e0',e1]
      ·simp [execOp,ho,hu,Instr.sliceAt,Instr.slice,hun,Instr.sliceBounds,Instr.sliceBound,asIntOf,hsz,e1,e2]
    exact ⟨_,.sl true σ [] _ cap 0 0 [] (fun h=>by simp at h) ⟨Nat.zero_le _,hcap⟩ rfl (fun j u hu=>by simp at hu) (fun j x u hx=>by simp [Ua] at hx),fun w' _=>hrun w'⟩
  ·cases h
end
end Go.Proofs.YtknkhdjhongklaaGreat
namespace Go.Proofs.YtknkhdjhongklaaGreat
open Go.RowKit
def Ib:PV→List PV
  | .agg cs=>cs
  |v=>[v]
section
variable {P:Program} {st:St} {o:Oper} {tab:TypeId→Option TI} {w:World} {E X:Nat→Prop} {h:List Ca} {β:List (Nat×Nat)}
theorem Mx {v:PV} {u:Value} (hc:Cv w E X h β v u) (hv:(Ib v).all Te=true):∃us:List Value,u.cells=us.toArray∧F2 (C1 w E X h β) (Ib v) us∧∀x∈us,x.oneCell'=true:=by
  have one:C1 w E X h β v u→Ib v=[v]→∃us:List Value,u.cells=us.toArray∧F2 (C1 w E X h β) (Ib v) us∧∀x∈us,x.oneCell'=true:=fun h e=>by
    rw [e] at hv ⊢
    have h1:=h.one (by simpa using hv)
    refine ⟨[u],?_,F2.nil.cons h,by simpa using h1⟩
    cases u<;>first|rfl|cases h1
  cases v with
  |agg cs =>
   obtain ⟨us,rfl,h2⟩:=hc
   refine ⟨us,rfl,h2,fun x hx=>?_⟩
   obtain ⟨i,hi⟩:=List.getElem?_of_mem hx
   have hl:i<cs.length:=by rw [←h2.1];exact (List.getElem?_eq_some_iff.1 hi).1
   have hc:=List.getElem?_eq_getElem hl
   exact (h2.2 i _ x hc hi).one (by
     have:=List.all_eq_true.1 hv cs[i] (List.mem_iff_getElem.2 ⟨i,hl,rfl⟩)
     exact this)
  |im x=>exact one hc rfl
  |own k=>exact one hc rfl
  |ptr k o=>exact one hc rfl
  |ept k i z o=>exact one hc rfl
  |at_ xs o=>exact one hc rfl
  |fn f caps=>simp [Ib,Te] at hv
  |tup cs=>simp [Ib,Te] at hv
theorem Q3 (off:Nat):∀(us:List Value) (k:Nat) (cs:Array Value),off+k+us.length≤cs.size→(us.zipIdx k).foldl (fun (cs:Array Value) (p:Value×Nat)=>cs.setIfInBounds (off+p.2) p.1) cs=(cs.toList.take (off+k)++us++cs.toList.drop (off+k+us.length)).toArray
  |[],k,cs,h=>by simp
  |u::r,k,cs,h=>by
   rw [List.zipIdx_cons,List.foldl_cons,Q3 off r (k+1) _ (by simp at h ⊢;omega)]
   simp only [List.length_cons] at h
   congr 1
   rw [Array.toList_setIfInBounds,show off+(k+1)=off+k+1 by omega,List.take_succ_eq_append_getElem (by simp;omega)]
   rw [List.take_set_of_le (by omega),List.getElem_set_self,List.drop_set_of_lt (by omega)]
   simp only [List.append_assoc,List.nil_append,List.cons_append,List.length_cons]
   rw [show off+k+1+r.length=off+k+(r.length+1) by omega]
theorem T3 {place:Nat→Option (Nat×Nat)} {cells:Array Value} {i off size:Nat} {v:Value} {us:List Value} {rest:List (Nat×Value)} (hp:place i=some (off,size)) (hv:v.cells=us.toArray) (hl:us.length=size) (hin:off+size≤cells.size):Instr.fill place cells ((i,v)::rest)=Instr.fill place (cells.toList.take off++us++cells.toList.drop (off+size)).toArray rest:=by
  have hsz:v.cells.size=size:=by rw [hv];simpa using hl
  have hfo:=Q3 off us 0 cells (by omega)
  have hno:¬(v.cells.size≠size||decide (off+v.cells.size>cells.size))=true:=by simp [hsz];omega
  have he:Array.foldl (fun (cs:Array Value) (x:Value×Nat)=>cs.setIfInBounds (off+x.2) x.1) cells v.cells.zipIdx=List.foldl (fun (cs:Array Value) (p:Value×Nat)=>cs.setIfInBounds (off+p.2) p.1) cells (us.zipIdx 0):=by
    rw [hv,←Array.foldl_toList];simp
  rw [Instr.fill,hp]
  simp only [hno]
  rw [he,hfo,Nat.add_zero,hl]
  rfl
def Nx (places:List (Nat×Nat)):List PV→List (Nat×PV)→Option (List PV)
  |cs,[]=>some cs
  |cs,(i,v)::r=>match places[i]? with
   |some (off,size)=>bif Nat.beq (Ib v).length size&&Nat.ble (off+size) cs.length&&(Ib v).all Te then Nx places (wr cs off (Ib v)) r else none
   |none=>none
theorem U3 (places:List (Nat×Nat)):∀(parts:List (Nat×PV)) (vals:List (Nat×Value)) (cs cs':List PV) (us:List Value),
    F2 (fun p q=>p.1=q.1∧Cv w E X h β p.2 q.2) parts vals→F2 (C1 w E X h β) cs us→Nx places cs parts=some cs'→∃us',Instr.fill (places.toArray[·]?) us.toArray vals=some us'.toArray∧F2 (C1 w E X h β) cs' us'
  |[],vals,cs,cs',us,hp,hF,hb=>by
   have:=hp.nil_inv
   subst this
   simp only [Nx,Option.some.injEq] at hb
   subst hb
   exact ⟨us,rfl,hF⟩
  |(i,v)::r,vals,cs,cs',us,hp,hF,hb=>by
   obtain ⟨⟨i',u⟩,vr,rfl,⟨e,hv⟩,hr⟩:=hp.cons_inv
   have e:i=i':=e
   subst e
   have hv:Cv w E X h β v u:=hv
   unfold Nx at hb
   split at hb
   ·rename_i off size hpl
    cases hq:(Nat.beq (Ib v).length size&&Nat.ble (off+size) cs.length&&(Ib v).all Te) with
    |false=>rw [hq] at hb;cases hb
    |true =>
     rw [hq] at hb
     simp only [Bool.and_eq_true] at hq
     obtain ⟨⟨h1,h2⟩,h3⟩:=hq
     have h1:=Nat.eq_of_beq_eq_true h1
     have h2:=Nat.le_of_ble_eq_true h2
     obtain ⟨ws,hc,hFw,_⟩:=Mx hv h3
     have hwl:ws.length=size:=by rw [hFw.1,h1]
     have hul:=hF.1
     have:=T3 (place:=(places.toArray[·]?)) (cells:=us.toArray) (i:=i) (off:=off) (size:=size) (v:=u) (us:=ws) (rest:=vr) (by simpa using hpl) hc hwl (by simp;omega)
     obtain ⟨us',h4,h5⟩:=U3 places r vr _ cs' (us.take off++ws++us.drop (off+ws.length)) hr (hF.wr hFw off) hb
     refine ⟨us',?_,h5⟩
     rw [this,←h4,hwl]
   ·cases hb
def Ox (t:List (Nat×PV)):List (Nat×Operand)→Option (List (Nat×PV))
  |[]=>some []
  |(i,x)::r=>match Za t x,Ox t r with
   |some v,some l=>some ((i,v)::l)
   |_,_=>none
theorem V3 {C:Pc} {a:Act} {β:List (Nat×Nat)} (S:Jb C E st a w β):∀{parts:List (Nat×Operand)} {vs:List (Nat×PV)},Ox st.t parts=some vs→F2 (fun p q=>p.1=q.1∧Cv w E C.X st.h β p.2 q.2) vs (parts.map fun q=>(q.1,a.eval q.2))
  |[],vs,hh=>by
   simp only [Ox,Option.some.injEq] at hh
   subst hh
   exact F2.nil
  |(i,x)::r,vs,hh=>by
   unfold Ox at hh
   split at hh
   ·rename_i v l hv hl
    injection hh with hh;subst hh
    exact F2.cons ⟨rfl,S.op hv⟩ (V3 S hl)
   ·cases hh
theorem W3 {zs:List Value}:F2 (C1 w E X h β) (zs.map Vl) zs:=⟨by simp,fun i x u hx hu=>by
  rw [List.getElem?_map,hu] at hx
  simp only [Option.map_some,Option.some.injEq] at hx
  subst hx
  have:=Z2 (w:=w) (E:=E) (X:=X) (h:=h) (β:=β) u
  unfold Vl at *
  split at this<;>exact this⟩
def HP (t:List (Nat×PV)) (i:TI) (parts:List (Nat×Operand)):Option PV:=match i.zero,Ox t parts with
  |some zs,some vs=>bif i.agg then (match Nx i.fields (zs.map Vl) vs with|some cs=>some (.agg cs)|none=>none) else none
  |_,_=>none
theorem jI (H:Qb P tab) {t:TypeId} {i:TI} {parts:Array (Nat×Operand)} {v:PV} (ho:o.op=.build t parts) (hi:tab t=some i) (hb:HP st.t i parts.toList=some v):Ue P st o v:=fun C E a w β S=>by
  have T:=H t i hi
  unfold HP at hb
  split at hb
  case h_2=>cases hb
  rename_i zs vs hz hv
  cases hg:i.agg with
  |false=>rw [hg] at hb;cases hb
  |true =>
   rw [hg] at hb
   simp only [cond_true] at hb
   split at hb
   case h_2=>cases hb
   rename_i cs hcs
   injection hb with hb
   subst hb
   obtain ⟨fs,hu,hpl⟩:=T.places zs hz hg
   obtain ⟨z,hz1,hzs,_⟩:=T.zero zs hz
   obtain ⟨us',h1,h2⟩:=U3 i.fields vs _ _ cs zs (V3 S hv) W3 hcs
   refine ⟨.agg us'.toArray,⟨us',rfl,h2⟩,fun w' _=>?_⟩
   have e:(parts.map fun (i,x)=>(i,a.eval x)).toList=parts.toList.map fun q=>(q.1,a.eval q.2):=by simp
   have ez:z.cells=zs.toArray:=by rw [←hzs]
   simp only [execOp,ho,Instr.build,Sem.run_bind,hz1,Result.andThen_ok,Sem.run_pure,hu,hpl,e,ez,h1]
def Vu (t:List (Nat×PV)):List Operand→Option (List PV)
  |[]=>some []
  |x::r=>match Za t x,Vu t r with
   |some v,some l=>bif Te v then some (v::l) else none
   |_,_=>none
theorem X3 {C:Pc} {a:Act} {β:List (Nat×Nat)} (S:Jb C E st a w β):∀{xs:List Operand} {vs:List PV},Vu st.t xs=some vs→F2 (C1 w E C.X st.h β) vs (xs.map a.eval)
  |[],vs,hh=>by
   simp only [Vu,Option.some.injEq] at hh
   subst hh
   exact F2.nil
  |x::r,vs,hh=>by
   unfold Vu at hh
   split at hh
   ·rename_i v l hv hl
    cases hk:Te v with
    |false=>rw [hk] at hh;cases hh
    |true =>
     rw [hk] at hh
     injection hh with hh;subst hh
     exact F2.cons ((S.op hv).c1 hk) (X3 S hl)
   ·cases hh
theorem jJ {f:FuncId} {caps:Array Operand} {vs:List PV} (ho:o.op=.makeFunc (.func f) #[] caps) (hx:Vu st.t caps.toList=some vs):Ue P st o (.fn f vs):=fun C E a w β S=>by
  refine ⟨.func (.func f) #[] (caps.toList.map a.eval).toArray,⟨_,rfl,X3 S hx⟩,fun w' _=>?_⟩
  have e:caps.map a.eval=(caps.toList.map a.eval).toArray:=by apply Array.ext';simp
  simp [execOp,ho,Instr.makeFunc,e]
theorem jK {x:Operand} {i:Nat} {cs:List PV} {v:PV} (ho:o.op=.extract x i) (hx:Za st.t x=some (.tup cs)) (hv:cs[i]? =some v):Ue P st o v:=fun C E a w β S=>by
  obtain ⟨us,ex,hr⟩:=S.op hx
  obtain ⟨u,hu,hR⟩:=hr.get hv
  refine ⟨u,?_,fun w' _=>by simp [execOp,ho,ex,Instr.extract,hu]⟩
  cases v<;>first|exact hR|exact hR.elim
def IP (b:Bool) (fs:Nat) (cs:List PV):Option PV:=bif b then (bif Nat.ble fs cs.length then some (.agg (cs.take fs)) else none) else match cs with|v::_=>some v|[]=>none
theorem jL (H:Qb P tab) {t:TypeId} {x:Operand} {j off fs:Nat} {b:Bool} {i:TI} {cs:List PV} {v:PV} (ho:o.op=.field t x j) (hx:Za st.t x=some (.agg cs)) (hi:tab t=some i) (hf:i.fields[j]? =some (off,fs)) (hb:i.fg[j]? =some b) (hv:IP b fs (cs.drop off)=some v):Ue P st o v:=fun C E a w β S=>by
  obtain ⟨us,ex,hr⟩:=S.op hx
  obtain ⟨fl,f,h1,h2,h3,h4,h5⟩:=(H t i hi).fag j off fs b hf hb
  unfold IP at hv
  cases b with
  |true =>
   simp only [cond_true] at hv
   cases hl:Nat.ble fs (cs.drop off).length with
   |false=>rw [hl] at hv;cases hv
   |true =>
    rw [hl] at hv
    injection hv with hv;subst hv
    refine ⟨.agg ((us.drop off).take fs).toArray,⟨_,rfl,hr.part off fs⟩,fun w' _=>?_⟩
    have e:us.toArray.extract off (off+fs)=((us.drop off).take fs).toArray:=by
      rw [List.extract_toArray,List.extract_eq_take_drop,Nat.add_sub_cancel_left]
    simp [execOp,ho,ex,Instr.field,h1,h2,part,h3,h4,h5,asAgg,e]
  |false =>
   simp only [cond_false] at hv
   have hg:cs[off]? =some v:=by
     split at hv
     ·rename_i v' r e
      injection hv with hv;subst hv
      have:=congrArg (·[0]?) e
      simpa using this
     ·cases hv
   obtain ⟨u,hu,hR⟩:=hr.get hg
   exact ⟨u,hR.cv,fun w' _=>by simp [execOp,ho,ex,Instr.field,h1,h2,part,h3,h4,asAgg,hu]⟩
theorem jM {t:TypeId} {u:TypeDesc} (h:∀w,(underlying t).run P w=.ok u w):P.underlying t=some u:=by
  have:=h default
  cases e:P.underlying t with
  |none=>simp [underlying,e,stuck,go_sem] at this
  |some d =>
   simp [underlying,e] at this
   rw [this]
def BH (h:List Ca):PV→Option (List Int)
  | .im (.sl _ .u8 xs)=>some xs
  | .im .nil=>some []
  | .own k=>match h[k]? with|some (.row _ .u8 xs)=>some xs|_=>none
  |_=>none
theorem JP:∀(xs:List Int) (us:List Value) {R:IV→Value→Prop},(∀v u,R (.s v) u→u=v)→F2 R (Ua .u8 xs) us→us=xs.map (Value.int .u8)
  |[],us,R,_,h=>h.nil_inv
  |x::r,us,R,hR,h=>by
   have h:F2 R (.s (.int .u8 x)::Ua .u8 r) us:=h
   obtain ⟨u,us',rfl,h1,h2⟩:=h.cons_inv
   rw [JP r us' hR h2,hR _ _ h1];rfl
theorem jN (H:Qb P tab) {s d:TypeId} {i j ie:TI} {e:TypeId} {bytes:Nat} {x:Operand} {v:PV} {xs:List Int} (ho:o.op=.convert s d x) (hx:Za st.t x=some v) (hi:tab s=some i) (hj:tab d=some j) (hp:j.prim=2) (he:i.elem=some (e,.u8,bytes)) (hie:tab e=some ie) (hk:ie.ik=some .u8) (hb:BH st.h v=some xs):Jx P st o (.im (.s (.string (YG xs)))):=fun C E a w β S=>by
  have hs:=((H s i hi).el e .u8 bytes he).1
  have hu:=jM ((H e ie hie).int .u8 hk)
  have hd:=(H d j hj).str hp
  have hop:=S.op hx
  have rd:∀{w':World} {b p n c:Nat} {us:List Value},us=xs.map (Value.int .u8)→xs.length=n→(∀(j:Nat) u,us[j]? =some u→w'.cell? ⟨b,p+j,none⟩=some u)→(convert s d (.slice (some ⟨b,p,none⟩) n c)).run P w'=.ok (.string (YG xs)) w':=fun {w' b p n c us} hus hn hc=>run_convert_bytes_arg w' s e hs hu b p n c xs hn (fun i hi=>hc i _ (by
      rw [hus,List.getElem?_map,List.getElem?_eq_getElem (by omega)]
      simp [List.getD,List.getElem?_eq_getElem (show i<xs.length by omega)])) d hd
  have nl:∀{w':World} {A:Option Addr} {c:Nat},xs=[]→(convert s d (.slice A 0 c)).run P w'=.ok (.string (YG xs)) w':=fun {w' A c} hx=>by
    subst hx
    cases A with
    |none=>exact run_convert_bytes_nil w' s e hs hu 0 c d hd
    |some q =>
     rw [run_convert_bytes_string w' s d e _ 0 c hs hu hd,run_bytesToString w' q 0 c [] (by simp [loadCells,loadCellsFrom])]
     rfl
  refine ⟨_,Ri.s _,fun w' hw=>?_⟩
  generalize ex:a.eval x=ux at *
  unfold BH at hb
  split at hb
  ·rename_i g ys
   injection hb with hb;subst hb
   cases hop with
   |sl _ _ _ A cap b p us hA hcap hl hcc hr =>
    have hus:=JP ys us (R:=Ri w E C.X) (fun v u h=>by cases h;rfl) ⟨hl,hr⟩
    rcases Nat.eq_zero_or_pos ys.length with h0|h0
    ·have:=nl (w':=w') (A:=A) (c:=cap) (List.length_eq_zero_iff.1 h0)
     simp [execOp,ho,ex,h0,this]
    ·obtain ⟨rfl,hbl,hE,_⟩:=hA h0
     have:=rd (w':=w') (n:=ys.length) (c:=cap) hus rfl (fun j u hu=>(World.cell?_of_block (a:=⟨b,p+j,none⟩) (hw.2 b hbl (.inl hE))).trans (hcc j u hu))
     simp [execOp,ho,ex,this]
  ·injection hb with hb;subst hb
   cases hop with
   |nil A =>
    have:=nl (w':=w') (A:=A) (c:=0) rfl
    simp [execOp,ho,ex,this]
  ·rename_i k
   split at hb
   ·rename_i t' ys hk0
    injection hb with hb;subst hb
    obtain ⟨_,_,_,h2⟩:=hop
    obtain ⟨b,c,A,h3,rfl,h5,_⟩:=h2 t' .u8 ys hk0
    obtain ⟨b',c',h6,h7,h8,h9⟩:=S.heap.ok k _ hk0
    rw [h3] at h6
    injection h6 with h6;injection h6 with e1 e2
    subst e1 e2
    rcases Nat.eq_zero_or_pos c with h0|h0
    ·have hy:=h7 h0
     subst hy
     have:=nl (w':=w') (A:=A) (c:=c) rfl
     simp [execOp,ho,ex,this]
    ·obtain ⟨us,junk,q1,q2,q3,q4⟩:=h9 h0
     have hus:=JP ys us (R:=Ri w E C.X) (fun v u h=>by cases h;rfl) q2
     have hA:=h5 h0
     subst hA
     have hbl:b<w.heap.size:=(Array.getElem?_eq_some_iff.1 q1).1
     have:=rd (w':=w') (b:=b) (p:=0) (n:=ys.length) (c:=c) hus rfl (fun j u hu=>by
       rw [Nat.zero_add]
       exact ZG (Qg q1 hu) (hw.2 b hbl (.inr ⟨k,_,c,hk0,h0,h3⟩)))
     simp [execOp,ho,ex,this]
   ·cases hb
  ·cases hb
theorem jO {x:Operand} {k p:Nat} (ho:o.op=.nilCheck x) (hx:Za st.t x=some (.ptr k p)):Ue P st o (.ptr k p):=fun C E a w β S=>by
  obtain ⟨b,c,h1,ex⟩:=S.op hx
  exact ⟨_,⟨b,c,h1,rfl⟩,fun w' _=>by simp [execOp,ho,ex]⟩
theorem jP (H:Qb P tab) {s d:TypeId} {i j:TI} {k k' k0:IntKind} {n:Int} {x:Operand} (ho:o.op=.convert s d x) (hx:Za st.t x=some (.im (.s (.int k n)))) (hi:tab s=some i) (hj:tab d=some j) (h1:i.ik=some k0) (h2:j.ik=some k'):Ue P st o (.im (.s (.int k' (Kf k' n)))):=fun C E a w β S =>
  ⟨_,Ri.s _,fun w' _=>by simp [execOp,ho,S.ev hx,convert,(H s i hi).int k0 h1,(H d j hj).int k' h2,Conv.intToInt,WG]⟩
theorem jQ (H:Qb P tab) {t:TypeId} {i:TI} (hi:tab t=some i) {e:TypeId} {τ:Ty} {bytes:Nat} (he:i.elem=some (e,τ,bytes)) (A:Option Addr) (n c:Nat) (ty:TypeId) (w:World):(Builtin.len_ #[t] ty #[.slice A n c]).run P w=.ok (.int .i64 n) w:=by
  simp [Builtin.len_,Zi (H t i hi) he,goInt]
def nI:Nat→Int
  |0=>0
  |n+1=>nI n+1
theorem La:∀n:Nat,nI n=(n:Int)
  |0=>rfl
  |n+1=>by rw [nI,La n];rfl
theorem jR (H:Qb P tab) {x:Operand} {t:TypeId} {i:TI} {v:PV} {n:Nat} (ho:o.op=.call { callee:=.builtin .len,args:= #[x],argTypes:= #[t] }) (hx:Za st.t x=some v) (hi:tab t=some i) (hk:i.elem.isSome=true∧(∀b,v≠.im (.s (.string b)))∨i.prim=2∧∃b,v=.im (.s (.string b))) (hn:Sk st.h v=some n):Ue P st o (.im (.s (.int .i64 n))):=fun C E a w β S=>by
  have T:=H t i hi
  have hop:=S.op hx
  rcases hk with ⟨he,hns⟩|⟨hp,b,rfl⟩
  ·obtain ⟨⟨e,τ,bytes⟩,he⟩:=Option.isSome_iff_exists.1 he
   have key:∃A c,a.eval x=.slice A n c:=by
     unfold Sk at hn
     split at hn
     ·injection hn with hn;subst hn
      generalize a.eval x=ux at *
      cases hop;exact ⟨_,_,rfl⟩
     ·injection hn with hn;subst hn
      generalize a.eval x=ux at *
      cases hop;exact ⟨_,_,rfl⟩
     ·exact absurd rfl (hns _)
     ·split at hn
      ·rename_i t' τ' xs hk
       injection hn with hn;subst hn
       obtain ⟨_,_,_,h2⟩:=hop
       obtain ⟨b,c,A,h3,h4,_⟩:=h2 _ _ _ hk
       exact ⟨A,c,h4⟩
      ·cases hn
     ·cases hn
   obtain ⟨A,c,ex⟩:=key
   exact ⟨_,Ri.s _,fun w' _=>by simp only [execOp,ho,resolve,invoke,builtin,Sem.run_bind,Sem.run_pure,Result.andThen_ok,List.map_toArray,List.map_cons,List.map_nil,ex,jQ H hi he]⟩
  ·simp only [Sk,Option.some.injEq] at hn
   subst hn
   exact ⟨_,Ri.s _,fun w' _=>by simp [execOp,ho,resolve,invoke,builtin,Nh hop,Builtin.len_,run_underlying (T.str hp),goInt]⟩
theorem jS {x y:Operand} {t t':TypeId} {a b:Int} (ho:o.op=.call { callee:=.builtin .min,args:= #[x,y],argTypes:= #[t,t'] }) (hx:Za st.t x=some (.im (.s (.int .i64 a)))) (hy:Za st.t y=some (.im (.s (.int .i64 b)))):Ue P st o (.im (.s (.int .i64 (min a b)))):=fun C E a' w β S =>
  ⟨_,Ri.s _,fun w' _=>by
    have:(if b<a then b else a)=min a b:=by omega
    simp [execOp,ho,resolve,invoke,builtin,S.ev hx,S.ev hy,Builtin.min_,Builtin.min2,this]⟩
theorem jT {x y:Operand} {t t':TypeId} {a b:Int} (ho:o.op=.call { callee:=.builtin .max,args:= #[x,y],argTypes:= #[t,t'] }) (hx:Za st.t x=some (.im (.s (.int .i64 a)))) (hy:Za st.t y=some (.im (.s (.int .i64 b)))):Ue P st o (.im (.s (.int .i64 (max a b)))):=fun C E a' w β S =>
  ⟨_,Ri.s _,fun w' _=>by
    have:(if a<b then b else a)=max a b:=by omega
    simp [execOp,ho,resolve,invoke,builtin,S.ev hx,S.ev hy,Builtin.max_,Builtin.max2,this]⟩
theorem Z3 (H:Qb P tab) {x:Operand} {t:TypeId} {i:TI} {v:PV} {n:Nat} (ho:o.op=.call { callee:=.builtin .len,args:= #[x],argTypes:= #[t] }) (hx:Za st.t x=some v) (hi:tab t=some i) (hk:i.elem.isSome=true∧(∀b,v≠.im (.s (.string b)))∨i.prim=2∧∃b,v=.im (.s (.string b))) (hn:Sk st.h v=some n):Ue P st o (.im (.s (.int .i64 (nI n)))):=by
  rw [La];exact jR H ho hx hi hk hn
def B4 (st:St) (i:TI) (v:PV):Option (Bool×PV):=match v with
  | .im (.s (.string b))=>bif Nat.beq i.prim 2 then some (true,.im (.s (.int .i64 (nI b.size)))) else none
  |v=>bif i.elem.isSome then (match Sk st.h v with|some n=>some (true,.im (.s (.int .i64 (nI n))))|none=>none) else none
def D4 (tab:TypeId→Option TI) (st:St) (b:Builtin) (xs:List Operand) (ts:List TypeId):Option (Bool×PV):=match b,xs,ts with
  | .len,[x],[t]=>match Za st.t x,tab t with|some v,some i=>B4 st i v|_,_=>none
  | .min,[x,y],[_,_]=>match Za st.t x,Za st.t y with|some (.im (.s (.int .i64 a))),some (.im (.s (.int .i64 b)))=>some (true,.im (.s (.int .i64 (min a b))))|_,_=>none
  | .max,[x,y],[_,_]=>match Za st.t x,Za st.t y with|some (.im (.s (.int .i64 a))),some (.im (.s (.int .i64 b)))=>some (true,.im (.s (.int .i64 (max a b))))|_,_=>none
  |_,_,_=>none
def E4:PV→Option Operand→Bool
  | .own _,some (.const (.int _ (.ofNat 0)))=>false
  | .own _,_=>true
  |_,_=>false
def KP (tab:TypeId→Option TI) (st:St) (i j:TI) (v:PV):Option (Bool×PV):=bif Nat.beq j.prim 2 then (match i.elem,BH st.h v with
  |some (e,.u8,_),some xs=>(match tab e with|some ie=>(match ie.ik with|some .u8=>some (true,.im (.s (.string (YG xs))))|_=>none)|none=>none)
  |_,_=>none) else none
def Ln (st:St):Op→Bool
  | .convert _ _ x=>match Za st.t x with|some (.im (.s _))=>false|_=>true
  |_=>false
def Vj (tab:TypeId→Option TI) (st:St) (op:Op):Option (Bool×PV):=match op with
  | .move x=>match Za st.t x with|some v=>some (true,v)|none=>none
  | .assign x=>match Za st.t x with|some v=>some (true,v)|none=>none
  | .pick c x y=>match Za st.t c,Za st.t x,Za st.t y with|some (.im (.s (.bool b))),some v1,some v2=>some (true,bif b then v1 else v2)|_,_,_=>none
  | .binOp op t x y _=>match Za st.t x,Za st.t y with|some vx,some vy=>(match VO tab t op vx vy with|some (c,r)=>some (c,.im (.s r))|none=>(match WO tab t op vx y with|some c=>some (c,.im (.s (.bool false)))|none=>none))|_,_=>none
  | .unOp op _ x=>match Za st.t x with|some (.im (.s vx))=>(match XO op vx with|some r=>some (true,.im (.s r))|none=>none)|_=>none
  | .load t x=>match Za st.t x,tab t with|some v,some i=>(match Kx st i v with|some r=>some (true,r)|none=>none)|_,_=>none
  | .fieldAddr t x j=>match Za st.t x,tab t with|some v,some i=>(match i.fields[j]? with|some (off,_)=>(match YO off v with|some r=>some (true,r)|none=>none)|none=>none)|_,_=>none
  | .indexAddr t x y=>match Za st.t x,Za st.t y,tab t with|some v,some (.im (.s (.int _ z))),some i=>FP st.h i z v|_,_,_=>none
  | .index t x y=>match Za st.t x,Za st.t y,tab t with|some (.im (.s (.string b))),some (.im (.s (.int _ z))),some i=>bif Nat.beq i.prim 2 then some (Ea z b.size,.im (.s (.int .u8 (b.get! z.toNat).toNat))) else none|_,_,_=>none
  | .slice t x l m none=>match Za st.t x,tab t with|some v,some i=>(bif E4 v m then none else (match Sk st.h v with|some n=>(match Uj st.t l 0,Uj st.t m n with|some lo,some hi=>GP i lo hi v|_,_=>none)|none=>none))|_,_=>none
  | .build t parts=>match tab t with|some i=>(match HP st.t i parts.toList with|some v=>some (true,v)|none=>none)|none=>none
  | .makeFunc (.func f) first caps=>match first.toList,Vu st.t caps.toList with|[],some vs=>some (true,.fn f vs)|_,_=>none
  | .extract x i=>match Za st.t x with|some (.tup cs)=>(match cs[i]? with|some v=>some (true,v)|none=>none)|_=>none
  | .nilCheck x=>match Za st.t x with|some (.ptr k p)=>some (true,.ptr k p)|_=>none
  | .convert s d x=>match Za st.t x,tab s,tab d with
    |some (.im (.s (.int _ n))),some i,some j=>(match i.ik,j.ik with|some _,some k'=>some (true,.im (.s (.int k' (Kf k' n))))|_,_=>none)
    |some v,some i,some j=>KP tab st i j v
    |_,_,_=>none
  | .field t x j=>match Za st.t x,tab t with
    |some (.agg cs),some i=>(match i.fields[j]?,i.fg[j]? with|some (off,fs),some b=>(match IP b fs (cs.drop off) with|some v=>some (true,v)|none=>none)|_,_=>none)
    |_,_=>none
  | .call c=>match c.callee with| .builtin b=>D4 tab st b c.args.toList c.argTypes.toList|_=>none
  |_=>none
theorem Tk {α:Type} {a:Array α} {l:List α} (h:a.toList=l):a=l.toArray:=by subst h;simp
theorem LP (H:Qb P tab) {c:Bool} {v:PV} (h:Vj tab st o.op=some (c,v)) (hc:c=true) (hl:∀t x,o.op≠.load t x) (hcv:Ln st o.op=false):Ue P st o v:=by
  unfold Vj at h
  split at h
  ·rename_i x ho
   split at h
   ·rename_i v' hv;injection h with h;injection h with _ h;subst h;exact jA ho hv
   ·cases h
  ·rename_i x ho
   split at h
   ·rename_i v' hv;injection h with h;injection h with _ h;subst h;exact jB ho hv
   ·cases h
  ·rename_i c' x y ho
   split at h
   ·rename_i b v1 v2 h1 h2 h3;injection h with h;injection h with _ h;subst h;exact jC ho h1 h2 h3
   ·cases h
  ·rename_i op t x y t' ho
   split at h
   ·rename_i vx vy h1 h2
    split at h
    ·rename_i c' r hr;injection h with h;injection h with h0 h;subst h h0;exact iY H ho h1 h2 hr hc
    ·split at h
     ·rename_i c' hr;injection h with h;injection h with h0 h;subst h h0;exact iZ H ho h1 hr hc
     ·cases h
   ·cases h
  ·rename_i op t x ho
   split at h
   ·rename_i vx h1
    split at h
    ·rename_i r hr;injection h with h;injection h with h0 h;subst h;exact jD ho h1 hr
    ·cases h
   ·cases h
  ·rename_i t x ho
   exact absurd ho (hl t x)
  ·rename_i t x j ho
   split at h
   ·rename_i v' i h1 h2
    split at h
    ·rename_i off fs hf
     split at h
     ·rename_i r hr;injection h with h;injection h with h0 h;subst h;exact jE H ho h1 h2 hf hr
     ·cases h
    ·cases h
   ·cases h
  ·rename_i t x y ho
   split at h
   ·rename_i v' k z i h1 h2 h3;exact jF H ho h1 h2 h3 h hc
   ·cases h
  ·rename_i t x y ho
   split at h
   ·rename_i b k z i h1 h2 h3
    cases hp:Nat.beq i.prim 2 with
    |false=>rw [hp] at h;cases h
    |true =>
     rw [hp] at h
     injection h with h;injection h with h0 h;subst h h0
     exact jG H ho h1 h2 h3 (Nat.eq_of_beq_eq_true hp) hc
   ·cases h
  ·rename_i t x l m ho
   split at h
   ·rename_i v' i h1 h2
    cases hop:E4 v' m with
    |true=>rw [hop] at h;cases h
    |false =>
    rw [hop] at h
    simp only [cond_false] at h
    split at h
    ·rename_i n hn
     split at h
     ·rename_i lo hi h3 h4;exact jH H ho h1 hn h3 h4 h2 h hc
     ·cases h
    ·cases h
   ·cases h
  ·rename_i t parts ho
   split at h
   ·rename_i i hi
    split at h
    ·rename_i r hr;injection h with h;injection h with h0 h;subst h;exact jI H ho hi hr
    ·cases h
   ·cases h
  ·rename_i f first caps ho
   split at h
   ·rename_i vs h1 h2
    injection h with h;injection h with h0 h;subst h
    have:=Tk h1
    subst this
    exact jJ ho h2
   ·cases h
  ·rename_i x i ho
   split at h
   ·rename_i cs h1
    split at h
    ·rename_i r hr;injection h with h;injection h with h0 h;subst h;exact jK ho h1 hr
    ·cases h
   ·cases h
  ·rename_i x ho
   split at h
   ·rename_i k p h1;injection h with h;injection h with h0 h;subst h;exact jO ho h1
   ·cases h
  ·rename_i s d x ho
   split at h
   ·rename_i k n i j h1 h2 h3
    split at h
    ·rename_i k0 k' h4 h5;injection h with h;injection h with h0 h;subst h;exact jP H ho h1 h2 h3 h4 h5
    ·cases h
   ·rename_i v' i j hne h1 h2 h3
    exfalso
    rw [ho] at hcv
    unfold KP at h
    cases hq:Nat.beq j.prim 2 with
    |false=>rw [hq] at h;cases h
    |true =>
     rw [hq] at h
     simp only [cond_true] at h
     simp only [Ln,h1] at hcv
     split at hcv
     ·rename_i z hz
      injection hz with hz
      subst hz
      simp [BH] at h
     ·cases hcv
   ·cases h
  ·rename_i t x j ho
   split at h
   ·rename_i cs i h1 h2
    split at h
    ·rename_i off fs b h3 h4
     split at h
     ·rename_i r hr;injection h with h;injection h with h0 h;subst h;exact jL H ho h1 h2 h3 h4 hr
     ·cases h
    ·cases h
   ·cases h
  ·rename_i cl ho
   split at h
   ·rename_i b hb
    obtain ⟨callee,args,argTypes⟩:=cl
    simp only at hb h
    subst hb
    unfold D4 at h
    split at h
    ·rename_i x t h1 h2
     have h1:=Tk h1
     have h2:=Tk h2
     subst h1 h2
     split at h
     ·rename_i v' i h3 h4
      unfold B4 at h
      split at h
      ·cases hp:Nat.beq i.prim 2 with
       |false=>rw [hp] at h;cases h
       |true =>
        rw [hp] at h
        injection h with h;injection h with h0 h;subst h
        exact Z3 H ho h3 h4 (.inr ⟨Nat.eq_of_beq_eq_true hp,_,rfl⟩) rfl
      ·rename_i hns
       cases hp:i.elem.isSome with
       |false=>rw [hp] at h;cases h
       |true =>
        rw [hp] at h
        simp only [cond_true] at h
        split at h
        ·rename_i n hn
         injection h with h;injection h with h0 h;subst h
         exact Z3 H ho h3 h4 (.inl ⟨hp,fun b e=>hns b e⟩) hn
        ·cases h
     ·cases h
    ·rename_i x y t t' h1 h2
     have h1:=Tk h1
     have h2:=Tk h2
     subst h1 h2
     split at h
     ·rename_i p q h3 h4;injection h with h;injection h with h0 h;subst h;exact jS ho h3 h4
     ·cases h
    ·rename_i x y t t' h1 h2
     have h1:=Tk h1
     have h2:=Tk h2
     subst h1 h2
     split at h
     ·rename_i p q h3 h4;injection h with h;injection h with h0 h;subst h;exact jT ho h3 h4
     ·cases h
    ·cases h
   ·cases h
  ·cases h
theorem CH (H:Qb P tab) {c:Bool} {v:PV} (h:Vj tab st o.op=some (c,v)) (hc:c=true):Jx P st o v:=by
  by_cases hl:∃t x,o.op=.load t x
  ·obtain ⟨t,x,ho⟩:=hl
   rw [ho] at h
   simp only [Vj] at h
   split at h
   ·rename_i v' i h1 h2
    split at h
    ·rename_i r hr;injection h with h;injection h with h0 h;subst h;exact L3 H ho h1 h2 hr
    ·cases h
   ·cases h
  ·cases hcv:Ln st o.op with
   |false=>exact (LP H h hc (fun t x e=>hl ⟨t,x,e⟩) hcv).val
   |true =>
    unfold Ln at hcv
    split at hcv
    ·rename_i s d x ho
     rw [ho] at h
     simp only [Vj] at h
     split at h
     ·rename_i k n i j h1 h2 h3
      rw [h1] at hcv
      cases hcv
     ·rename_i v' i j hne h1 h2 h3
      unfold KP at h
      cases hq:Nat.beq j.prim 2 with
      |false=>rw [hq] at h;cases h
      |true =>
       rw [hq] at h
       simp only [cond_true] at h
       split at h
       ·rename_i e bytes xs h4 h5
        split at h
        ·rename_i ie h6
         split at h
         ·rename_i h7
          injection h with h;injection h with _ h;subst h
          exact jN H ho h1 h2 h3 (Nat.eq_of_beq_eq_true hq) h4 h6 h7 h5
         ·cases h
        ·cases h
       ·cases h
     ·cases h
    ·cases hcv
end
end Go.Proofs.YtknkhdjhongklaaGreat
namespace Go.Proofs.YtknkhdjhongklaaGreat
open Go.RowKit
def St.put (st:St) (d:Option Nat) (v:PV):St:=match d with|some d=>⟨(d,v)::st.t,st.h⟩|none=>st
section
variable {P:Program} {st:St} {o:Oper} {C:Pc} {E:Nat→Prop} {a:Act} {w w':World} {β β':List (Nat×Nat)}
theorem Cf (d:Option Nat) (v:PV):(st.put d v).h=st.h:=by cases d<;>rfl
theorem Uk {d i:Nat} (e:¬d=i):Nat.beq d i=false:=by
  cases hq:Nat.beq d i with
  |false=>rfl
  |true=>exact absurd (Nat.eq_of_beq_eq_true hq) e
theorem Jb.put (S:Jb C E st a w β) {d:Option Nat} {v:PV} {u:Value} (hd:∀i,d=some i→i<C.N) (h:Cv w E C.X st.h β v u):Jb C E (st.put d v) (a.put d u) w β:=by
  cases d with
  |none=>exact S
  |some d =>
   have hd:=hd d rfl
   refine ⟨S.cl,S.xw,S.step,S.heap,by simpa [Act.put] using S.sz,S.df,fun i v' hi=>?_⟩
   simp only [St.put,Kd] at hi
   by_cases e:d=i
   ·subst e
    simp only [Nat.beq_refl,cond_true,Option.some.injEq] at hi
    subst hi
    exact ⟨u,by simp [Act.put,S.sz,hd],h⟩
   ·rw [Uk e] at hi
    obtain ⟨u',h1,h2⟩:=S.tm i v' hi
    refine ⟨u',?_,h2⟩
    simp [Act.put,e,h1]
theorem Jb.world (S:Oa C st a w β) {h':List Ca} (hs:Gb w st.h β w' h' β') (hh:Pb w' (Da h' β') C.X h' β'):Oa C ⟨st.t,h'⟩ a w' β' :=
  ⟨S.cl,S.xw,S.step.trans hs,hh,S.sz,S.df,fun i v hi=>by
    obtain ⟨u,h1,h2⟩:=S.tm i v hi
    exact ⟨u,h1,h2.keep hs.block hs.size (fun b hb hn h=>hn (hs.new b hb h)) (fun _ _ _ h=>h) hs.hle hs.beta⟩⟩
theorem Yl {β:List (Nat×Nat)} (l:List (Nat×Nat)):∀(k:Nat) p,β[k]? =some p→(β++l)[k]? =some p:=fun k p h=>by
  rw [List.getElem?_append_left (List.getElem?_eq_some_iff.1 h).1];exact h
theorem Vf.keep {E E' X:Nat→Prop} {h h':List Ca} {k:Nat} {o:Ca} (ho:Vf w E X h β k o) (hkb:∀b c,β[k]? =some (b,c)→Bc o c→w'.heap[b]? =w.heap[b]?)
    (hk:∀b,b<w.heap.size→¬E b→w'.heap[b]? =w.heap[b]?) (hs:w.heap.size≤w'.heap.size) (hE:∀b,b<w.heap.size→¬E b→¬E' b) (hh:Cc h h') (hβ:∀(k:Nat) p,β[k]? =some p→β'[k]? =some p):Vf w' E' X h' β' k o:=by
  cases o with
  |dead=>trivial
  |vrow t τ=>obtain ⟨b,h1⟩:=ho;exact ⟨b,hβ _ _ h1⟩
  |row t τ xs =>
   obtain ⟨b,c,h1,h2,h3,h4⟩:=ho
   refine ⟨b,c,hβ _ _ h1,h2,h3,fun hc=>?_⟩
   obtain ⟨us,junk,h5,h6,h7⟩:=h4 hc
   exact ⟨us,junk,(hkb b c h1 hc).trans h5,h6.mono fun x u h=>h.keep hk hs hE (fun _ _ _ h=>h),h7⟩
  |box t cs =>
   obtain ⟨b,c,us,h1,h2,h3,h4⟩:=ho
   exact ⟨b,c,us,hβ _ _ h1,(hkb b c h1 trivial).trans h2,h3.mono fun x u h=>h.keep hk hs hE (fun _ _ _ h=>h) hh hβ,h4⟩
theorem Px {E X:Nat→Prop} {h:List Ca} (hh:Pb w E X h β) {k:Nat} {x:Ca} (hk:h[k]? =some x):∃b c,β[k]? =some (b,c):=by
  have:k<β.length:=by rw [hh.len];exact (List.getElem?_eq_some_iff.1 hk).1
  exact ⟨β[k].1,β[k].2,by rw [List.getElem?_eq_getElem this]⟩
theorem Jb.xlt (S:Oa C st a w β) (b:Nat) (hx:C.X b):b<w.heap.size:=Nat.lt_of_lt_of_le (S.xw b hx) S.step.size
theorem Jb.notX (S:Oa C st a w β) {h':List Ca} (hnew:∀i,i<w.heap.size→Da h' β' i→Da st.h β i) {b:Nat} (hb:Da h' β' b):¬C.X b:=fun hx=>by
  have h1:=S.xw b hx
  have h2:=S.step.size
  exact S.heap.nx b (hnew b (by omega) hb) hx
theorem Jb.genU {st0:St} (S0:Oa C st0 a w β) (h0:Gb w st0.h β w st.h β) (hsub:∀(k:Nat) p n,Mb w st.h β k p n→Mb w st0.h β k p n) (S:Oa C st a w β) {h':List Ca} (hos:w'.os=w.os) (htp:w'.tape=w.tape) (hou:w'.output=w.output) (hsz:w.heap.size≤w'.heap.size) {b':Nat} (X:Nat→Prop)
    (hblk:∀i,i<w.heap.size→¬X i→w'.heap[i]? =w.heap[i]?) (hX:∀i,i<w.heap.size→X i→Da st.h β i)
    (hnew:∀i,i<w.heap.size→Da h' β' i→Da st.h β i) (hβ:∀(k:Nat) p,β[k]? =some p→β'[k]? =some p) (hlen:β'.length=h'.length) (hle:Cc st.h h') {K:Nat}
    (NL:Prop) (hNL:NL→∀o c,h'[K]? =some o→β'[K]? =some (b',c)→¬Bc o c) (hold:∀j o,j≠K→h'[j]? =some o→o≠.dead→st.h[j]? =some o∧∀b c,β[j]? =some (b,c)→Bc o c→¬X b∧(b=b'→NL))
    (hK:∀o,h'[K]? =some o→Vf w' (Da h' β') C.X h' β' K o∧∃c,β'[K]? =some (b',c))
    (φ:Nat×Nat→Option (Nat×(Nat×Nat))) (hφ:∀p n,Mb w' h' β' K p n→(∀k0 p0,φ p=some (k0,p0)→Mb w st0.h β k0 p0 n∧∀o,k0≠K→h'[k0]? =some o→o=.dead)∧(φ p=none→Da st0.h β n))
    (hφi:∀p p' n,Mb w' h' β' K p n→Mb w' h' β' K p' n→φ p=φ p'→p=p') (hP:∀p σ u n,Va w' h' β' K p σ u→Jc u n→Gg w' σ u):Oa C ⟨st.t,h'⟩ a w' β'∧Gb w st0.h β w' h' β':=by
  have hk:∀i,i<w.heap.size→¬Da st.h β i→w'.heap[i]? =w.heap[i]? :=fun i hi hn=>hblk i hi (fun h=>hn (hX i hi h))
  have nd:∀{o:Ca} {c:Nat},Bc o c→o≠.dead:=fun h e=>by subst e;exact h
  have back:∀j p σ u,j≠K→Va w' h' β' j p σ u→Va w st.h β j p σ u:=fun j p σ u hj ho=>by
    have ho':=ho
    obtain ⟨t,τ,xs,b,c,us,junk,h1,_⟩:=ho'
    obtain ⟨h2,h3⟩:=hold j _ hj h1 (fun e=>by cases e)
    exact Tu S.heap h2 h1 (fun q=>hβ j q) (fun b c h4 _ h5=>hblk b (Da.lt S.heap ⟨j,_,c,h2,h5,h4⟩) (h3 b c h4 h5).1) hk ho
  have backO:∀j p n,j≠K→Mb w' h' β' j p n→Mb w st.h β j p n:=fun j p n hj ⟨σ,u,h1,h2⟩=>⟨σ,u,back j p σ u hj h1,h2⟩
  have kept:∀j p n k0 p0,j≠K→Mb w' h' β' j p n→Mb w st0.h β k0 p0 n→(∀o,k0≠K→h'[k0]? =some o→o=.dead)→k0≠j:=fun j p n k0 p0 hj ho _ hg e=>by
    subst e
    obtain ⟨σ,u,⟨t,τ,xs,b,c,us,junk,h1,_⟩,_⟩:=ho
    cases hg _ hj h1
  have cross:∀j p p' n,j≠K→Mb w' h' β' j p n→Mb w' h' β' K p' n→False:=fun j p p' n hj ho hoK=>by
    have h1:=hsub j p n (backO j p n hj ho)
    obtain ⟨h2,h3⟩:=hφ p' n hoK
    cases hq:φ p' with
    |none=>exact (S0.heap.occ h1).2 (h3 hq)
    |some q =>
     obtain ⟨k0,p0⟩:=q
     obtain ⟨h4,h5⟩:=h2 k0 p0 hq
     exact kept j p n k0 p0 hj ho h4 h5 (S0.heap.uq k0 p0 j p n h4 h1).1
  have hs:Gb w st0.h β w' h' β':=⟨hos,htp,hou,hsz,fun b hb hn=>hk b hb fun h=>hn (h0.new b hb h),fun b hb h=>h0.new b hb (hnew b hb h),hβ,h0.hle.trans hle,fun j p n hn ho=>by
    by_cases e:j=K
    ·subst e
     obtain ⟨h2,h3⟩:=hφ p n ho
     cases hq:φ p with
     |none=>exact .inr (h3 hq)
     |some q=>exact .inl ⟨q.1,q.2,(h2 q.1 q.2 hq).1⟩
    ·exact .inl ⟨j,p,hsub j p n (backO j p n e ho)⟩⟩
  have hE:∀b,b<w.heap.size→¬Da st.h β b→¬Da h' β' b:=fun b hb hn h=>hn (hnew b hb h)
  have uq:∀(k:Nat) (p:Nat×Nat) (k':Nat) (p':Nat×Nat) (n:Nat),Mb w' h' β' k p n→Mb w' h' β' k' p' n→k=k'∧p=p':=fun k p k' p' n h1 h2=>by
    by_cases e:k=K
    ·by_cases e':k'=K
     ·subst e e'
      refine ⟨rfl,hφi p p' n h1 h2 ?_⟩
      obtain ⟨a1,a2⟩:=hφ p n h1
      obtain ⟨b1,b2⟩:=hφ p' n h2
      cases hq:φ p with
      |none =>
       cases hq':φ p' with
       |none=>rfl
       |some q=>exact absurd (a2 hq) (S0.heap.occ (b1 q.1 q.2 hq').1).2
      |some q =>
       cases hq':φ p' with
       |none=>exact absurd (b2 hq') (S0.heap.occ (a1 q.1 q.2 hq).1).2
       |some q' =>
        obtain ⟨e1,e2⟩:=S0.heap.uq _ _ _ _ n (a1 q.1 q.2 hq).1 (b1 q'.1 q'.2 hq').1
        rw [Prod.ext e1 e2]
     ·subst e
      exact (cross k' p' p n e' h2 h1).elim
    ·by_cases e':k'=K
     ·subst e'
      exact (cross k p p' n e h1 h2).elim
     ·exact S.heap.uq k p k' p' n (backO k p n e h1) (backO k' p' n e' h2)
  have pl:∀(k:Nat) (p:Nat×Nat) (σ:Ty) (u:Value) (n:Nat),Va w' h' β' k p σ u→Jc u n→Gg w' σ u:=fun k p σ u n h1 h2=>by
    by_cases e:k=K
    ·subst e;exact hP p σ u n h1 h2
    ·have h3:=back k p σ u e h1
     have h4:=De S.heap.ok h3 h2
     exact (S.heap.pl k p σ u n h3 h2).keep h2 (hk n h4.1 h4.2)
  suffices hh:Pb w' (Da h' β') C.X h' β' from ⟨⟨S.cl,S.xw,S0.step.trans hs,hh,S.sz,S.df,fun i v hi=>by
      obtain ⟨u,h1,h2⟩:=S.tm i v hi
      exact ⟨u,h1,h2.keep hk hsz hE (fun _ _ _ h=>h) hle hβ⟩⟩,hs⟩
  refine ⟨hlen,fun _ h=>h,fun b hb=>S.notX hnew hb,fun j o hj=>?_,fun i j o o' b c c' hi hj li lj bi bj=>?_,uq,pl⟩
  ·by_cases e:j=K
   ·subst e;exact (hK o hj).1
   ·by_cases hd:o=.dead
    ·subst hd;trivial
    ·obtain ⟨h1,h2⟩:=hold j o e hj hd
     obtain ⟨b,c,hb⟩:=Px S.heap h1
     exact (S.heap.ok j o h1).keep (fun b1 c1 h3 hl=>hblk b1 (Da.lt S.heap ⟨j,o,c1,h1,hl,h3⟩) (h2 b1 c1 h3 hl).1) hk hsz hE hle hβ
  ·by_cases ei:i=K
   ·by_cases ej:j=K
    ·rw [ei,ej]
    ·subst ei
     obtain ⟨_,c1,h1⟩:=hK o hi
     rw [h1] at bi
     injection bi with bi;injection bi with e1 e2;subst e1 e2
     obtain ⟨h2,h3⟩:=hold j o' ej hj (nd lj)
     obtain ⟨b2,c2,h4⟩:=Px S.heap h2
     have:=hβ _ _ h4
     rw [bj] at this
     injection this with this;injection this with e1 e2;subst e1 e2
     exact absurd li (hNL ((h3 _ _ h4 lj).2 rfl) o c1 hi h1)
   ·by_cases ej:j=K
    ·subst ej
     obtain ⟨_,c1,h1⟩:=hK o' hj
     rw [h1] at bj
     injection bj with bj;injection bj with e1 e2;subst e1 e2
     obtain ⟨h2,h3⟩:=hold i o ei hi (nd li)
     obtain ⟨b2,c2,h4⟩:=Px S.heap h2
     have:=hβ _ _ h4
     rw [bi] at this
     injection this with this;injection this with e1 e2;subst e1 e2
     exact absurd lj (hNL ((h3 _ _ h4 li).2 rfl) o' c1 hj h1)
    ·obtain ⟨h2,_⟩:=hold i o ei hi (nd li)
     obtain ⟨h3,_⟩:=hold j o' ej hj (nd lj)
     obtain ⟨b2,c2,h4⟩:=Px S.heap h2
     obtain ⟨b3,c3,h5⟩:=Px S.heap h3
     have q1:=hβ _ _ h4
     have q2:=hβ _ _ h5
     rw [bi] at q1
     rw [bj] at q2
     injection q1 with q1;injection q1 with e1 e2;subst e1 e2
     injection q2 with q2;injection q2 with e1 e2;subst e1 e2
     exact S.heap.inj i j o o' _ _ _ h2 h3 li lj h4 h5
theorem DH {h:List Ca} {o:Ca} {b c k:Nat} (hl:β.length=h.length) (h1:Da (h++[o]) (β++[(b,c)]) k):Da h β k∨k=b∧Bc o c:=by
  obtain ⟨j,o',c',h2,h3,h4⟩:=h1
  rw [List.getElem?_append] at h2 h4
  rw [hl] at h4
  split at h2
  ·rename_i hj
   rw [if_pos hj] at h4
   exact .inl ⟨j,o',c',h2,h3,h4⟩
  ·rename_i hj
   rw [if_neg hj] at h4
   rcases Nat.eq_zero_or_pos (j-h.length) with e|e
   ·rw [e] at h4 h2
    simp at h4 h2
    obtain ⟨e1,e2⟩:=h4
    subst e1 e2 h2
    exact .inr ⟨rfl,h3⟩
   ·rw [List.getElem?_eq_none (by simp;omega)] at h4;cases h4
theorem Jb.newU {st0:St} (S0:Oa C st0 a w β) (h0:Gb w st0.h β w st.h β) (hsub:∀(k:Nat) p n,Mb w st.h β k p n→Mb w st0.h β k p n) (S:Oa C st a w β) (hb:Below w.heap.size w w') {B c:Nat} {o:Ca} (hB:Bc o c→w.heap.size≤B) (ho:∀E':Nat→Prop,(∀b,b<w.heap.size→¬Da st.h β b→¬E' b)→∀h' β',Cc st.h h'→(∀(k:Nat) p,β[k]? =some p→β'[k]? =some p)→β'[st.h.length]? =some (B,c)→Vf w' E' C.X h' β' st.h.length o)
    (φ:Nat×Nat→Option (Nat×(Nat×Nat))) (hφ:∀p n,Mb w' (st.h++[o]) (β++[(B,c)]) st.h.length p n→(∀k0 p0,φ p=some (k0,p0)→Mb w st0.h β k0 p0 n∧∀o',k0≠st.h.length→(st.h++[o])[k0]? =some o'→o'=.dead)∧(φ p=none→Da st0.h β n))
    (hφi:∀p p' n,Mb w' (st.h++[o]) (β++[(B,c)]) st.h.length p n→Mb w' (st.h++[o]) (β++[(B,c)]) st.h.length p' n→φ p=φ p'→p=p') (hP:∀p σ u n,Va w' (st.h++[o]) (β++[(B,c)]) st.h.length p σ u→Jc u n→Gg w' σ u) :
    Oa C ⟨st.t,st.h++[o]⟩ a w' (β++[(B,c)])∧Gb w st0.h β w' (st.h++[o]) (β++[(B,c)]):=by
  have hl:=S.heap.len
  have hn:∀i,i<w.heap.size→Da (st.h++[o]) (β++[(B,c)]) i→Da st.h β i:=fun i hi h=>(DH hl h).resolve_right (fun ⟨e,h⟩=>by have:=hB h;omega)
  have hβ:(β++[(B,c)])[st.h.length]? =some (B,c):=by rw [List.getElem?_append_right (by omega),hl,Nat.sub_self];rfl
  have hle:=Cc.push st.h [o]
  have hlast:∀o',(st.h++[o])[st.h.length]? =some o'→o'=o:=fun o' h=>by
    rw [List.getElem?_append_right (Nat.le_refl _),Nat.sub_self] at h
    simp only [List.getElem?_cons_zero,Option.some.injEq] at h
    exact h.symm
  refine Jb.genU S0 h0 hsub S (K:=st.h.length) (b':=B) hb.os hb.tape hb.output hb.size (fun _=>False) (fun i hi _=>hb.block i hi) (fun _ _ h=>h.elim) hn (Yl _) (by simp [hl]) hle (¬Bc o c) (fun h o' c' q1 q2 q3=>?_) (fun j o' hj h _=>?_) (fun o' h=>?_) φ hφ hφi hP
  ·rw [hlast o' q1] at q3
   rw [hβ] at q2
   injection q2 with q2;injection q2 with _ e2
   subst e2
   exact h q3
  ·have hjl:j<st.h.length:=by
     have:=(List.getElem?_eq_some_iff.1 h).1
     simp at this;omega
   rw [List.getElem?_append_left hjl] at h
   refine ⟨h,fun b c' e hl=>⟨id,fun q hlive=>?_⟩⟩
   have:=Da.lt S.heap ⟨j,o',c',h,hl,e⟩
   have:=hB hlive
   omega
  ·rw [hlast o' h]
   exact ⟨ho _ (fun b hb hnl h=>hnl (hn b hb h)) _ _ hle (Yl _) hβ,c,hβ⟩
theorem Jb.new (S:Oa C st a w β) (hb:Below w.heap.size w w') {B c:Nat} {o:Ca} (hB:Bc o c→w.heap.size≤B) (ho:∀E':Nat→Prop,(∀b,b<w.heap.size→¬Da st.h β b→¬E' b)→∀h' β',Cc st.h h'→(∀(k:Nat) p,β[k]? =some p→β'[k]? =some p)→β'[st.h.length]? =some (B,c)→Vf w' E' C.X h' β' st.h.length o) (hN:o.nu=true) :
    Oa C ⟨st.t,st.h++[o]⟩ a w' (β++[(B,c)])∧Gb w st.h β w' (st.h++[o]) (β++[(B,c)]):=by
  have hl:=S.heap.len
  have hn:∀i,i<w.heap.size→Da (st.h++[o]) (β++[(B,c)]) i→Da st.h β i:=fun i hi h=>(DH hl h).resolve_right (fun ⟨e,h⟩=>by have:=hB h;omega)
  have hβ:(β++[(B,c)])[st.h.length]? =some (B,c):=by rw [List.getElem?_append_right (by omega),hl,Nat.sub_self];rfl
  have hlast:(st.h++[o])[st.h.length]? =some o:=by rw [List.getElem?_append_right (Nat.le_refl _),Nat.sub_self];rfl
  have no:∀p σ u n,Va w' (st.h++[o]) (β++[(B,c)]) st.h.length p σ u→Jc u n→False:=fun p σ u n h1 hs=>NO hlast (ho _ (fun b hb hnl h=>hnl (hn b hb h)) _ _ (Cc.push st.h [o]) (Yl _) hβ) hN h1 hs
  exact Jb.newU S (Gb.refl _ _ _) (fun _ _ _ h=>h) S hb hB ho (fun _=>none) (fun p n ⟨σ,u,h,hs⟩=>(no p σ u n h hs).elim) (fun p _ n ⟨σ,u,h,hs⟩=>(no p σ u n h hs).elim) (fun p σ u n h hs=>(no p σ u n h hs).elim)
theorem EH {h:List Ca} {k i:Nat} {o o':Ca} (hk:h[k]? =some o) (hlv:∀c,Bc o' c→Bc o c) (hl:Da (h.set k o') β i):Da h β i:=by
  obtain ⟨j,o1,c1,h1,h2,h3⟩:=hl
  rw [List.getElem?_set] at h1
  split at h1
  ·rename_i e
   subst e
   split at h1
   ·injection h1 with h1
    subst h1
    exact ⟨k,o,c1,hk,hlv c1 h2,h3⟩
   ·cases h1
  ·exact ⟨j,o1,c1,h1,h2,h3⟩
theorem FH {h:List Ca} {k:Nat} {o o':Ca} (hk:h[k]? =some o) (hrow:∀t τ (xs':List (El τ)),o'=.row t τ xs'→∃xs:List (El τ),o=.row t τ xs∧xs.length=xs'.length) (hv:∀t τ,o'≠.vrow t τ):Cc h (h.set k o'):=⟨by simp,fun j t τ xs' hj e=>by
  rw [List.getElem?_set] at e
  split at e
  ·rename_i ej
   subst ej
   rw [if_pos (by simpa using (List.getElem?_eq_some_iff.1 hk).1)] at e
   have e:=Option.some.inj e
   obtain ⟨xs,h1,h2⟩:=hrow t τ xs' e
   exact .inl ⟨xs,by rw [hk,h1],h2⟩
  ·exact .inl ⟨xs',e,rfl⟩,fun j hj e=>by
  unfold Vb at *
  rw [List.getElem?_set] at e
  split at e
  ·rename_i o1 t τ hq
   split at hq
   ·split at hq
    ·injection hq with hq;exact absurd hq (hv _ _)
    ·cases hq
   ·rw [hq]
  ·cases e⟩
theorem Jb.turnU {st0:St} (S0:Oa C st0 a w β) (h0:Gb w st0.h β w st.h β) (hsub:∀(k:Nat) p n,Mb w st.h β k p n→Mb w st0.h β k p n) (S:Oa C st a w β) {b c k:Nat} {o o':Ca} (hk:st.h[k]? =some o) (hβ:β[k]? =some (b,c)) (hlo:Bc o c) (hlv:∀c,Bc o' c→Bc o c) (hrow:∀t τ (xs':List (El τ)),o'=.row t τ xs'→∃xs:List (El τ),o=.row t τ xs∧xs.length=xs'.length) (hv:∀t τ,o'≠.vrow t τ)
    (hos:w'.os=w.os) (htp:w'.tape=w.tape) (hou:w'.output=w.output) (hsz:w.heap.size≤w'.heap.size) (hoth:∀i,i<w.heap.size→i≠b→w'.heap[i]? =w.heap[i]?)
    (ho:∀E':Nat→Prop,(∀b,b<w.heap.size→¬Da st.h β b→¬E' b)→∀h',Cc st.h h'→Vf w' E' C.X h' β k o')
    (φ:Nat×Nat→Option (Nat×(Nat×Nat))) (hφ:∀p n,Mb w' (st.h.set k o') β k p n→(∀k0 p0,φ p=some (k0,p0)→Mb w st0.h β k0 p0 n∧∀o1,k0≠k→(st.h.set k o')[k0]? =some o1→o1=.dead)∧(φ p=none→Da st0.h β n))
    (hφi:∀p p' n,Mb w' (st.h.set k o') β k p n→Mb w' (st.h.set k o') β k p' n→φ p=φ p'→p=p') (hP:∀p σ u n,Va w' (st.h.set k o') β k p σ u→Jc u n→Gg w' σ u) :
    Oa C ⟨st.t,st.h.set k o'⟩ a w' β∧Gb w st0.h β w' (st.h.set k o') β:=by
  have hkl:k<st.h.length:=(List.getElem?_eq_some_iff.1 hk).1
  have hlb:Da st.h β b:=⟨k,o,c,hk,hlo,hβ⟩
  have hn:∀i,i<w.heap.size→Da (st.h.set k o') β i→Da st.h β i:=fun i _ h=>EH hk hlv h
  have hle:=FH hk hrow hv
  refine Jb.genU S0 h0 hsub S (K:=k) (b':=b) hos htp hou hsz (·=b) hoth (fun i _ h=>h▸hlb) hn (fun _ _ h=>h) (by simp [S.heap.len]) hle False (fun h=>h.elim) (fun j o1 hj h hd=>?_) (fun o1 h=>?_) φ hφ hφi hP
  ·rw [List.getElem?_set,if_neg (Ne.symm hj)] at h
   exact ⟨h,fun b1 c' e hl=>⟨fun q=>hj (S.heap.inj j k o1 o b c' c h hk hl hlo (q▸e) hβ),fun q=>hj (S.heap.inj j k o1 o b c' c h hk hl hlo (q▸e) hβ)⟩⟩
  ·rw [List.getElem?_set,if_pos rfl,if_pos hkl] at h
   injection h with h
   subst h
   exact ⟨ho _ (fun b hb hnl h=>hnl (hn b hb h)) _ hle,c,hβ⟩
theorem Jb.turn (S:Oa C st a w β) {b c k:Nat} {o o':Ca} (hk:st.h[k]? =some o) (hβ:β[k]? =some (b,c)) (hlo:Bc o c) (hlv:∀c,Bc o' c→Bc o c) (hrow:∀t τ (xs':List (El τ)),o'=.row t τ xs'→∃xs:List (El τ),o=.row t τ xs∧xs.length=xs'.length) (hv:∀t τ,o'≠.vrow t τ)
    (hos:w'.os=w.os) (htp:w'.tape=w.tape) (hou:w'.output=w.output) (hsz:w.heap.size≤w'.heap.size) (hoth:∀i,i<w.heap.size→i≠b→w'.heap[i]? =w.heap[i]?)
    (ho:∀E':Nat→Prop,(∀b,b<w.heap.size→¬Da st.h β b→¬E' b)→∀h',Cc st.h h'→Vf w' E' C.X h' β k o') (hN:o'.nu=true) :
    Oa C ⟨st.t,st.h.set k o'⟩ a w' β∧Gb w st.h β w' (st.h.set k o') β:=by
  have hkl:k<st.h.length:=(List.getElem?_eq_some_iff.1 hk).1
  have hn:∀i,i<w.heap.size→Da (st.h.set k o') β i→Da st.h β i:=fun i _ h=>EH hk hlv h
  have no:∀p σ u n,Va w' (st.h.set k o') β k p σ u→Jc u n→False:=fun p σ u n h1 hs=>NO (by rw [List.getElem?_set,if_pos rfl,if_pos hkl]) (ho _ (fun b hb hnl h=>hnl (hn b hb h)) _ (FH hk hrow hv)) hN h1 hs
  exact Jb.turnU S (Gb.refl _ _ _) (fun _ _ _ h=>h) S hk hβ hlo hlv hrow hv hos htp hou hsz hoth ho (fun _=>none) (fun p n ⟨σ,u,h,hs⟩=>(no p σ u n h hs).elim) (fun p _ n ⟨σ,u,h,hs⟩=>(no p σ u n h hs).elim) (fun p σ u n h hs=>(no p σ u n h hs).elim)
theorem Jb.appU {st0:St} (S0:Oa C st0 a w β) (h0:Gb w st0.h β w st.h β) (hsub:∀(k:Nat) p n,Mb w st.h β k p n→Mb w st0.h β k p n) (S:Oa C st a w β) {b c k b' c':Nat} {o o':Ca} (hk:st.h[k]? =some o) (hβ:β[k]? =some (b,c)) (hos:w'.os=w.os) (htp:w'.tape=w.tape) (hou:w'.output=w.output) (hsz:w.heap.size≤w'.heap.size)
    (hoth:∀i,i<w.heap.size→(i=b∧Bc o c)∨w'.heap[i]? =w.heap[i]?) (hb':Bc o c∧b'=b∨w.heap.size≤b') (ho:∀E':Nat→Prop,(∀b,b<w.heap.size→¬Da st.h β b→¬E' b)→∀h' β',Cc st.h h'→(∀(k:Nat) p,β[k]? =some p→β'[k]? =some p)→β'[st.h.length]? =some (b',c')→Vf w' E' C.X h' β' st.h.length o')
    (φ:Nat×Nat→Option (Nat×(Nat×Nat))) (hφ:∀p n,Mb w' (st.h.set k .dead++[o']) (β++[(b',c')]) st.h.length p n→(∀k0 p0,φ p=some (k0,p0)→Mb w st0.h β k0 p0 n∧∀o1,k0≠st.h.length→(st.h.set k .dead++[o'])[k0]? =some o1→o1=.dead)∧(φ p=none→Da st0.h β n))
    (hφi:∀p p' n,Mb w' (st.h.set k .dead++[o']) (β++[(b',c')]) st.h.length p n→Mb w' (st.h.set k .dead++[o']) (β++[(b',c')]) st.h.length p' n→φ p=φ p'→p=p') (hP:∀p σ u n,Va w' (st.h.set k .dead++[o']) (β++[(b',c')]) st.h.length p σ u→Jc u n→Gg w' σ u) :
    Oa C ⟨st.t,st.h.set k .dead++[o']⟩ a w' (β++[(b',c')])∧Gb w st0.h β w' (st.h.set k .dead++[o']) (β++[(b',c')]):=by
  have hl:=S.heap.len
  have hn:∀i,i<w.heap.size→Da (st.h.set k .dead++[o']) (β++[(b',c')]) i→Da st.h β i:=fun i hi h=>by
    rcases DH (by simp [hl]) h with h|⟨h,_⟩
    ·exact EH (o':=.dead) hk (fun c h=>False.elim h) h
    ·rcases hb' with ⟨hlo,e⟩|e
     ·rw [h,e];exact ⟨k,o,c,hk,hlo,hβ⟩
     ·omega
  have hβ':(β++[(b',c')])[st.h.length]? =some (b',c'):=by rw [List.getElem?_append_right (by omega),hl,Nat.sub_self];rfl
  have hle:Cc st.h (st.h.set k .dead++[o']):=(FH hk (fun t τ xs' e=>by cases e) (fun _ _ e=>by cases e)).trans (Cc.push _ _)
  refine Jb.genU S0 h0 hsub S (K:=st.h.length) (b':=b') hos htp hou hsz (fun i=>i=b∧Bc o c) (fun i hi hne=>(hoth i hi).resolve_left hne) (fun i _ h=>h.1▸⟨k,o,c,hk,h.2,hβ⟩) hn (Yl _) (by simp [hl]) hle False (fun h=>h.elim) (fun j o1 hj h hd=>?_) (fun o1 h=>?_) φ hφ hφi hP
  ·have hjl:j<st.h.length:=by
     have:=(List.getElem?_eq_some_iff.1 h).1
     simp at this;omega
   rw [List.getElem?_append_left (by simpa using hjl),List.getElem?_set] at h
   split at h
   ·split at h
    ·injection h with h;exact absurd h.symm hd
    ·cases h
   ·rename_i hkj
    refine ⟨h,fun b1 c1 e hl1=>⟨fun q=>hkj (S.heap.inj k j o o1 b c c1 hk h q.2 hl1 hβ (q.1▸e)),fun q=>?_⟩⟩
    subst q
    rcases hb' with ⟨hlo,e'⟩|e'
    ·exact hkj (S.heap.inj k j o o1 b c c1 hk h hlo hl1 hβ (e'▸e))
    ·have:=Da.lt S.heap ⟨j,o1,c1,h,hl1,e⟩
     omega
  ·rw [List.getElem?_append_right (by simp),List.length_set,Nat.sub_self] at h
   simp only [List.getElem?_cons_zero,Option.some.injEq] at h
   subst h
   exact ⟨ho _ (fun b hb hnl h=>hnl (hn b hb h)) _ _ hle (Yl _) hβ',c',hβ'⟩
theorem Jb.app (S:Oa C st a w β) {b c k b' c':Nat} {o o':Ca} (hk:st.h[k]? =some o) (hβ:β[k]? =some (b,c)) (hos:w'.os=w.os) (htp:w'.tape=w.tape) (hou:w'.output=w.output) (hsz:w.heap.size≤w'.heap.size)
    (hoth:∀i,i<w.heap.size→(i=b∧Bc o c)∨w'.heap[i]? =w.heap[i]?) (hb':Bc o c∧b'=b∨w.heap.size≤b') (ho:∀E':Nat→Prop,(∀b,b<w.heap.size→¬Da st.h β b→¬E' b)→∀h' β',Cc st.h h'→(∀(k:Nat) p,β[k]? =some p→β'[k]? =some p)→β'[st.h.length]? =some (b',c')→Vf w' E' C.X h' β' st.h.length o') (hN:o'.nu=true) :
    Oa C ⟨st.t,st.h.set k .dead++[o']⟩ a w' (β++[(b',c')])∧Gb w st.h β w' (st.h.set k .dead++[o']) (β++[(b',c')]):=by
  have hl:=S.heap.len
  have hn:∀i,i<w.heap.size→Da (st.h.set k .dead++[o']) (β++[(b',c')]) i→Da st.h β i:=fun i hi h=>by
    rcases DH (by simp [hl]) h with h|⟨h,_⟩
    ·exact EH (o':=.dead) hk (fun c h=>False.elim h) h
    ·rcases hb' with ⟨hlo,e⟩|e
     ·rw [h,e];exact ⟨k,o,c,hk,hlo,hβ⟩
     ·omega
  have hβ':(β++[(b',c')])[st.h.length]? =some (b',c'):=by rw [List.getElem?_append_right (by omega),hl,Nat.sub_self];rfl
  have hle:Cc st.h (st.h.set k .dead++[o']):=(FH hk (fun t τ xs' e=>by cases e) (fun _ _ e=>by cases e)).trans (Cc.push _ _)
  have hlast:(st.h.set k .dead++[o'])[st.h.length]? =some o':=by rw [List.getElem?_append_right (by simp),List.length_set,Nat.sub_self];rfl
  have no:∀p σ u n,Va w' (st.h.set k .dead++[o']) (β++[(b',c')]) st.h.length p σ u→Jc u n→False:=fun p σ u n h1 hs=>NO hlast (ho _ (fun b hb hnl h=>hnl (hn b hb h)) _ _ hle (Yl _) hβ') hN h1 hs
  exact Jb.appU S (Gb.refl _ _ _) (fun _ _ _ h=>h) S hk hβ hos htp hou hsz hoth hb' ho (fun _=>none) (fun p n ⟨σ,u,h,hs⟩=>(no p σ u n h hs).elim) (fun p _ n ⟨σ,u,h,hs⟩=>(no p σ u n h hs).elim) (fun p σ u n h hs=>(no p σ u n h hs).elim)
end
end Go.Proofs.YtknkhdjhongklaaGreat
namespace Go.Proofs.YtknkhdjhongklaaGreat
open Go.RowKit
def Ph:(σ τ:Ty)→List (El σ)→Option (List (El τ))
  | .int,.int,x=>some x| .bool,.bool,x=>some x| .u8,.u8,x=>some x| .str,.str,x=>some x| .lk,.lk,x=>some x| .gr,.gr,x=>some x
  | .en,.en,x=>some x| .ls,.ls,x=>some x| .db,.db,x=>some x| .pk,.pk,x=>some x| .ev,.ev,x=>some x| .lb,.lb,x=>some x
  | .uls,.uls,x=>some x| .udb,.udb,x=>some x| .upk,.upk,x=>some x
  |_,_,_=>none
theorem Mn {σ τ:Ty} {xs:List (El σ)} {ys:List (El τ)} (h:Ph σ τ xs=some ys):∃e:σ=τ,e▸xs=ys:=by
  cases σ<;>cases τ<;>first|(cases h;done)|(injection h with h;subst h;exact ⟨rfl,rfl⟩)
def di:PV→Option Int
  | .im (.s (.int .i64 x))=>some x
  |_=>none
def Zl (τ:Ty):PV→Option (List (El τ))
  | .im (.sl true σ xs)=>Ph σ τ xs
  | .im .nil=>some []
  |_=>none
def Qx (τ:Ty) (cs:List PV):Option (El τ):=match τ with
  | .int=>match cs with|[x]=>di x|_=>none
  | .bool=>match cs with|[.im (.s (.bool b))]=>some b|_=>none
  | .u8=>match cs with|[.im (.s (.int .u8 x))]=>some x|_=>none
  | .str=>match cs with|[.im (.s (.string b))]=>some b|_=>none
  | .lk=>match cs with|[x,y,z]=>(match di x,di y,di z with|some a,some b,some c=>some (Lk.mk a b c)|_,_,_=>none)|_=>none
  | .gr=>match cs with|[x,y]=>(match di x,Zl .lk y with|some a,some b=>some (Gr.mk a b)|_,_=>none)|_=>none
  | .en=>match cs with|[x,y]=>(match di x,di y with|some a,some b=>some (En.mk a b)|_,_=>none)|_=>none
  | .ls=>match cs with|[x,y,z]=>(match di x,di y,Zl .en z with|some a,some b,some c=>some (Ls.mk a b c)|_,_,_=>none)|_=>none
  | .db=>match cs with|[x]=>Zl .ls x|_=>none
  | .pk=>match cs with|[x,y,z,q]=>(match di x,di y,di z,Zl .en q with|some t,some a,some b,some c=>some (Pk.mk t (Ls.mk a b c))|_,_,_,_=>none)|_=>none
  | .ev=>match cs with|[x,y]=>(match di x,di y with|some a,some b=>some (Ev.mk a b)|_,_=>none)|_=>none
  | .lb=>match cs with|[x,y]=>(match di x,di y with|some a,some b=>some (Lb.mk a b)|_,_=>none)|_=>none
  | .uls=>match cs with|[x,y,z]=>(match di x,di y,Zl .en z with|some a,some b,some c=>some (Ls.mk a b c)|_,_,_=>none)|_=>none
  | .udb=>match cs with|[x]=>Zl .ls x|_=>none
  | .upk=>match cs with|[x,y,z,q]=>(match di x,di y,di z,Zl .en q with|some t,some a,some b,some c=>some (Pk.mk t (Ls.mk a b c))|_,_,_,_=>none)|_=>none
section
variable {w:World} {E X:Nat→Prop} {h:List Ca} {β:List (Nat×Nat)}
theorem Df {v:PV} {x:Int} {u:Value} (hd:di v=some x) (hc:C1 w E X h β v u):Ri w E X (iI x) u:=by
  unfold di at hd
  split at hd
  ·injection hd with hd;subst hd;exact hc
  ·cases hd
theorem Nn {g:Bool} {A:Option Addr} (τ:Ty):Ri w E X (.sl g τ []) (.slice A 0 0):=.sl g τ [] A 0 0 0 [] (fun h=>by simp at h) ⟨Nat.le_refl _,Nat.zero_le _⟩ rfl (fun j u hu=>by simp at hu) (fun j x u hx=>by simp [Ua] at hx)
theorem Vo {τ:Ty} {v:PV} {xs:List (El τ)} {u:Value} (hd:Zl τ v=some xs) (hc:C1 w E X h β v u):Ri w E X (.sl true τ xs) u:=by
  unfold Zl at hd
  split at hd
  ·obtain ⟨e,he⟩:=Mn hd
   subst e
   subst he
   exact hc
  ·injection hd with hd
   subst hd
   have hc:Ri w E X .nil u:=hc
   cases hc
   exact Nn τ
  ·cases hd
theorem F4 {τ:Ty} {cs:List PV} {x:El τ} {us:List Value} (hd:Qx τ cs=some x) (hF:F2 (C1 w E X h β) cs us):F2 (Ri w E X) (cells τ x) us:=by
  cases τ<;>unfold Qx at hd<;>dsimp only at hd
  ·match cs,hd,hF with
   |[x1],hd,hF =>
    obtain ⟨u,r,rfl,h1,h2⟩:=hF.cons_inv
    rw [h2.nil_inv]
    exact F2.cons (Df hd h1) F2.nil
   |[],hd,_=>cases hd
   |_::_::_,hd,_=>cases hd
  ·split at hd
   case h_2=>cases hd
   injection hd with hd;subst hd;exact DP (h:=h) (β:=β) hF
  ·split at hd
   case h_2=>cases hd
   injection hd with hd;subst hd;exact DP (h:=h) (β:=β) hF
  ·split at hd
   case h_2=>cases hd
   injection hd with hd;subst hd;exact DP (h:=h) (β:=β) hF
  ·split at hd
   case h_2=>cases hd
   split at hd
   case h_2=>cases hd
   rename_i h1 h2 h3
   injection hd with hd;subst hd
   obtain ⟨u,r,rfl,q1,hF⟩:=hF.cons_inv
   obtain ⟨u,r,rfl,q2,hF⟩:=hF.cons_inv
   obtain ⟨u,r,rfl,q3,hF⟩:=hF.cons_inv
   rw [hF.nil_inv]
   exact (F2.cons (Df h1 q1) (F2.cons (Df h2 q2) (F2.cons (Df h3 q3) F2.nil)))
  ·split at hd
   case h_2=>cases hd
   split at hd
   case h_2=>cases hd
   rename_i h1 h2
   injection hd with hd;subst hd
   obtain ⟨u,r,rfl,q1,hF⟩:=hF.cons_inv
   obtain ⟨u,r,rfl,q2,hF⟩:=hF.cons_inv
   rw [hF.nil_inv]
   exact (F2.cons (Df h1 q1) (F2.cons (Vo h2 q2) F2.nil))
  ·split at hd
   case h_2=>cases hd
   split at hd
   case h_2=>cases hd
   rename_i h1 h2
   injection hd with hd;subst hd
   obtain ⟨u,r,rfl,q1,hF⟩:=hF.cons_inv
   obtain ⟨u,r,rfl,q2,hF⟩:=hF.cons_inv
   rw [hF.nil_inv]
   exact (F2.cons (Df h1 q1) (F2.cons (Df h2 q2) F2.nil))
  ·split at hd
   case h_2=>cases hd
   split at hd
   case h_2=>cases hd
   rename_i h1 h2 h3
   injection hd with hd;subst hd
   obtain ⟨u,r,rfl,q1,hF⟩:=hF.cons_inv
   obtain ⟨u,r,rfl,q2,hF⟩:=hF.cons_inv
   obtain ⟨u,r,rfl,q3,hF⟩:=hF.cons_inv
   rw [hF.nil_inv]
   exact (F2.cons (Df h1 q1) (F2.cons (Df h2 q2) (F2.cons (Vo h3 q3) F2.nil)))
  ·match cs,hd,hF with
   |[x1],hd,hF =>
    obtain ⟨u,r,rfl,h1,h2⟩:=hF.cons_inv
    rw [h2.nil_inv]
    exact F2.cons (Vo hd h1) F2.nil
   |[],hd,_=>cases hd
   |_::_::_,hd,_=>cases hd
  ·split at hd
   case h_2=>cases hd
   split at hd
   case h_2=>cases hd
   rename_i h1 h2 h3 h4
   injection hd with hd;subst hd
   obtain ⟨u,r,rfl,q1,hF⟩:=hF.cons_inv
   obtain ⟨u,r,rfl,q2,hF⟩:=hF.cons_inv
   obtain ⟨u,r,rfl,q3,hF⟩:=hF.cons_inv
   obtain ⟨u,r,rfl,q4,hF⟩:=hF.cons_inv
   rw [hF.nil_inv]
   exact (F2.cons (Df h1 q1) (F2.cons (Df h2 q2) (F2.cons (Df h3 q3) (F2.cons (Vo h4 q4) F2.nil))))
  ·split at hd
   case h_2=>cases hd
   split at hd
   case h_2=>cases hd
   rename_i h1 h2
   injection hd with hd;subst hd
   obtain ⟨u,r,rfl,q1,hF⟩:=hF.cons_inv
   obtain ⟨u,r,rfl,q2,hF⟩:=hF.cons_inv
   rw [hF.nil_inv]
   exact (F2.cons (Df h1 q1) (F2.cons (Df h2 q2) F2.nil))
  ·split at hd
   case h_2=>cases hd
   split at hd
   case h_2=>cases hd
   rename_i h1 h2
   injection hd with hd;subst hd
   obtain ⟨u,r,rfl,q1,hF⟩:=hF.cons_inv
   obtain ⟨u,r,rfl,q2,hF⟩:=hF.cons_inv
   rw [hF.nil_inv]
   exact (F2.cons (Df h1 q1) (F2.cons (Df h2 q2) F2.nil))
  ·split at hd
   case h_2=>cases hd
   split at hd
   case h_2=>cases hd
   rename_i h1 h2 h3
   injection hd with hd;subst hd
   obtain ⟨u,r,rfl,q1,hF⟩:=hF.cons_inv
   obtain ⟨u,r,rfl,q2,hF⟩:=hF.cons_inv
   obtain ⟨u,r,rfl,q3,hF⟩:=hF.cons_inv
   rw [hF.nil_inv]
   exact (F2.cons (Df h1 q1) (F2.cons (Df h2 q2) (F2.cons (Vo h3 q3) F2.nil)))
  ·match cs,hd,hF with
   |[x1],hd,hF =>
    obtain ⟨u,r,rfl,h1,h2⟩:=hF.cons_inv
    rw [h2.nil_inv]
    exact F2.cons (Vo hd h1) F2.nil
   |[],hd,_=>cases hd
   |_::_::_,hd,_=>cases hd
  ·split at hd
   case h_2=>cases hd
   split at hd
   case h_2=>cases hd
   rename_i h1 h2 h3 h4
   injection hd with hd;subst hd
   obtain ⟨u,r,rfl,q1,hF⟩:=hF.cons_inv
   obtain ⟨u,r,rfl,q2,hF⟩:=hF.cons_inv
   obtain ⟨u,r,rfl,q3,hF⟩:=hF.cons_inv
   obtain ⟨u,r,rfl,q4,hF⟩:=hF.cons_inv
   rw [hF.nil_inv]
   exact (F2.cons (Df h1 q1) (F2.cons (Df h2 q2) (F2.cons (Df h3 q3) (F2.cons (Vo h4 q4) F2.nil))))
end
def G4 (g:Bool) (τ:Ty):List (El τ)→IV:=match τ with
  | .uls=>fun xs=>.sl g .ls xs
  | .udb=>fun xs=>.sl g .db xs
  | .upk=>fun xs=>.sl g .pk xs
  | .int=>fun xs=>.sl g .int xs
  | .bool=>fun xs=>.sl g .bool xs
  | .u8=>fun xs=>.sl g .u8 xs
  | .str=>fun xs=>.sl g .str xs
  | .lk=>fun xs=>.sl g .lk xs
  | .gr=>fun xs=>.sl g .gr xs
  | .en=>fun xs=>.sl g .en xs
  | .ls=>fun xs=>.sl g .ls xs
  | .db=>fun xs=>.sl g .db xs
  | .pk=>fun xs=>.sl g .pk xs
  | .ev=>fun xs=>.sl g .ev xs
  | .lb=>fun xs=>.sl g .lb xs
theorem jU {w:World} {E X:Nat→Prop} {g:Bool} {τ:Ty} {xs:List (El τ)} {u:Value} (h:Ri w E X (.sl g τ xs) u):Ri w E X (G4 g τ xs) u:=by
  cases τ<;>first
    |exact h
    |(cases h with
     |sl _ _ _ A cap b o us hA hcap hl hc hr=>first
      |exact Ri.sl g .ls xs A cap b o us hA hcap hl hc hr
      |exact Ri.sl g .db xs A cap b o us hA hcap hl hc hr
      |exact Ri.sl g .pk xs A cap b o us hA hcap hl hc hr)
def Vk (k:Nat) (τ:Ty) (xs:List (El τ)):PV→PV
  | .own j=>bif Nat.beq j k then .im (G4 true τ xs) else .own j
  |v=>v
def MP (k:Nat) (τ:Ty) (xs:List (El τ)):PV→PV
  | .agg cs=>.agg (cs.map (Vk k τ xs))
  | .fn f cs=>.fn f (cs.map (Vk k τ xs))
  |v=>Vk k τ xs v
def NP (k:Nat) (τ:Ty) (xs:List (El τ)):PV→PV
  | .tup cs=>.tup (cs.map (MP k τ xs))
  |v=>MP k τ xs v
def On (k:Nat) (τ:Ty) (xs:List (El τ)):Ca→Ca
  | .box t cs=>.box t (cs.map (Vk k τ xs))
  |o=>o
def Md (k:Nat) (τ:Ty) (xs:List (El τ)):Nat→List Ca→List Ca
  |_,[]=>[]
  |0,_::r=>.dead::r.map (On k τ xs)
  |n+1,o::r=>On k τ xs o::Md k τ xs n r
def GH (k:Nat) (τ:Ty) (xs:List (El τ)):List (Nat×PV)→List (Nat×PV)
  |[]=>[]
  |(i,v)::r=>(i,NP k τ xs v)::GH k τ xs r
def frz (k:Nat) (st:St):St:=match st.h[k]? with
  |some (.row _ τ xs)=>⟨GH k τ xs st.t,Md k τ xs k st.h⟩
  |_=>st
theorem I4 (k:Nat) (τ:Ty) (xs:List (El τ)):∀(t:List (Nat×PV)) (i:Nat),Kd (GH k τ xs t) i=(Kd t i).map (NP k τ xs)
  |[],i=>rfl
  |(j,v)::r,i=>by
   simp only [GH,Kd]
   cases Nat.beq j i with
   |true=>rfl
   |false=>exact I4 k τ xs r i
theorem Pn (k:Nat) (τ:Ty) (xs:List (El τ)):∀(n:Nat) (h:List Ca) (j:Nat),(Md k τ xs n h)[j]? =if j=n then h[j]?.map (fun _=>Ca.dead) else h[j]?.map (On k τ xs)
  |n,[],j=>by cases n<;>simp [Md]
  |0,o::r,j=>by cases j<;>simp [Md]
  |n+1,o::r,j=>by
   cases j with
   |zero=>simp [Md]
   |succ j=>simpa [Md] using Pn k τ xs n r j
theorem OP (k:Nat) (τ:Ty) (xs:List (El τ)):∀(n:Nat) (h:List Ca),(Md k τ xs n h).length=h.length
  |n,[]=>by cases n<;>rfl
  |0,o::r=>by simp [Md]
  |n+1,o::r=>by simp [Md,OP k τ xs n r]
section
variable {C:Pc} {st:St} {a:Act} {w:World} {β:List (Nat×Nat)} {k:Nat} {t:TypeId} {τ:Ty} {xs:List (El τ)}
theorem Xk {h:List Ca} {j:Nat} {o:Ca} (hj:(Md k τ xs k h)[j]? =some o):(j=k∧o=.dead)∨(j≠k∧∃o',h[j]? =some o'∧o=On k τ xs o'):=by
  rw [Pn] at hj
  split at hj
  ·rename_i e
   obtain ⟨o',_,rfl⟩:=Option.map_eq_some_iff.1 hj
   exact .inl ⟨e,rfl⟩
  ·rename_i e
   obtain ⟨o',h1,rfl⟩:=Option.map_eq_some_iff.1 hj
   exact .inr ⟨e,o',h1,rfl⟩
theorem Wu {o:Ca} {c:Nat}:Bc (On k τ xs o) c↔Bc o c:=by cases o<;>exact Iff.rfl
theorem Wo {h:List Ca} {b:Nat} (hl:Da (Md k τ xs k h) β b):Da h β b:=by
  obtain ⟨j,o,c,h1,h2,h3⟩:=hl
  rcases Xk h1 with ⟨_,rfl⟩|⟨_,o',h4,rfl⟩
  ·exact h2.elim
  ·exact ⟨j,o',c,h4,Wu.1 h2,h3⟩
theorem J4 {h:List Ca} {j:Nat} {p:Nat×Nat} {σ:Ty} {u:Value} (ho:Va w (Md k τ xs k h) β j p σ u):Va w h β j p σ u:=by
  obtain ⟨t',τ',ys,b,c,us,junk,h1,h2⟩:=ho
  rcases Xk h1 with ⟨_,e⟩|⟨_,o',h4,e⟩
  ·cases e
  ·cases o'<;>first|(cases e;done)|skip
   simp only [On] at e
   exact ⟨t',τ',ys,b,c,us,junk,e▸h4,h2⟩
theorem Xo {h:List Ca} {j:Nat} {p:Nat×Nat} {n:Nat} (ho:Mb w (Md k τ xs k h) β j p n):Mb w h β j p n:=by
  obtain ⟨σ,u,h1,h2⟩:=ho
  exact ⟨σ,u,J4 h1,h2⟩
theorem Rx (h:List Ca):Cc h (Md k τ xs k h):=⟨by rw [OP];exact Nat.le_refl _,fun j t' σ ys hj e=>by
  rcases Xk e with ⟨_,h1⟩|⟨_,o',h2,h3⟩
  ·cases h1
  ·cases o'<;>first|(cases h3;done)|skip
   injection h3 with e1 e2 e3
   subst e1 e2
   have:=eq_of_heq e3
   subst this
   exact .inl ⟨_,h2,rfl⟩,fun j hj e=>by
  cases hq:(Md k τ xs k h)[j]? with
  |none=>simp [Vb,hq] at e
  |some o =>
   rcases Xk hq with ⟨_,rfl⟩|⟨_,o',h2,rfl⟩
   ·simp [Vb,hq] at e
   ·cases o'<;>simp [Vb,hq,h2,On] at e ⊢⟩
theorem PP {X:Nat→Prop} {h:List Ca} {E':Nat→Prop} (hh:Pb w (Da h β) X h β) (hk:h[k]? =some (.row t τ xs)) (hE:∀b,¬Da h β b→¬E' b) (hkE:∀b c,β[k]? =some (b,c)→0<c→¬E' b) {g:Bool} {u:Value} (hc:C1 w (Da h β) X h β (.own k) u):Ri w E' X (.sl g τ xs) u:=by
  obtain ⟨_,_,_,h2⟩:=hc
  obtain ⟨b,c,A,h3,rfl,h4,h5⟩:=h2 t τ xs hk
  obtain ⟨b',c',h6,h7,h8,h9⟩:=hh.ok k _ hk
  rw [h3] at h6
  injection h6 with h6;injection h6 with e1 e2
  subst e1 e2
  rcases Nat.eq_zero_or_pos c with hc|hc
  ·have hx:=h7 hc
   subst hx hc
   exact .sl g τ [] A 0 0 0 [] (fun h=>by simp at h) ⟨Nat.le_refl _,Nat.zero_le _⟩ rfl (fun j u hu=>by simp at hu) (fun j x u hx=>by simp [Ua] at hx)
  ·obtain ⟨us,junk,q1,q2,q3,q4⟩:=h9 hc
   have hlen:xs.length≤c:=by
     have:xs.length*sz τ≤c*sz τ:=by rw [←q4,←Kb,←q2.1];simp
     exact Nat.le_of_mul_le_mul_right this (Pf τ)
   refine .sl g τ xs A c b 0 us (fun _=>⟨h4 hc,(Array.getElem?_eq_some_iff.1 q1).1,hkE b c h3 hc,fun _=>hh.nx b ⟨k,_,c,hk,hc,h3⟩⟩) ⟨hlen,h8⟩ q2.1 (fun j u hu=>by rw [Nat.zero_add];exact Qg q1 hu) (fun j x u hx hu=>?_)
   exact (q2.2 j x u hx hu).keep (fun _ _ _=>rfl) (Nat.le_refl _) (fun b _=>hE b) (fun _ _ _ h=>h)
theorem JH {X:Nat→Prop} {h:List Ca} (hh:Pb w (Da h β) X h β) (hk:h[k]? =some (.row t τ xs)) {v:PV} {u:Value} (hc:C1 w (Da h β) X h β v u):C1 w (Da (Md k τ xs k h) β) X (Md k τ xs k h) β (Vk k τ xs v) u:=by
  have hE:∀b,¬Da h β b→¬Da (Md k τ xs k h) β b:=fun b hn hl=>hn (Wo hl)
  have keep:∀v,C1 w (Da h β) X h β v u→C1 w (Da (Md k τ xs k h) β) X (Md k τ xs k h) β v u:=fun v hc=>hc.keep (fun _ _ _=>rfl) (Nat.le_refl _) (fun b _=>hE b) (fun _ _ _ h=>h) (Rx h) (fun _ _ h=>h)
  cases v with
  |own j =>
   simp only [Vk]
   cases hj:Nat.beq j k with
   |false=>exact keep _ hc
   |true =>
    have:=Nat.eq_of_beq_eq_true hj
    subst this
    refine jU (PP (g:=true) hh hk hE (fun b c h1 h2 ⟨j',o,c',h3,h4,h5⟩=>?_) hc)
    rcases Xk h3 with ⟨_,rfl⟩|⟨hne,o',h6,rfl⟩
    ·exact h4
    ·exact hne (hh.inj j' j o' _ b c' c h6 hk (Wu.1 h4) h2 h5 h1)
  |im x=>exact keep _ hc
  |ptr k o=>exact keep _ hc
  |ept k i z o=>exact keep _ hc
  |at_ xs o=>exact keep _ hc
  |fn f caps=>exact hc.elim
  |agg cs=>exact hc.elim
  |tup cs=>exact hc.elim
theorem jV {X:Nat→Prop} {h:List Ca} (hh:Pb w (Da h β) X h β) (hk:h[k]? =some (.row t τ xs)) {v:PV} {u:Value} (hc:Cv w (Da h β) X h β v u):Cv w (Da (Md k τ xs k h) β) X (Md k τ xs k h) β (NP k τ xs v) u:=by
  have H:=fun v u hc=>JH (v:=v) (u:=u) hh hk hc
  have hC2:∀v u,C2 w (Da h β) X h β v u→C2 w (Da (Md k τ xs k h) β) X (Md k τ xs k h) β (MP k τ xs v) u:=fun v u hc=>by
    cases v with
    |agg cs=>obtain ⟨us,h1,h2⟩:=hc;exact ⟨us,h1,h2.mapl H⟩
    |fn f caps=>obtain ⟨us,h1,h2⟩:=hc;exact ⟨us,h1,h2.mapl H⟩
    |im x=>exact (H (.im x) u hc).c2
    |own k=>exact (H (.own k) u hc).c2
    |ptr k o=>exact (H (.ptr k o) u hc).c2
    |ept k i z o=>exact (H (.ept k i z o) u hc).c2
    |at_ xs o=>exact (H (.at_ xs o) u hc).c2
    |tup cs=>exact hc.elim
  cases v with
  |tup cs=>obtain ⟨us,h1,h2⟩:=hc;exact ⟨us,h1,h2.mapl hC2⟩
  |agg cs=>exact hC2 (.agg cs) u hc
  |fn f caps=>exact hC2 (.fn f caps) u hc
  |im x=>exact (H (.im x) u hc).cv
  |own k=>exact (H (.own k) u hc).cv
  |ptr k o=>exact (H (.ptr k o) u hc).cv
  |ept k i z o=>exact (H (.ept k i z o) u hc).cv
  |at_ xs o=>exact (H (.at_ xs o) u hc).cv
theorem Jb.frz (S:Oa C st a w β) (k:Nat):Oa C (Go.Proofs.YtknkhdjhongklaaGreat.frz k st) a w β:=by
  unfold Go.Proofs.YtknkhdjhongklaaGreat.frz
  split
  case h_2=>exact S
  rename_i t τ xs hk
  have hn:∀b,Da (Md k τ xs k st.h) β b→Da st.h β b:=fun b=>Wo
  refine ⟨S.cl,S.xw,?_,⟨by rw [OP];exact S.heap.len,fun _ h=>h,fun b hb=>S.heap.nx b (hn b hb),fun j o hj=>?_,fun i j o o' b c c' hi hj li lj bi bj=>?_,fun i p j q n h1 h2=>S.heap.uq i p j q n (Xo h1) (Xo h2),fun i p σ u n h1 h2=>S.heap.pl i p σ u n (J4 h1) h2⟩,S.sz,S.df,fun i v hi=>?_⟩
  ·exact S.step.trans ⟨rfl,rfl,rfl,Nat.le_refl _,fun _ _ _=>rfl,fun b _=>hn b,fun _ _ h=>h,Rx _,fun j p n _ h=>.inl ⟨j,p,Xo h⟩⟩
  ·rcases Xk hj with ⟨_,rfl⟩|⟨hne,o',h2,rfl⟩
   ·trivial
   ·have ho:=S.heap.ok j o' h2
    cases o' with
    |dead=>trivial
    |vrow t' σ=>exact ho
    |row t' σ ys =>
     obtain ⟨b,c,h3,h4,h5,h6⟩:=ho
     refine ⟨b,c,h3,h4,h5,fun hc=>?_⟩
     obtain ⟨us,junk,h7,h8,h9⟩:=h6 hc
     exact ⟨us,junk,h7,h8.mono fun x u h=>h.keep (fun _ _ _=>rfl) (Nat.le_refl _) (fun b _ h1 h2=>h1 (hn b h2)) (fun _ _ _ h=>h),h9⟩
    |box t' cs =>
     obtain ⟨b,c,us,h3,h4,h5,h6⟩:=ho
     exact ⟨b,c,us,h3,h4,h5.mapl fun v u hc=>JH S.heap hk hc,h6⟩
  ·rcases Xk hi with ⟨_,rfl⟩|⟨_,o1,h1,rfl⟩
   ·exact li.elim
   ·rcases Xk hj with ⟨_,rfl⟩|⟨_,o2,h2,rfl⟩
    ·exact lj.elim
    ·exact S.heap.inj i j o1 o2 b c c' h1 h2 (Wu.1 li) (Wu.1 lj) bi bj
  ·rw [I4] at hi
   obtain ⟨v',h1,rfl⟩:=Option.map_eq_some_iff.1 hi
   obtain ⟨u,h2,h3⟩:=S.tm i v' h1
   exact ⟨u,h2,jV S.heap hk h3⟩
def Qc:List PV→St→List PV→St×List PV
  |[],st,cs=>(st,cs)
  | .own k::r,st,cs=>match st.h[k]? with
    |some (.row _ τ xs)=>Qc r (Go.Proofs.YtknkhdjhongklaaGreat.frz k st) (cs.map (Vk k τ xs))
    |_=>Qc r st cs
  |_::r,st,cs=>Qc r st cs
theorem Wj:∀(l:List PV) {st:St} (_:Oa C st a w β) (cs:List PV) {us:List Value} (_:F2 (C1 w (Da st.h β) C.X st.h β) cs us),Oa C (Qc l st cs).1 a w β∧F2 (C1 w (Da (Qc l st cs).1.h β) C.X (Qc l st cs).1.h β) (Qc l st cs).2 us∧Gb w st.h β w (Qc l st cs).1.h β
  |[],_,S,_,_,hF=>⟨S,hF,Gb.refl _ _ _⟩
  | .own k::r,st,S,cs,us,hF=>by
    unfold Qc
    split
    ·rename_i t τ xs hk
     have S1:=S.frz k
     have e:(Go.Proofs.YtknkhdjhongklaaGreat.frz k st).h=Md k τ xs k st.h:=by unfold Go.Proofs.YtknkhdjhongklaaGreat.frz;rw [hk]
     have hs:Gb w st.h β w (Go.Proofs.YtknkhdjhongklaaGreat.frz k st).h β:=by rw [e];exact ⟨rfl,rfl,rfl,Nat.le_refl _,fun _ _ _=>rfl,fun b _=>Wo,fun _ _ h=>h,Rx _,fun j p n _ h=>.inl ⟨j,p,Xo h⟩⟩
     obtain ⟨h1,h2,h3⟩:=Wj r S1 (cs.map (Vk k τ xs)) (us:=us) (by rw [e];exact hF.mapl fun v u hc=>JH S.heap hk hc)
     exact ⟨h1,h2,hs.trans h3⟩
    ·exact Wj r S cs hF
  | .im x::r,st,S,cs,us,hF=>Wj r S cs hF
  | .ptr k o::r,st,S,cs,us,hF=>Wj r S cs hF
  | .ept k i z o::r,st,S,cs,us,hF=>Wj r S cs hF
  | .at_ xs o::r,st,S,cs,us,hF=>Wj r S cs hF
  | .fn f caps::r,st,S,cs,us,hF=>Wj r S cs hF
  | .agg cs'::r,st,S,cs,us,hF=>Wj r S cs hF
  | .tup cs'::r,st,S,cs,us,hF=>Wj r S cs hF
theorem QP {st:St} {k j:Nat} {p:Nat×Nat} {n:Nat} (ho:Mb w (Go.Proofs.YtknkhdjhongklaaGreat.frz k st).h β j p n):Mb w st.h β j p n:=by
  unfold Go.Proofs.YtknkhdjhongklaaGreat.frz at ho
  split at ho
  ·exact Xo ho
  ·exact ho
theorem Xj:∀(l:List PV) {st:St} (cs:List PV) {j:Nat} {p:Nat×Nat} {n:Nat},Mb w (Qc l st cs).1.h β j p n→Mb w st.h β j p n
  |[],_,_,_,_,_,h=>h
  | .own k::r,st,cs,j,p,n,h=>by
    unfold Qc at h
    split at h
    ·exact QP (Xj r _ h)
    ·exact Xj r _ h
  | .im x::r,st,cs,j,p,n,h=>Xj r cs h
  | .ptr k o::r,st,cs,j,p,n,h=>Xj r cs h
  | .ept k i z o::r,st,cs,j,p,n,h=>Xj r cs h
  | .at_ xs o::r,st,cs,j,p,n,h=>Xj r cs h
  | .fn f caps::r,st,cs,j,p,n,h=>Xj r cs h
  | .agg cs'::r,st,cs,j,p,n,h=>Xj r cs h
  | .tup cs'::r,st,cs,j,p,n,h=>Xj r cs h
end
end Go.Proofs.YtknkhdjhongklaaGreat
end
