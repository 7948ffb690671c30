/- Part 3 of the proof: Kd Ke Kf Mv Mx Shelf Ml Pa Pu1 Mst Mxt Mso B3 Mrp Mlc Mrb Mde. -/
import Derived.Test.YtjffopopheiinaaGreatDoorProg
import Derived.KernelRfl
import Derived.Test.YtjffopopheiinaaGreatDoorRows
import Derived.ProofKit
import Derived.OpenShut
import Derived.Carry
import Derived.Deep.Slices
import Derived.Deep.Fields
import Derived.Deep.Strs
import Derived.Lib.SmallJoins
import Derived.ChangeSame
import Derived.Shelf.Small.Wraps
import Derived.Shelf.Strconv.Itoa0
import Derived.Shelf.Strconv.Itoa1
import Derived.Shelf.LaysM
import Derived.Shelf.Strconv.Itoa2
import Derived.Shelf.Strconv.Itoa3
import Derived.Shelf.Strings.Search1
import Derived.Shelf.Strings.Search2
import Derived.Shelf.Strings.Search3
import Derived.Shelf.Strings.Count
import Derived.Shelf.Strings.Shaped
import Derived.Shelf.Sort.Plain
import Derived.Shelf.Strings.Split
import Derived.Shelf.Bits.Mul64
import Derived.Shelf.Unicode.DecodeSlow
import Derived.Shelf.Slices.In.SortNone
import Derived.Deep.AppendSrc
import Derived.Laws.CopyRow
import Derived.Lib.SplitLaws
import Derived.Lib.ItoaMem
import Derived.Test.YtjffopopheiinaaGreatDoorTie
import Derived.Test.YtjffopopheiinaaGreatDoorCards
import Derived.ChangeMaps5
import Derived.Lay
import Derived.Lib.LaidU8
import Derived.Lib.LaidTab
import Derived.JoinedOf
import Derived.LaidOnce
import Derived.LaidByTextLater
import Derived.SevenTiedAt
import Derived.Sort.OwnSortedInts
import Derived.BigQuiet
import Derived.Deep.QuietTactic
import Derived.Deep.DeepCutAuto
import Derived.Deep.LoopGhost
import Derived.Laws.CopyOwn
import Derived.Deep.OwnRows
import Derived.Lib.SliceRun
import Derived.Lib.Hide
import Derived.Lib.SlicesDelete
import Derived.Deep.RegionLaw
import Derived.Shelf.RegionOpenPlain
import Derived.Lib.Walk
import Derived.Test.YtjffopopheiinaaGreatDoorQi2
set_option linter.unusedSimpArgs false
set_option linter.unusedVariables false
set_option maxRecDepth 100000
namespace Go.Proofs.YtjffopopheiinaaGreatDoor
section
open Go.RowKit
def Mk {ρ:Type} (G:Ma) (o:Oper) (f:Bool) (st:St) (K:St→Option ρ):Option ρ:=bif f then
  (bif Jd G.N o.dst&&(Qf o.op&&(Gy o.op&&!So st o.op)) then (match Dk G.tab st o.op with|some (c,v)=>bif c then K (st.put o.dst v) else none|none=>G.bad ρ 38 (some o) st) else G.bad ρ 39 (some o) st)
  else Ik G o st K
def Nj {ρ:Type} (G:Ma) (ops:List Oper) (kn:List (Nat×Bool)) (o:Oper) (f:Bool) (st:St) (K:List (Nat×Bool)→St→Option ρ):Option ρ:=match o.guard with
    |none=>Mk G o f st fun st'=>K kn st'
    |some (j,want)=>match Yo ops kn st.t j want with
     | .go=>Mk G o f st fun st'=>K kn st'
     | .skip=>bif Jd G.N o.dst then K kn (st.put o.dst (.im (.s undef))) else G.bad ρ 2 (some o) st
     | .fork d b=>bif b
         then (bif want then Mk G o f (setB d true st) fun st'=>K ((j,true)::kn) st' else bif Jd G.N o.dst then K ((j,true)::kn) ((setB d true st).put o.dst (.im (.s undef))) else G.bad ρ 2 (some o) st)
         else (bif want then bif Jd G.N o.dst then K ((j,false)::kn) ((setB d false st).put o.dst (.im (.s undef))) else G.bad ρ 2 (some o) st else Mk G o f (setB d false st) fun st'=>K ((j,false)::kn) st')
     | .bad=>G.bad ρ 3 (some o) st
def Kg {ρ:Type} (G:Ma) (ops:List Oper):List (Nat×Bool)→List (Oper×Bool)→St→(List (Nat×Bool)→St→Option ρ)→Option ρ
  |kn,[],st,K=>K kn st
  |kn,(o,f)::r,st,K=>Nj G ops kn o f st fun kn' s=>Kg G ops kn' r s K
def pE (G:Ma) (ops:List Oper) (F FX FR:Yd) (p:List (Nat×Bool)) (s:HL F.hs):Option (HL FX.hs⊕HL FR.hs):=Kg G ops [] (Bc ops p) (F.st s) fun _ st2=>(match FX.get G.M st2 with|some x=>some (.inl x)|none=>G.bad _ 52 none st2)
def Tf (md:Region.Mode) (ops:Array Oper):Bool→Nat→Tr→Array Bool→Bool
  |_,0,.done,l=>decide (Region.ready md ops l=[])
  |_,m+1,.val k r,l=>(Region.ready md ops l).contains k&&Region.free md ops l k&&Tf md ops true m r (l.setIfInBounds k true)
  |b,m+1,.one k r,l=>(!b||decide (Region.ready md ops l=[k]))&&Tf md ops true m r (l.setIfInBounds k true)
  |b,m+1,.alt k r t,l=>(!b||decide (Region.ready md ops l=k::Ke t))&&Tf md ops true m r (l.setIfInBounds k true)&&Tf md ops false (m+1) t l
  |_,_,_,_=>false
def bD (ops:Array Oper) (t:Tr):Bool:=Region.noSelect ops&&Tf .any ops true ops.size t (Array.replicate ops.size false)
section
variable {P:Program} {G:Ma} {C:Nc} {st:St} {a:Act} {w:World} {β:List (Nat×Nat)}
theorem pF {ρ σ:Type} (HB:Xc G) {o:Oper} {K:St→Option ρ} {F:St→Option σ} {B:σ→Option ρ} (hK:∀s,K s=(F s).bind B):Ik G o st K=(Ik G o st F).bind B:=by
  unfold Ik
  have hb:∀(ρ:Type) n o st,G.bad ρ n o st=none:=HB
  simp only [hb]
  have hc:∀(c:Bool) (x:Option ρ) (y:Option σ),x=y.bind B→(bif c then x else none)=(bif c then y else none).bind B:=fun c x y h=>by cases c<;>simp [h]
  refine hc _ _ _ ?_
  split
  ·exact hc _ _ _ (hK _)
  ·split
   ·exact hc _ _ _ (hK _)
   ·split
    ·exact aG HB fun l st'=>hK _
    ·split
     ·split
      ·exact hc _ _ _ (hK _)
      ·rfl
     ·rfl
theorem MM {ρ σ:Type} (HB:Xc G) {o:Oper} {f:Bool} {K:St→Option ρ} {F:St→Option σ} {B:σ→Option ρ} (hK:∀s,K s=(F s).bind B):Mk G o f st K=(Mk G o f st F).bind B:=by
  unfold Mk
  have hb:∀(ρ:Type) n o st,G.bad ρ n o st=none:=HB
  simp only [hb]
  have hc:∀(c:Bool) (x:Option ρ) (y:Option σ),x=y.bind B→(bif c then x else none)=(bif c then y else none).bind B:=fun c x y h=>by cases c<;>simp [h]
  cases f<;>simp only [cond_true,cond_false]
  ·exact pF HB hK
  ·refine hc _ _ _ ?_
   split
   ·exact hc _ _ _ (hK _)
   ·rfl
theorem bE {ρ σ:Type} (HB:Xc G) {ops:List Oper} {kn:List (Nat×Bool)} {o:Oper} {f:Bool} {K:List (Nat×Bool)→St→Option ρ} {F:List (Nat×Bool)→St→Option σ} {B:σ→Option ρ} (hK:∀k s,K k s=(F k s).bind B):Nj G ops kn o f st K=(Nj G ops kn o f st F).bind B:=by
  unfold Nj
  have hb:∀(ρ:Type) n o st,G.bad ρ n o st=none:=HB
  simp only [hb]
  have hc:∀(c:Bool) (x:Option ρ) (y:Option σ),x=y.bind B→(bif c then x else none)=(bif c then y else none).bind B:=fun c x y h=>by cases c<;>simp [h]
  have hd:∀(c:Bool) (x x':Option ρ) (y y':Option σ),x=y.bind B→x'=y'.bind B→(bif c then x else x')=(bif c then y else y').bind B:=fun c x x' y y' h h'=>by cases c<;>simp [h,h']
  split
  ·exact MM HB fun s=>hK _ _
  ·split
   ·exact MM HB fun s=>hK _ _
   ·exact hc _ _ _ (hK _ _)
   ·exact hd _ _ _ _ _ (hd _ _ _ _ _ (MM HB fun s=>hK _ _) (hc _ _ _ (hK _ _))) (hd _ _ _ _ _ (hc _ _ _ (hK _ _)) (MM HB fun s=>hK _ _))
   ·rfl
theorem bF {ρ ι:Type} (HB:Xc G) {ops:List Oper} {kn:List (Nat×Bool)} {o:Oper} {f:Bool} {K:List (Nat×Bool)→St→Option ρ} {r:ρ} {L:List ι} {g:ι→List (Oper×Bool)} (hne:L≠[]) (h:∀p∈L,Kg G ops kn ((o,f)::g p) st K=some r):∃x:List (Nat×Bool)×St,Nj G ops kn o f st (fun a b=>some (a,b))=some x∧∀p∈L,Kg G ops x.1 (g p) x.2 K=some r:=by
  have e:∀p,Kg G ops kn ((o,f)::g p) st K=(Nj G ops kn o f st (fun a b=>some (a,b))).bind fun x=>Kg G ops x.1 (g p) x.2 K:=fun p=>bE HB fun _ _=>rfl
  generalize Nj G ops kn o f st (fun a b=>some (a,b))=z at e
  cases z with
  |none =>
   obtain ⟨p,hp⟩:=List.exists_mem_of_ne_nil L hne
   have:=h p hp
   rw [e] at this
   cases this
  |some x=>exact ⟨x,rfl,fun p hp=>by have:=h p hp;rw [e] at this;exact this⟩
theorem bG {ρ:Type} (HB:Xc G) (HT:Wb P G.tab) {ops:List Oper} {kn:List (Nat×Bool)} {o:Oper} {K:List (Nat×Bool)→St→Option ρ} {r:ρ} (hN:C.N=G.N) (h:Nj G ops kn o true st K=some r) (S:Ab C st a w β):∃v kn' st',Yields P ops.toArray o v a∧K kn' st'=some r∧Ab C st' (a.put o.dst v) w β:=by
  have exec:∀kn' s1,Ab C s1 a w β→Region.wanted o (yielded ops.toArray a.tmps)=true→Mk G o true s1 (fun st'=>K kn' st')=some r→∃v kn' st',Yields P ops.toArray o v a∧K kn' st'=some r∧Ab C st' (a.put o.dst v) w β:=fun kn' s1 S hw h=>by
    unfold Mk at h
    simp only [cond_true] at h
    cases hq:(Jd G.N o.dst&&(Qf o.op&&(Gy o.op&&!So s1 o.op))) with
    |false=>rw [hq] at h;simp only [cond_false] at h;rw [HB] at h;cases h
    |true =>
     rw [hq] at h
     simp only [cond_true] at h
     simp only [Bool.and_eq_true] at hq
     split at h
     ·rename_i c v hv
      cases c with
      |false=>cases h
      |true =>
       obtain ⟨u,h1,h2⟩:=QT HT hv rfl (fun t x e=>by rw [e] at hq;exact absurd hq.2.2.1 (by simp [Gy])) (by simpa using hq.2.2.2) C _ a w β S
       exact ⟨u,kn',_,.inl ⟨hw,fun w'=>h2 w' trivial⟩,h,S.putL (by rw [hN];exact Hk hq.1) h1⟩
     ·rw [HB] at h;cases h
  have skip:∀kn' sb s1,Ab C s1 a w β→Region.wanted o (yielded ops.toArray a.tmps)=false→(bif Jd G.N o.dst then K kn' (s1.put o.dst (.im (.s undef))) else G.bad ρ 2 (some o) sb)=some r→∃v kn' st',Yields P ops.toArray o v a∧K kn' st'=some r∧Ab C st' (a.put o.dst v) w β:=fun kn' sb s1 S hw h=>by
    cases hd:Jd G.N o.dst with
    |false=>rw [hd] at h;simp only [cond_false] at h;rw [HB] at h;cases h
    |true =>
     rw [hd] at h
     exact ⟨undef,kn',_,.inr ⟨hw,rfl⟩,h,S.putL (by rw [hN];exact Hk hd) (Ri.s undef)⟩
  unfold Nj at h
  split at h
  ·rename_i hg
   exact exec kn st S (by simp [Region.wanted,hg]) h
  ·rename_i j want hg
   have gc:=PC S (ops:=ops) (kn:=kn) hg
   split at h
   ·rename_i e
    rw [e] at gc
    exact exec kn st S gc h
   ·rename_i e
    rw [e] at gc
    exact skip kn st st S gc h
   ·rename_i d b e
    rw [e] at gc
    obtain ⟨h1,h2⟩:=gc
    cases b<;>cases want<;>simp only [cond_true,cond_false] at h
    ·exact exec _ (setB d false st) (S.setB h1) h2 h
    ·exact skip _ _ (setB d false st) (S.setB h1) h2 h
    ·exact skip _ _ (setB d true st) (S.setB h1) h2 h
    ·exact exec _ (setB d true st) (S.setB h1) h2 h
   ·rw [HB] at h;cases h
theorem pG {ρ:Type} (HB:Xc G) (HT:Wb P G.tab) (H:Pa P G.Γ) {ops:List Oper} {k:Nat} {kn:List (Nat×Bool)} {o:Oper} {K:List (Nat×Bool)→St→Option ρ} {r:ρ} {Q:Exit→Act→World→Prop} (hN:C.N=G.N) (hk:ops.toArray[k]? =some o) (h:Nj G ops kn o false st K=some r) (S:Ab C st a w β):wpOp P ops.toArray Q k (fun a' w'=>∃kn' st' β',K kn' st'=some r∧Ab C st' a' w' β') a w:=by
  unfold wpOp
  simp only [hk]
  have exec:∀kn' s1,Ab C s1 a w β→Region.wanted o (yielded ops.toArray a.tmps)=true→Mk G o false s1 (fun st'=>K kn' st')=some r→(if Region.wanted o (yielded ops.toArray a.tmps)=true then Oper.wp P o a w (fun a' w'=>∃kn' st' β',K kn' st'=some r∧Ab C st' a' w' β') Q∨Oper.asks P o a w∧LetsOut Q else ∃kn' st' β',K kn' st'=some r∧Ab C st' (a.put o.dst undef) w β'):=fun kn' s1 S hw h=>by
    rw [if_pos hw]
    unfold Mk at h
    simp only [cond_false] at h
    obtain ⟨_,st',h1,h2⟩:=aA HB HT H h
    exact .inl (h2 C a w β S hN _ _ fun u w' β' S'=>⟨kn',st',β',h1,S'⟩)
  have skip:∀kn' sb s1,Ab C s1 a w β→Region.wanted o (yielded ops.toArray a.tmps)=false→(bif Jd G.N o.dst then K kn' (s1.put o.dst (.im (.s undef))) else G.bad ρ 2 (some o) sb)=some r→(if Region.wanted o (yielded ops.toArray a.tmps)=true then Oper.wp P o a w (fun a' w'=>∃kn' st' β',K kn' st'=some r∧Ab C st' a' w' β') Q∨Oper.asks P o a w∧LetsOut Q else ∃kn' st' β',K kn' st'=some r∧Ab C st' (a.put o.dst undef) w β'):=fun kn' sb s1 S hw h=>by
    rw [if_neg (by rw [hw];simp)]
    cases hd:Jd G.N o.dst with
    |false=>rw [hd] at h;simp only [cond_false] at h;rw [HB] at h;cases h
    |true =>
     rw [hd] at h
     exact ⟨kn',_,β,h,S.putL (by rw [hN];exact Hk hd) (Ri.s undef)⟩
  unfold Nj at h
  split at h
  ·rename_i hg
   exact exec kn st S (by simp [Region.wanted,hg]) h
  ·rename_i j want hg
   have gc:=PC S (ops:=ops) (kn:=kn) hg
   split at h
   ·rename_i e
    rw [e] at gc
    exact exec kn st S gc h
   ·rename_i e
    rw [e] at gc
    exact skip kn st st S gc h
   ·rename_i d b e
    rw [e] at gc
    obtain ⟨h1,h2⟩:=gc
    cases b<;>cases want<;>simp only [cond_true,cond_false] at h
    ·exact exec _ (setB d false st) (S.setB h1) h2 h
    ·exact skip _ _ (setB d false st) (S.setB h1) h2 h
    ·exact skip _ _ (setB d true st) (S.setB h1) h2 h
    ·exact exec _ (setB d true st) (S.setB h1) h2 h
   ·rw [HB] at h;cases h
theorem pH {ρ:Type} (HB:Xc G) (HT:Wb P G.tab) (H:Pa P G.Γ) {ops:List Oper} {K:List (Nat×Bool)→St→Option ρ} {r:ρ} {Q:Exit→Act→World→Prop} (hN:C.N=G.N) (hsel:Region.noSelect ops.toArray=true)
    (hT:∀kn st a w β,K kn st=some r→Ab C st a w β→Q .normal a w):∀(m:Nat) (t:Tr) (listed:Array Bool) (kn:List (Nat×Bool)) (st:St) (a:Act) (w:World) (β:List (Nat×Nat)),Tf .any ops.toArray true m t listed=true→Ee ops t=true→(∀p∈Xb t,Kg G ops kn (Bc ops p) st K=some r)→Ab C st a w β →
      wpAny P .any ops.toArray (Lc Q) m listed a w:=by
  intro m
  induction m with
  |zero =>
   intro t listed kn st a w β hB hi h S
   cases t with
   |done =>
    have h1:=h [] (by simp [Xb])
    exact ⟨oT hB,hT kn st a w β h1 S⟩
   |_=>simp [Tf] at hB
  |succ m ih =>
   intro t listed kn st a w β hB hi_ h S
   have single:∀k t1,Tf .any ops.toArray true m t1 (listed.setIfInBounds k true)=true→k<ops.length→Ee ops t1=true→(∀p∈Xb t1,Kg G ops kn (Bc ops ((k,false)::p)) st K=some r)→wpOp P ops.toArray (Lc Q) k (wpAny P .any ops.toArray (Lc Q) m (listed.setIfInBounds k true)) a w:=fun k t1 hB1 hkl hi1 hps=>by
     have hk:=List.getElem?_eq_getElem hkl
     generalize ops[k]=o at hk
     have hk':ops.toArray[k]? =some o:=by simpa using hk
     obtain ⟨x,h1,h2⟩:=bF HB (g:=fun p=>Bc ops p) (L:=Xb t1) (Jg t1) fun p hp'=>by
       have:=hps p hp'
       rwa [Pl hk] at this
     refine wpOp_mono ?_ (pG HB HT H hN hk' h1 S)
     rintro a' w' ⟨kn',st',β',hx,S'⟩
     injection hx with hx
     subst hx
     exact ih t1 _ kn' st' a' w' β' hB1 hi1 h2 S'
   have alts:∀(t':Tr),Tf .any ops.toArray false (m+1) t' listed=true→Ee ops t'=true→(∀p∈Xb t',Kg G ops kn (Bc ops p) st K=some r)→∀i∈Ke t',wpOp P ops.toArray (Lc Q) i (wpAny P .any ops.toArray (Lc Q) m (listed.setIfInBounds i true)) a w:=fun t'=>by
     induction t' with
     |one k t1 _ =>
      intro hB' hi' hps i hih
      simp only [Tf,Bool.not_false,Bool.true_or,Bool.true_and] at hB'
      simp only [Ee,Bool.and_eq_true,decide_eq_true_eq] at hi'
      obtain rfl:i=k:=by simpa [Ke] using hih
      exact single i t1 hB' hi'.1 hi'.2 (fun p hp'=>hps _ (by simp only [Xb];exact List.mem_map_of_mem hp'))
     |alt k t1 t2 _ ih2 =>
      intro hB' hi' hps i hih
      simp only [Tf,Bool.not_false,Bool.true_or,Bool.true_and,Bool.and_eq_true] at hB'
      simp only [Ee,Bool.and_eq_true,decide_eq_true_eq] at hi'
      rcases List.mem_cons.1 (show i∈k::Ke t2 from hih) with rfl|hih
      ·exact single i t1 hB'.1 hi'.1.1 hi'.1.2 (fun p hp'=>hps _ (by simp only [Xb];exact List.mem_append_left _ (List.mem_map_of_mem hp')))
      ·exact ih2 hB'.2 hi'.2 (fun p hp'=>hps p (by simp only [Xb];exact List.mem_append_right _ hp')) i hih
     |_=>intro _ _ _ i hih;simp [Ke] at hih
   cases t with
   |done=>simp [Tf] at hB
   |two=>simp [Tf] at hB
   |one k t1 =>
    have hB0:Tf .any ops.toArray false (m+1) (.one k t1) listed=true:=by
      simp only [Tf,Bool.and_eq_true,Bool.not_false,Bool.true_or,true_and] at hB ⊢
      exact hB.2
    simp only [Tf,Bool.and_eq_true,Bool.not_true,Bool.false_or,decide_eq_true_eq] at hB
    exact ⟨fun h0=>(by rw [hB.1] at h0;cases h0),fun i hi=>alts (.one k t1) hB0 hi_ h i (by rw [hB.1] at hi;exact hi)⟩
   |alt k t1 t2 =>
    have hB0:Tf .any ops.toArray false (m+1) (.alt k t1 t2) listed=true:=by
      simp only [Tf,Bool.and_eq_true,Bool.not_false,Bool.true_or,true_and] at hB ⊢
      exact ⟨hB.1.2,hB.2⟩
    simp only [Tf,Bool.and_eq_true,Bool.not_true,Bool.false_or,decide_eq_true_eq] at hB
    exact ⟨fun h0=>(by rw [hB.1.1] at h0;cases h0),fun i hi=>alts (.alt k t1 t2) hB0 hi_ h i (by rw [hB.1.1] at hi;exact hi)⟩
   |val k t1 =>
    simp only [Tf,Bool.and_eq_true] at hB
    obtain ⟨⟨hrd,hfr⟩,hB2⟩:=hB
    simp only [Ee,Bool.and_eq_true,decide_eq_true_eq] at hi_
    obtain ⟨⟨hkl,_⟩,hi1⟩:=hi_
    have hk:=List.getElem?_eq_getElem hkl
    generalize ops[k]=o at hk
    have hk':ops.toArray[k]? =some o:=by simpa using hk
    obtain ⟨x,h1,h2⟩:=bF HB (g:=fun p=>Bc ops p) (L:=Xb t1) (Jg t1) fun p hp'=>by
      have:=h ((k,true)::p) (by simp only [Xb];exact List.mem_map_of_mem hp')
      rwa [Pl hk] at this
    obtain ⟨v,kn',st',hy,hx,S'⟩:=bG HB HT hN h1 S
    injection hx with hx
    subst hx
    exact wpAny_first hk' (Region.noSelect_spec hsel) (fun _ _ _ h=>h) m listed a w (Region.free_spec hk' hfr) (by simpa using hrd) hy (ih t1 _ kn' st' _ w β hB2 hi1 h2 S')
theorem bH {md:Region.Mode} {ops:Array Oper} {Q Q':Exit→Act→World→Prop} (hq:∀e a w,Q e a w→Q' e a w):∀(f:Nat) (l:Array Bool) (a:Act) (w:World),wpAny P md ops Q f l a w→wpAny P md ops Q' f l a w
  |0,l,a,w,h=>⟨h.1,hq _ _ _ h.2⟩
  |f+1,l,a,w,h=>⟨fun h0=>hq _ _ _ (h.1 h0),fun i hi=>wpOp_mono (fun a' w' h'=>bH hq f _ a' w' h') (L7 hq (h.2 i hi))⟩
theorem NM (HB:Xc G) (HT:Wb P G.tab) (H:Pa P G.Γ) (hm:P.follows .mixedOrders=true) {id:Nat} {ops:Array Oper} {t:Tr} {F:Yd} {eid:Nat} {FX FR:Yd} {sh:HL F.hs→Option (HL FX.hs⊕HL FR.hs)} (hB:bD ops t=true) (hi:Ee ops.toList t=true)
    (hs:Jy (Xb t) fun p=>∀s,pE G ops.toList F FX FR p s=sh s):Ae P G.M G.N id ops ⟨F,eid,FX,FR,sh⟩:=fun s x hx Q hQ C a w β hN hM S=>by
  have hx:sh s=some (.inl x):=hx
  have hs:=UC hs
  have h:∀p∈Xb t,Kg G ops.toList [] (Bc ops.toList p) (F.st s) (fun _ st2=>(match FX.get G.M st2 with|some x=>some (Sum.inl x:HL FX.hs⊕HL FR.hs)|none=>G.bad _ 52 none st2))=some (.inl x):=fun p hp=>by
    have h1:=hs p hp s
    rw [hx] at h1
    exact h1
  have S:Ab C (F.st s) a w β:=S
  have e:ops=ops.toList.toArray:=by simp
  show (Code.region id ops true).wp P (Mf C Q) a w
  rw [e] at hB ⊢
  generalize ops.toList=l at *
  simp only [bD,Bool.and_eq_true] at hB
  obtain ⟨hsel,htr⟩:=hB
  let Q1:AQ:=fun e st2=>e=.normal∧FX.get G.M st2=some x
  refine wp_mono (Q:=Mf C Q1) ?_ ?_
  rotate_left
  ·rintro e a2 w2 ⟨st2,β2,⟨rfl,hq⟩,S2⟩
   obtain ⟨β3,S3⟩:=FX.imp hq C a2 w2 β2 hM S2
   exact ⟨_,β3,hQ,S3⟩
  refine wp_region_any hm ?_
  exact bH Lc.le _ _ _ _ (pH (Q:=Mf C Q1) HB HT H hN hsel (fun kn st a w β hK S=>by
      split at hK
      ·rename_i y hy
       injection hK with hK
       injection hK with hK
       subst hK
       exact ⟨st,β,⟨rfl,hy⟩,S⟩
      ·rw [HB] at hK;cases hK) _ t _ [] (F.st s) a w.drew β htr hi h S.drew)
end
end
section
open Go.RowKit
def Nk (k n:Nat):PV→PV
  | .own j=>bif Nat.beq j k then .own n else .own j
  |v=>v
def OM (k n:Nat):PV→PV
  | .fn f caps=>.fn f (caps.map (Nk k n))
  |v=>Nk k n v
def AD (k n:Nat):PV→PV
  | .agg cs=>.agg (cs.map (Nk k n))
  |v=>OM k n v
def PM (k n:Nat):PV→PV
  | .tup cs=>.tup (cs.map (AD k n))
  |v=>AD k n v
def An (k n:Nat):Fa→Fa
  | .box t cs=>.box t (cs.map (Nk k n))
  |o=>o
def BD (k n:Nat):List (Nat×PV)→List (Nat×PV)
  |[]=>[]
  |(i,v)::r=>(i,PM k n v)::BD k n r
def Fe (k n:Nat):Nat→List Fa→List Fa
  |_,[]=>[]
  |i,o::r=>(bif Nat.beq i k then .dead else An k n o)::Fe k n (i+1) r
def KV (k:Nat) (st:St):St:=match st.h[k]? with
  |some (.row t τ xs)=>⟨BD k st.h.length st.t,Fe k st.h.length 0 st.h++[.row t τ xs]⟩
  |_=>st
def QM:List Nat→St→St
  |[],st=>st
  |k::r,st=>QM r (KV k st)
theorem bI (k n:Nat):∀(t:List (Nat×PV)) (i:Nat),Ed (BD k n t) i=(Ed t i).map (PM k n)
  |[],i=>rfl
  |(j,v)::r,i=>by
   simp only [BD,Ed]
   cases Nat.beq j i
   ·simp only [cond_false];exact bI k n r i
   ·rfl
theorem CD (k n:Nat):∀(h:List Fa) (i:Nat),(Fe k n i h).length=h.length
  |[],i=>rfl
  |o::r,i=>by simp only [Fe,List.length_cons,CD k n r]
theorem bJ (k n:Nat):∀(h:List Fa) (i j:Nat),(Fe k n i h)[j]? =h[j]?.map fun o=>bif Nat.beq (i+j) k then .dead else An k n o
  |[],i,j=>by simp [Fe]
  |o::r,i,0=>by simp [Fe]
  |o::r,i,j+1=>by
   simp only [Fe,List.getElem?_cons_succ]
   rw [bJ k n r (i+1) j,show i+1+j=i+(j+1) by omega]
section
variable {P:Program} {G:Ma} {C:Nc} {st:St} {a:Act} {w:World} {β:List (Nat×Nat)}
theorem pI (S:Ab C st a w β) (k:Nat):∃β',Ab C (KV k st) a w β':=by
  unfold KV
  split
  case h_2=>exact ⟨β,S⟩
  rename_i t τ xs hk
  obtain ⟨b,c,hβk,hc0,hcm,hrow⟩:=S.heap.ok k _ hk
  have hkl:k<st.h.length:=(List.getElem?_eq_some_iff.1 hk).1
  have hl:=S.heap.len
  generalize hn:st.h.length=n at *
  have hat:∀j,j<n→(Fe k n 0 st.h++[Fa.row t τ xs])[j]? =st.h[j]?.map fun o=>bif Nat.beq j k then .dead else An k n o:=fun j hj=>by
    rw [List.getElem?_append_left (by rw [CD,hn];exact hj),bJ,Nat.zero_add]
  have hlast:(Fe k n 0 st.h++[Fa.row t τ xs])[n]? =some (.row t τ xs):=by
    rw [List.getElem?_append_right (by rw [CD,hn];exact Nat.le_refl _),CD,hn,Nat.sub_self];rfl
  have hlen:(Fe k n 0 st.h++[Fa.row t τ xs]).length=n+1:=by simp [CD,hn]
  have only:∀j o,(Fe k n 0 st.h++[Fa.row t τ xs])[j]? =some o→(j=n∧o=.row t τ xs)∨(j<n∧j=k∧o=.dead)∨(j<n∧j≠k∧∃o0,st.h[j]? =some o0∧o=An k n o0):=fun j o hj=>by
    rcases Nat.lt_trichotomy j n with h|h|h
    ·rw [hat j h] at hj
     obtain ⟨o0,h1,h2⟩:=Option.map_eq_some_iff.1 hj
     by_cases e:j=k
     ·subst e
      simp at h2
      exact .inr (.inl ⟨h,rfl,h2.symm⟩)
     ·have hb:Nat.beq j k=false:=Qm e
      rw [hb] at h2
      exact .inr (.inr ⟨h,e,o0,h1,h2.symm⟩)
    ·subst h
     rw [hlast] at hj
     injection hj with hj
     exact .inl ⟨rfl,hj.symm⟩
    ·rw [List.getElem?_eq_none (by rw [hlen];omega)] at hj
     cases hj
  have hβ:∀j,j<n→(β++[(b,c)])[j]? =β[j]? :=fun j hj=>List.getElem?_append_left (by omega)
  have hβn:(β++[(b,c)])[n]? =some (b,c):=by rw [List.getElem?_append_right (by omega),hl,Nat.sub_self];rfl
  have lv:∀o c',Qc (An k n o) c'↔Qc o c':=fun o c'=>by cases o<;>exact Iff.rfl
  have hkeep:∀j o,j<n→j≠k→st.h[j]? =some o→(Fe k n 0 st.h++[Fa.row t τ xs])[j]? =some (An k n o):=fun j o hj e ho=>by
    rw [hat j hj,ho]
    have hb:Nat.beq j k=false:=Qm e
    simp only [Option.map_some,hb,cond_false]
  have hdead:(Fe k n 0 st.h++[Fa.row t τ xs])[k]? =some .dead:=by
    rw [hat k hkl,hk];simp
  have hE:Ka (Fe k n 0 st.h++[Fa.row t τ xs]) (β++[(b,c)])=Ka st.h β:=funext fun i=>propext ⟨fun ⟨j,o,c',h1,h2,h3⟩=>by
    rcases only j o h1 with ⟨rfl,rfl⟩|⟨_,_,rfl⟩|⟨hj,_,o0,h4,rfl⟩
    ·rw [hβn] at h3
     injection h3 with h3;injection h3 with e1 e2
     subst e1 e2
     exact ⟨k,_,c,hk,h2,hβk⟩
    ·exact h2.elim
    ·exact ⟨j,o0,c',h4,(lv o0 c').1 h2,by rw [←hβ j hj];exact h3⟩,fun ⟨j,o,c',h1,h2,h3⟩=>by
    have hj:j<n:=by rw [←hn];exact (List.getElem?_eq_some_iff.1 h1).1
    by_cases e:j=k
    ·subst e
     rw [hk] at h1
     injection h1 with h1
     subst h1
     rw [hβk] at h3
     injection h3 with h3;injection h3 with e1 e2
     subst e1 e2
     exact ⟨n,_,c,hlast,h2,hβn⟩
    ·exact ⟨j,_,c',hkeep j o hj e h1,(lv o c').2 h2,by rw [hβ j hj];exact h3⟩⟩
  have vi:∀j,j<n→Cc (Fe k n 0 st.h++[Fa.row t τ xs]) j=Cc st.h j:=fun j hj=>by
    by_cases e:j=k
    ·subst e
     simp [Cc,hdead,hk]
    ·unfold Cc
     rw [hat j hj]
     have hb:Nat.beq j k=false:=Qm e
     simp only [hb,cond_false]
     cases h0:st.h[j]? with
     |none=>rfl
     |some o=>cases o<;>rfl
  have c1:∀v u,C1 w (Ka st.h β) C.X st.h β v u→C1 w (Ka (Fe k n 0 st.h++[Fa.row t τ xs]) (β++[(b,c)])) C.X (Fe k n 0 st.h++[Fa.row t τ xs]) (β++[(b,c)]) (Nk k n v) u:=fun v u hc=>by
    rw [hE]
    cases v with
    |im x=>exact hc
    |own j =>
     obtain ⟨h0,hv,h1,h2⟩:=hc
     rw [hn] at h0
     by_cases e:j=k
     ·subst e
      simp only [Nk,Nat.beq_refl,cond_true]
      obtain ⟨b1,c1,A,q1,q2,q3,_⟩:=h2 _ _ _ hk
      rw [hβk] at q1
      injection q1 with q1;injection q1 with e1 e2
      subst e1 e2
      refine ⟨by rw [hlen];omega,by simp [Cc,hlast],h1,fun t' τ' xs' e'=>?_⟩
      rw [hlast] at e'
      injection e' with e'
      cases e'
      exact ⟨b,c,A,hβn,q2,q3,fun _=>trivial⟩
     ·have hb:Nat.beq j k=false:=Qm e
      simp only [Nk,hb,cond_false]
      refine ⟨by rw [hlen];omega,by rw [vi j h0];exact hv,h1,fun t' τ' xs' e'=>?_⟩
      rcases only j _ e' with ⟨q,_⟩|⟨_,q,_⟩|⟨hj,_,o0,h4,h5⟩
      ·omega
      ·exact absurd q e
      ·cases o0<;>simp only [An] at h5<;>first|(cases h5;done)|skip
       cases h5
       obtain ⟨b1,c1,A,q1,q2,q3,_⟩:=h2 _ _ _ h4
       exact ⟨b1,c1,A,by rw [hβ j h0];exact q1,q2,q3,fun _=>trivial⟩
    |ptr j o =>
     obtain ⟨b1,c1,h1,h2⟩:=hc
     have hj:j<n:=by rw [←hl];exact (List.getElem?_eq_some_iff.1 h1).1
     exact ⟨b1,c1,by rw [hβ j hj];exact h1,h2⟩
    |ept j i z o =>
     obtain ⟨h0,hv,b1,c1,h1,h2,h3⟩:=hc
     rw [hn] at h0
     refine ⟨by rw [hlen];omega,by rw [vi j h0];exact hv,b1,c1,by rw [hβ j h0];exact h1,h2,fun t' τ' xs' e'=>?_⟩
     rcases only j _ e' with ⟨q,_⟩|⟨_,_,q⟩|⟨hj,_,o0,h4,h5⟩
     ·omega
     ·cases q
     ·cases o0<;>simp only [An] at h5<;>first|(cases h5;done)|skip
      cases h5
      exact h3 _ _ _ h4
    |at_ cs o=>exact hc
    |fn f caps=>exact hc.elim
    |agg cs=>exact hc.elim
    |tup cs=>exact hc.elim
  have mapF:∀{R R':PV→Value→Prop} {g:PV→PV} {xs:List PV} {us:List Value},F2 R xs us→(∀x u,R x u→R' (g x) u)→F2 R' (xs.map g) us:=fun h hr=>⟨by rw [List.length_map];exact h.1,fun i x u hx hu=>by
    rw [List.getElem?_map] at hx
    obtain ⟨y,hy,rfl⟩:=Option.map_eq_some_iff.1 hx
    exact hr _ _ (h.2 i y u hy hu)⟩
  have cF:∀v u,CF w (Ka st.h β) C.X st.h β v u→CF w (Ka (Fe k n 0 st.h++[Fa.row t τ xs]) (β++[(b,c)])) C.X (Fe k n 0 st.h++[Fa.row t τ xs]) (β++[(b,c)]) (OM k n v) u:=fun v u hc=>by
    have keepF:∀v,(∀f caps,v≠.fn f caps)→C1 w (Ka st.h β) C.X st.h β v u→CF w (Ka (Fe k n 0 st.h++[Fa.row t τ xs]) (β++[(b,c)])) C.X (Fe k n 0 st.h++[Fa.row t τ xs]) (β++[(b,c)]) (Nk k n v) u:=fun v _ h=>by
      have:=c1 v u h
      cases v with
      |own j=>simp only [Nk] at this ⊢;cases hb:Nat.beq j k<;>rw [hb] at this<;>exact this
      |im x=>exact this
      |ptr j o=>exact this
      |ept j i z o=>exact this
      |at_ cs o=>exact this
      |fn f caps=>exact h.elim
      |agg cs=>exact h.elim
      |tup cs=>exact h.elim
    cases v with
    |fn f caps=>obtain ⟨us,h1,h2⟩:=hc;exact ⟨us,h1,mapF h2 c1⟩
    |im x=>exact keepF (.im x) (by intros;intro h;cases h) hc
    |own j=>exact keepF (.own j) (by intros;intro h;cases h) hc
    |ptr j o=>exact keepF (.ptr j o) (by intros;intro h;cases h) hc
    |ept j i z o=>exact keepF (.ept j i z o) (by intros;intro h;cases h) hc
    |at_ cs o=>exact keepF (.at_ cs o) (by intros;intro h;cases h) hc
    |agg cs=>exact hc.elim
    |tup cs=>exact hc.elim
  have c2:∀v u,C2 w (Ka st.h β) C.X st.h β v u→C2 w (Ka (Fe k n 0 st.h++[Fa.row t τ xs]) (β++[(b,c)])) C.X (Fe k n 0 st.h++[Fa.row t τ xs]) (β++[(b,c)]) (AD k n v) u:=fun v u hc=>by
    cases v with
    |agg cs=>obtain ⟨us,h1,h2⟩:=hc;exact ⟨us,h1,mapF h2 c1⟩
    |own j =>
     have:=cF (.own j) u hc
     simp only [OM,Nk,AD] at this ⊢
     cases hb:Nat.beq j k<;>rw [hb] at this<;>exact this
    |im x=>exact cF (.im x) u hc
    |ptr j o=>exact cF (.ptr j o) u hc
    |ept j i z o=>exact cF (.ept j i z o) u hc
    |at_ cs o=>exact cF (.at_ cs o) u hc
    |fn f caps=>exact cF (.fn f caps) u hc
    |tup cs=>exact hc.elim
  have cv:∀v u,Cv w (Ka st.h β) C.X st.h β v u→Cv w (Ka (Fe k n 0 st.h++[Fa.row t τ xs]) (β++[(b,c)])) C.X (Fe k n 0 st.h++[Fa.row t τ xs]) (β++[(b,c)]) (PM k n v) u:=fun v u hc=>by
    cases v with
    |tup cs=>obtain ⟨us,h1,h2⟩:=hc;exact ⟨us,h1,mapF h2 c2⟩
    |own j =>
     have:=c2 (.own j) u hc
     simp only [PM,OM,Nk,AD] at this ⊢
     cases hb:Nat.beq j k<;>rw [hb] at this<;>exact this
    |im x=>exact c2 (.im x) u hc
    |ptr j o=>exact c2 (.ptr j o) u hc
    |ept j i z o=>exact c2 (.ept j i z o) u hc
    |at_ cs o=>exact c2 (.at_ cs o) u hc
    |fn f caps=>exact c2 (.fn f caps) u hc
    |agg cs=>exact c2 (.agg cs) u hc
  refine ⟨β++[(b,c)],S.cl,S.xw,S.step.trans ⟨rfl,rfl,rfl,Nat.le_refl _,fun _ _ _=>rfl,fun i _ h=>by rw [hE] at h;exact h,fun j p hj=>?_,⟨by rw [hlen,hn];omega,fun j t' τ' xs' hj e'=>?_,fun j hj e'=>?_⟩⟩,⟨by rw [hlen];simp [hl],fun i h=>h,fun i h=>?_,fun j o hj=>?_,fun i j o o' b1 c1' c2' hi hj li lj bi bj=>?_⟩,S.sz,S.df,fun i v hi=>?_⟩
  ·have hjl:=(List.getElem?_eq_some_iff.1 hj).1
   rw [hβ j (by omega)];exact hj
  ·rw [hn] at hj
   rcases only j _ e' with ⟨q,_⟩|⟨_,_,q⟩|⟨_,_,o0,h4,h5⟩
   ·omega
   ·cases q
   ·cases o0<;>simp only [An] at h5<;>first|(cases h5;done)|skip
    cases h5
    exact .inl ⟨_,h4,rfl⟩
  ·rw [hn] at hj
   rw [vi j hj] at e'
   exact e'
  ·rw [hE] at h;exact S.heap.nx i h
  ·rcases only j o hj with ⟨rfl,rfl⟩|⟨_,_,rfl⟩|⟨hjn,_,o0,h4,rfl⟩
   ·exact ⟨b,c,hβn,hc0,hcm,fun h=>by rw [hE];exact hrow h⟩
   ·trivial
   ·have ho:=S.heap.ok j o0 h4
    cases o0 with
    |dead=>trivial
    |vrow t' τ'=>obtain ⟨b1,h1⟩:=ho;exact ⟨b1,by rw [hβ j hjn];exact h1⟩
    |row t' τ' xs' =>
     obtain ⟨b1,c1',q1,q2,q3,q4⟩:=ho
     exact ⟨b1,c1',by rw [hβ j hjn];exact q1,q2,q3,fun h=>by rw [hE];exact q4 h⟩
    |box t' cs =>
     obtain ⟨b1,c1',us,q1,q2,q3,q4⟩:=ho
     exact ⟨b1,c1',us,by rw [hβ j hjn];exact q1,q2,mapF q3 c1,q4⟩
  ·have back:∀j o c',(Fe k n 0 st.h++[Fa.row t τ xs])[j]? =some o→Qc o c'→(β++[(b,c)])[j]? =some (b1,c')→∃j0 o0,st.h[j0]? =some o0∧Qc o0 c'∧β[j0]? =some (b1,c')∧((j=n∧j0=k)∨(j<n∧j≠k∧j0=j)):=fun j o c' h1 h2 h3=>by
     rcases only j o h1 with ⟨rfl,rfl⟩|⟨_,_,rfl⟩|⟨hjn,hjk,o0,h4,rfl⟩
     ·rw [hβn] at h3
      injection h3 with h3;injection h3 with e1 e2
      subst e1 e2
      exact ⟨k,_,hk,h2,hβk,.inl ⟨rfl,rfl⟩⟩
     ·exact h2.elim
     ·exact ⟨j,o0,h4,(lv o0 c').1 h2,by rw [←hβ j hjn];exact h3,.inr ⟨hjn,hjk,rfl⟩⟩
   obtain ⟨i0,p0,q1,q2,q3,q4⟩:=back i o c1' hi li bi
   obtain ⟨j0,p1,r1,r2,r3,r4⟩:=back j o' c2' hj lj bj
   have:=S.heap.inj i0 j0 p0 p1 b1 c1' c2' q1 r1 q2 r2 q3 r3
   omega
  ·have hi:Ed (BD k n st.t) i=some v:=hi
   rw [bI] at hi
   obtain ⟨v0,h1,rfl⟩:=Option.map_eq_some_iff.1 hi
   obtain ⟨u,h2,h3⟩:=S.tm i v0 h1
   exact ⟨u,h2,cv v0 u h3⟩
theorem bK:∀(l:List Nat) {st:St} {β:List (Nat×Nat)},Ab C st a w β→∃β',Ab C (QM l st) a w β'
  |[],st,β,S=>⟨β,S⟩
  |k::r,st,β,S=>by
   obtain ⟨β1,S1⟩:=pI S k
   exact bK r S1
def bL (G:Ma) (c:Code) (rs:List ResultVar) (AS:Rc) (ah:List Ho) (RS:Rc) (rh:List Ho) (ms:List Nat) (s:HL ah):Option (HL rh):=match AS.fill (up ah s) with
  |some (ds,os)=>bif Nat.beq os.length G.M&&Nat.ble ds.length G.N then Ag G c (QM ms ⟨Ep 0 ds,os⟩) (fun e st=>match e with
   | .normal=>(match Mj G.tab st rs with
     |some v=>(match RS.get G.M st.h [v] with|some l=>Lf rh l|none=>G.bad _ 61 none st)
     |none=>G.bad _ 62 none st)
   | .ret=>(match Mj G.tab st rs with
     |some v=>(match RS.get G.M st.h [v] with|some l=>Lf rh l|none=>G.bad _ 61 none st)
     |none=>G.bad _ 62 none st)
   |_=>G.bad _ 63 none st) else G.bad _ 64 none ⟨[],[]⟩
  |none=>none
theorem Rq (HB:Xc G) (HT:Wb P G.tab) (H:Pa P G.Γ) (hm:P.follows .mixedOrders=true) {f:FuncId} {fn:Func} {c:Code} (hf:P.funcs[f]? =some fn) (hb:fn.body=some c) (hN:fn.ntmps=G.N) (hc:Ui P G c) {AS RS:Rc} {ah rh:List Ho} {sh:HL ah→Option (HL rh)} (ms:List Nat) (hsh:∀s,bL G c fn.results.toList AS ah RS rh ms s=sh s):GC P f ⟨AS,ah,RS,rh,sh⟩:=fun s r hs ds os hfill d0 h0' hfin=>by
  have hs:sh s=some r:=hs
  have hs:=(hsh s).trans hs
  unfold bL at hs
  have hfill:AS.fill (up ah s)=some (ds,os):=hfill
  rw [hfill] at hs
  simp only at hs
  cases hb2:(Nat.beq os.length G.M&&Nat.ble ds.length G.N) with
  |false=>rw [hb2] at hs;simp only [cond_false] at hs;rw [HB] at hs;cases hs
  |true =>
   rw [hb2] at hs
   simp only [cond_true] at hs
   simp only [Bool.and_eq_true] at hb2
   have hM:=Nat.eq_of_beq_eq_true hb2.1
   have hds:=Nat.le_of_ble_eq_true hb2.2
   have endQ:∀(st:St),(match Mj G.tab st fn.results.toList with
     |some v=>(match RS.get G.M st.h [v] with|some l=>Lf rh l|none=>G.bad _ 61 none st)
     |none=>G.bad _ 62 none st)=some r→∃v l,Mj G.tab st fn.results.toList=some v∧RS.get G.M st.h [v]=some l∧Lf rh l=some r:=fun st hq=>by
     split at hq
     ·rename_i v hv
      split at hq
      ·rename_i l hl;exact ⟨v,l,hv,hl,hq⟩
      ·rw [HB] at hq;cases hq
     ·rw [HB] at hq;cases hq
   have hev:=Ap (r:=r) HB HT H hm c _ (QM ms ⟨Ep 0 ds,os⟩) (fun e st=>(e=.normal∨e=.ret)∧∃v l,Mj G.tab st fn.results.toList=some v∧RS.get G.M st.h [v]=some l∧Lf rh l=some r) hc (fun e st hk=>by
     cases e with
     |normal=>exact ⟨.inl rfl,endQ st hk⟩
     |ret=>exact ⟨.inr rfl,endQ st hk⟩
     |_=>(simp only at hk;rw [HB] at hk;cases hk)) hs
   have key:∀w X β args,(∀b,X b→b<w.heap.size)→Xd w (Ka os β) X os β→F2 (Cv w (Ka os β) X os β) ds args→Jf w os β→Calls P f args.toArray w fun ex w'=>∃d h',RS.fill (up rh r)=some ([d],h')∧∃u β',ex=.returned u∧Zb w os β w' h' β'∧Xd w' (Ka h' β') X h' β'∧Cv w' (Ka h' β') X h' β' d u:=fun w X β args hX hH hargs hG=>by
     refine calls_of_wp hf hb ?_
     have S0:Ab ⟨w,os,β,G.N,X⟩ ⟨Ep 0 ds,os⟩ { tmps:=args.toArray++Array.replicate (fn.ntmps-args.toArray.size) undef,defers:=[] } w β :=
       ⟨⟨hH.len,hG⟩,hX,Zb.refl _ _ _,hH,by have:=hargs.1;simp;omega,rfl,fun i v hi=>by
         obtain ⟨_,h1⟩:=XU ds 0 i v hi
         rw [Nat.sub_zero] at h1
         obtain ⟨u,hu,hR⟩:=hargs.get h1
         refine ⟨u,?_,hR⟩
         have hl:i<args.length:=(List.getElem?_eq_some_iff.1 hu).1
         show (args.toArray++Array.replicate (fn.ntmps-args.toArray.size) undef)[i]? =some u
         rw [Array.getElem?_append_left (by simpa using hl)]
         simpa using hu⟩
     obtain ⟨βm,Sm⟩:=bK ms S0
     have hw:=hev ⟨w,os,β,G.N,X⟩ _ w βm rfl hM Sm
     refine wp_mono hw ?_
     rintro e a' w' ⟨st',β',⟨he,v,l,h1,h2,h3⟩,S'⟩
     unfold Rc.get at h2
     split at h2
     rename_i ρ vr hρ
     cases hb3:(Xo vr&&Wm G.M ρ (st'.h++vr)) with
     |false=>rw [hb3] at h2;cases h2
     |true =>
      rw [hb3] at h2
      simp only [cond_true] at h2
      simp only [Bool.and_eq_true] at hb3
      obtain ⟨u,hres,hu0⟩:=aN HT S' h1
      obtain ⟨β2,S2,hst2⟩:=S'.virt vr hb3.1
      obtain ⟨ds',os',g1,g2,g3,g4⟩:=GU S2 hM hb3.2 h2
      have hu:Cv w' (Ka (st'.h++vr) β2) X (st'.h++vr) β2 v u:=hu0.keep (fun _ _ _=>rfl) (Nat.le_refl _) (fun b hb hn h=>hn (hst2.new b hb h)) (fun _ _ _ h=>h) hst2.hle hst2.beta
      have hF:=g2 [u] (F2.cons hu F2.nil)
      have hl1:ds'.length=1:=by rw [←hF.1];rfl
      obtain ⟨d,rfl⟩:∃d,ds'=[d]:=by
        match ds',hl1 with
        |[d],_=>exact ⟨d,rfl⟩
      have hd:Cv w' (Ka os' (Sc ρ β2)) X os' (Sc ρ β2) d u:=hF.2 0 d u rfl rfl
      have hup:=Uo h3
      rcases he with rfl|rfl
      ·exact ⟨S'.df,u,hres,d,os',by rw [hup];exact g1,u,_,rfl,g4,g3,hd⟩
      ·exact ⟨S'.df,u,hres,d,os',by rw [hup];exact g1,u,_,rfl,g4,g3,hd⟩
   intro w X β args hX hH hargs hG
   refine Calls.mono (key w X β args hX hH hargs hG) fun ex w' hx=>?_
   obtain ⟨d,h',g1,g2⟩:=hx
   have hfin:RS.fill (up rh r)=some ([d0],h0'):=hfin
   rw [hfin] at g1
   injection g1 with g1
   injection g1 with e1 e2
   injection e1 with e1
   subst e1 e2
   exact g2
end
end
section
open Go.RowKit
section
variable {P:Program} {ops:Array Oper} {md:Region.Mode} {Q:Exit→Act→World→Prop} {S:World→Prop}
theorem pJ {I:Array Bool→Prop} {n i:Nat} {oi:Oper} {v:Value} {T:Array Bool→Act→World→Prop} (hset:∀l i,I l→i∈Region.ready md ops l→i<n→I (l.setIfInBounds i true)) (hlt:∀l i j,I l→i<n→l.getD i true=false→j∈Region.ready md ops l→j<n) (hi:ops[i]? =some oi) (hsel:∀(j:Nat) (o:Oper) cs b,ops[j]? =some o→o.op≠.select cs b)
    (hQ:∀c a w,Q (.panic c) (a.put oi.dst v) w→Q (.panic c) a w) (hin:i<n)
    (hdone:∀listed a w,T listed a w→∀j∈Region.ready md ops listed,n≤j) :
    ∀(f:Nat) (listed:Array Bool) (a:Act) (w:World),I listed →
     (∀j oj,ops[j]? =some oj→j≠i→listed.getD j true=false→(∀e∈oj.after,Region.binds md e=true→e.on≠i)→oi.apart ops oj=true) →
     i∈Region.ready md ops listed→YieldsIf P ops S oi v a→S w →
     Yf P md ops Q S n T f (listed.setIfInBounds i true) (a.put oi.dst v) w→Yf P md ops Q S n T (f+1) listed a w:=by
  intro f
  induction f with
  |zero =>
   intro listed a w inv _ hr hy hS H
   have hun:=(mem_ready.1 hr).1
   refine ⟨fun h=>(by rw [h] at hr;cases hr),fun j hj=>?_⟩
   have hjn:j<n:=hlt _ _ _ inv hin hun hj
   refine ⟨hjn,?_⟩
   by_cases hji:j=i
   ·subst hji;exact hy.wpOp hi hS ⟨hS,H⟩
   ·have:=hdone _ _ _ H j (ready_mono hj hji)
    omega
  |succ f ih =>
   intro listed a w inv hfree hr hy hS H
   have hun:=(mem_ready.1 hr).1
   refine ⟨fun h=>(by rw [h] at hr;cases hr),fun j hj=>?_⟩
   have hjn:j<n:=hlt _ _ _ inv hin hun hj
   refine ⟨hjn,?_⟩
   by_cases hji:j=i
   ·subst hji;exact hy.wpOp hi hS ⟨hS,H⟩
   ·have h1:=(H.2 j (ready_mono hj hji)).2
    obtain ⟨hjun,oj,hoj,hall⟩:=mem_ready.1 hj
    have hnot:∀e∈oj.after,Region.binds md e=true→e.on≠i:=fun e he hb heq=>by
      have h1:=hall e he hb
      rw [heq,getD_both hun] at h1
      cases h1
    have h2:=wpOp_putIf hoj (hfree j oj hoj hji hjun hnot) (fun cs b=>hsel i oi cs b hi) (fun cs b=>hsel j oj cs b hoj) hQ hy h1
    have hfree':∀k ok,ops[k]? =some ok→k≠i→(listed.setIfInBounds j true).getD k true=false →
        (∀e∈ok.after,Region.binds md e=true→e.on≠i)→oi.apart ops ok=true:=fun k ok hk hki hun hno=>by
      refine hfree k ok hk hki ?_ hno
      by_cases hjk:j=k
      ·subst hjk;exact hjun
      ·rw [getD_set_ne true hjk] at hun;exact hun
    refine wpOp_mono (fun a' w' h3=>⟨h3.2.1,ih (listed.setIfInBounds j true) a' w' (hset _ _ inv hj hjn) hfree' (ready_mono hr (Ne.symm hji)) h3.1 h3.2.1 ?_⟩) h2
    rw [Array.setIfInBounds_comm _ _ hji]
    exact h3.2.2
def Bn (md:Region.Mode) (ops:Array Oper):List Nat→Array Bool→Bool
  |[],l=>decide (Region.ready md ops l=[])
  |t::r,l=>decide (Region.ready md ops l=[t])&&Bn md ops r (l.setIfInBounds t true)
theorem pK {n:Nat} {tl:List Nat} (htl:∀t∈tl,n≤t) {l:Array Bool} (h:Bn md ops tl l=true):∀j∈Region.ready md ops l,n≤j:=by
  cases tl with
  |nil=>intro j hj;rw [oT h] at hj;cases hj
  |cons t r =>
   intro j hj
   simp only [Bn,Bool.and_eq_true,decide_eq_true_eq] at h
   rw [h.1] at hj
   have:j=t:=by simpa using hj
   subst this
   exact htl _ (List.mem_cons_self ..)
def Oj (l:List Oper) (tl:List Nat):List Oper:=tl.filterMap fun k=>l[k]?
theorem LV {l:List Oper} {Q':Exit→Act→World→Prop}:∀(tl:List Nat) (listed:Array Bool) (a:Act) (w:World),Bn md l.toArray tl listed=true→(∀t∈tl,t<l.length)→wpList P l.toArray Q' (Oj l tl) a w→wpAny P md l.toArray Q' tl.length listed a w
  |[],_,_,_,hB,_,h=>⟨oT hB,h⟩
  |t::r,listed,a,w,hB,hl,h=>by
   have ht:=hl t (List.mem_cons_self ..)
   have h0:l[t]? =some l[t]:=List.getElem?_eq_getElem ht
   generalize l[t]=o at h0
   have h1:l.toArray[t]? =some o:=by simpa using h0
   simp only [Bn,Bool.and_eq_true,decide_eq_true_eq] at hB
   refine ⟨fun h1=>(by rw [hB.1] at h1;cases h1),fun i hi=>?_⟩
   rw [hB.1] at hi
   obtain rfl:i=t:=by simpa using hi
   have e:Oj l (i::r)=o::Oj l r:=by unfold Oj;rw [List.filterMap_cons];simp only [h0]
   rw [e] at h
   unfold wpOp
   simp only [h1]
   unfold wpList at h
   split
   ·rename_i hw
    rw [if_pos hw] at h
    exact h.imp (Oper.wp_mono fun a' w' h'=>LV r _ a' w' hB.2 (fun t' ht'=>hl t' (List.mem_cons_of_mem _ ht')) h') id
   ·rename_i hw
    rw [if_neg hw] at h
    exact LV r _ _ w hB.2 (fun t' ht'=>hl t' (List.mem_cons_of_mem _ ht')) h
def Df (md:Region.Mode) (ops:Array Oper) (tl:List Nat) (n:Nat):Bool→Nat→Tr→Array Bool→Bool
  |_,0,.done,listed=>Bn md ops tl listed
  |_,m+1,.val k r,listed=>decide (k<n)&&(match ops[k]? with
    |some o=>Qf o.op&&(Region.ready md ops listed).contains k&&Region.free md ops listed k
    |none=>false)&&Df md ops tl n true m r (listed.setIfInBounds k true)
  |b,m+1,.one k r,listed=>decide (k<n)&&(!b||decide (Region.ready md ops listed=[k]))&&Df md ops tl n true m r (listed.setIfInBounds k true)
  |b,m+1,.alt k r t,listed=>decide (k<n)&&(!b||decide (Region.ready md ops listed=k::Ke t))&&Df md ops tl n true m r (listed.setIfInBounds k true)&&Df md ops tl n false (m+1) t listed
  |_,_,_,_=>false
theorem bM {I:Array Bool→Prop} {tl:List Nat} {n m:Nat} {T:Act→World→Prop} (hset:∀l i,I l→i∈Region.ready md ops l→i<n→I (l.setIfInBounds i true)) (IH:∀(t:Tr) (listed:Array Bool) (a:Act) (w:World),I listed→Df md ops tl n true m t listed=true→S w→Bf P ops Q S T t a w →
    Yf P md ops (Lc Q) S n (fun listed' a' w'=>Bn md ops tl listed'=true∧T a' w') m listed a w) {listed:Array Bool} {a:Act} {w:World} (inv:I listed) (hS:S w) :
    ∀(t:Tr),Df md ops tl n false (m+1) t listed=true→Bf P ops Q S T t a w→∀i∈Ke t,i∈Region.ready md ops listed→i<n∧wpOp P ops (Lc Q) i (fun a' w'=>S w'∧Yf P md ops (Lc Q) S n (fun listed' a' w'=>Bn md ops tl listed'=true∧T a' w') m (listed.setIfInBounds i true) a' w') a w
  | .done,_,_,i,hi,_=>by simp [Ke] at hi
  | .val _ _,_,_,i,hi,_=>by simp [Ke] at hi
  | .two _ _ _ _,_,_,i,hi,_=>by simp [Ke] at hi
  | .one k r,hB,h,i,hi,hr=>by
    simp only [Df,Bool.and_eq_true,decide_eq_true_eq] at hB
    obtain ⟨⟨hkn,_⟩,hB'⟩:=hB
    obtain ⟨o,h0,h⟩:=h
    obtain rfl:i=k:=by simpa [Ke] using hi
    exact ⟨hkn,Nm h0 hS h fun a' w' hS' h'=>⟨hS',IH r _ _ _ (hset _ _ inv hr hkn) hB' hS' h'⟩⟩
  | .alt k r t,hB,h,i,hi,hr=>by
    simp only [Df,Bool.and_eq_true,decide_eq_true_eq] at hB
    obtain ⟨⟨⟨hkn,_⟩,hB'⟩,hBt⟩:=hB
    obtain ⟨⟨o,h0,h⟩,ht⟩:=h
    rcases List.mem_cons.1 (show i∈k::Ke t from hi) with rfl|hi
    ·exact ⟨hkn,Nm h0 hS h fun a' w' hS' h'=>⟨hS',IH r _ _ _ (hset _ _ inv hr hkn) hB' hS' h'⟩⟩
    ·exact bM hset IH inv hS t hBt ht i hi hr
theorem RM {I:Array Bool→Prop} {tl:List Nat} {n:Nat} {T:Act→World→Prop} (hset:∀l i,I l→i∈Region.ready md ops l→i<n→I (l.setIfInBounds i true)) (hlt:∀l i j,I l→i<n→l.getD i true=false→j∈Region.ready md ops l→j<n) (hsel:Region.noSelect ops=true) (htl:∀t∈tl,n≤t) :
    ∀(m:Nat) (t:Tr) (listed:Array Bool) (a:Act) (w:World),I listed→Df md ops tl n true m t listed=true→S w→Bf P ops Q S T t a w →
    Yf P md ops (Lc Q) S n (fun listed' a' w'=>Bn md ops tl listed'=true∧T a' w') m listed a w
  |0,.done,listed,a,w,_,hB,_,h=>⟨by simpa [Df] using hB,h⟩
  |0,.val _ _,_,_,_,_,hB,_,_=>by simp [Df] at hB
  |0,.one _ _,_,_,_,_,hB,_,_=>by simp [Df] at hB
  |0,.two _ _ _ _,_,_,_,_,hB,_,_=>by simp [Df] at hB
  |0,.alt _ _ _,_,_,_,_,hB,_,_=>by simp [Df] at hB
  |m+1,.done,_,_,_,_,hB,_,_=>by simp [Df] at hB
  |m+1,.two _ _ _ _,_,_,_,_,hB,_,_=>by simp [Df] at hB
  |m+1,.val k r,listed,a,w,inv,hB,hS,h=>by
   simp only [Df,Bool.and_eq_true,decide_eq_true_eq] at hB
   obtain ⟨⟨hkn,hB1⟩,hB'⟩:=hB
   obtain ⟨o,h0,h⟩:=h
   simp only [h0,Bool.and_eq_true] at hB1
   have hr':k∈Region.ready md ops listed:=by simpa using hB1.1.2
   obtain ⟨v,hy,hK⟩:∃v,YieldsIf P ops S o v a∧Bf P ops Q S T r (a.put o.dst v) w:=by
     by_cases hw:Region.wanted o (yielded ops a.tmps)=true
     ·simp only [hw,if_true] at h
      exact XK hB1.1.1 hw h
     ·simp only [hw] at h
      exact ⟨undef,.inr ⟨by simpa using hw,rfl⟩,h⟩
   exact pJ hset hlt h0 (Region.noSelect_spec hsel) (fun _ _ _ h=>h) hkn (fun listed' a' w' hL=>pK htl hL.1) m listed a w inv (Region.free_spec h0 hB1.2) hr' hy hS
     (RM hset hlt hsel htl m r _ _ _ (hset _ _ inv hr' hkn) hB' hS hK)
  |m+1,.one k r,listed,a,w,inv,hB,hS,h=>by
   simp only [Df,Bool.and_eq_true,decide_eq_true_eq,Bool.not_true,Bool.false_or] at hB
   obtain ⟨⟨hkn,hB1⟩,hB'⟩:=hB
   obtain ⟨o,h0,h⟩:=h
   have hr':k∈Region.ready md ops listed:=by rw [hB1];simp
   refine ⟨by rw [hB1];simp,fun i hi=>?_⟩
   rw [hB1] at hi
   obtain rfl:i=k:=by simpa using hi
   exact ⟨hkn,Nm h0 hS h fun a' w' hS' h'=>⟨hS',RM hset hlt hsel htl m r _ _ _ (hset _ _ inv hr' hkn) hB' hS' h'⟩⟩
  |m+1,.alt k r t,listed,a,w,inv,hB,hS,h=>by
   have hB0:Df md ops tl n false (m+1) (.alt k r t) listed=true:=by
     simp only [Df,Bool.and_eq_true,decide_eq_true_eq,Bool.not_false,Bool.true_or,true_and] at hB ⊢
     exact ⟨⟨⟨hB.1.1.1,trivial⟩,hB.1.2⟩,hB.2⟩
   simp only [Df,Bool.and_eq_true,decide_eq_true_eq,Bool.not_true,Bool.false_or] at hB
   obtain ⟨⟨⟨_,hB1⟩,_⟩,_⟩:=hB
   refine ⟨by rw [hB1];simp,fun i hi=>?_⟩
   exact bM hset (fun t listed a w=>RM hset hlt hsel htl m t listed a w) inv hS (.alt k r t) hB0 h i (by rw [hB1] at hi;exact hi) hi
structure Cn (md:Region.Mode) (ops:Array Oper) (n:Nat) (l0 listed:Array Bool):Prop where
  size:listed.size=ops.size
  closed:∀j oj,ops[j]? =some oj→listed.getD j false=true→∀e∈oj.after,Region.binds md e=true→listed.getD e.on false=true
  more:∀j,l0.getD j false=true→listed.getD j false=true
  tail:∀t,n≤t→l0.getD t true=false→listed.getD t true=false
def MV (md:Region.Mode) (ops:Array Oper) (n:Nat) (l0:Array Bool):Bool :=
  ((List.range n).all fun i=>l0.getD i true||(List.range (n+1)).any fun j=>decide (i<j)&&Region.waitsFor md ops j i)&&((List.range ops.size).all fun t=>decide (t≤n)||l0.getD t true||(List.range t).any fun t'=>decide (n≤t')&&!l0.getD t' true&&Region.waitsFor md ops t t')
theorem Cn.waits {n:Nat} {l0 listed:Array Bool} (hs:MV md ops n l0=true) (h0:l0.size=ops.size) (inv:Cn md ops n l0 listed) (hn:n≤ops.size) :
    ∀(d i:Nat),n-i=d→i<n→listed.getD i true=false→∀t,n≤t→t∉Region.ready md ops listed:=by
  simp only [MV,Bool.and_eq_true] at hs
  obtain ⟨hs1,hs2⟩:=hs
  have both:∀j,j<ops.size→l0.getD j true=true→listed.getD j false=true:=fun j hj h=>inv.more j (by
    have:j<l0.size:=by omega
    simpa [Array.getD_eq_getD_getElem?,this] using h)
  intro d
  induction d using Nat.strongRecOn with
  |_ d ih =>
   intro i hd hi hun t ht hr
   obtain ⟨htun,ot,hot,hall⟩:=mem_ready.1 hr
   have htlt:t<ops.size:=(Array.getElem?_eq_some_iff.1 hot).1
   by_cases htn:t=n
   ·subst htn
    have h1:=List.all_eq_true.1 hs1 i (List.mem_range.2 hi)
    simp only [Bool.or_eq_true] at h1
    rcases h1 with h1|h1
    ·have h2:=both i (by omega) h1
     rw [getD_both hun] at h2
     cases h2
    ·obtain ⟨j,hj,hj2⟩:=List.any_eq_true.1 h1
     simp only [Bool.and_eq_true,decide_eq_true_eq] at hj2
     obtain ⟨oj,hoj,e,he,hb,hon⟩:=Region.waitsFor_spec hj2.2
     have hjle:j≤t:=by have:=List.mem_range.1 hj;omega
     by_cases hjt:j=t
     ·subst hjt
      have:oj=ot:=Option.some.inj (hoj.symm.trans hot)
      subst this
      have h2:=hall e he hb
      rw [hon,getD_both hun] at h2
      cases h2
     ·cases hl:listed.getD j false with
      |true =>
       have h2:=inv.closed j oj hoj hl e he hb
       rw [hon,getD_both hun] at h2
       cases h2
      |false =>
       have hjs:j<listed.size:=by rw [inv.size];omega
       exact ih (t-j) (by omega) j rfl (by omega) (getD_in hjs hl) t (Nat.le_refl _) hr
   ·have h1:=List.all_eq_true.1 hs2 t (List.mem_range.2 htlt)
    simp only [Bool.or_eq_true,decide_eq_true_eq] at h1
    rcases h1 with (h1|h1)|h1
    ·omega
    ·have h2:=both t htlt h1
     rw [getD_both htun] at h2
     cases h2
    ·obtain ⟨t',ht',h2⟩:=List.any_eq_true.1 h1
     simp only [Bool.and_eq_true,decide_eq_true_eq,Bool.not_eq_true'] at h2
     obtain ⟨o',ho',e,he,hb,hon⟩:=Region.waitsFor_spec h2.2
     have:o'=ot:=Option.some.inj (ho'.symm.trans hot)
     subst this
     have h3:=hall e he hb
     rw [hon,getD_both (inv.tail t' h2.1.1 h2.1.2)] at h3
     cases h3
theorem Cn.set {n:Nat} {l0 listed:Array Bool} (inv:Cn md ops n l0 listed) {i:Nat} (hi:i∈Region.ready md ops listed) (hin:i<n):Cn md ops n l0 (listed.setIfInBounds i true):=by
  obtain ⟨_,oi,hoi,hall⟩:=mem_ready.1 hi
  refine ⟨by simp [inv.size],fun j oj hj hl e he hb=>?_,fun j hj=>getD_set_true (inv.more j hj),fun t ht ht'=>by rw [getD_set_ne true (by omega)];exact inv.tail t ht ht'⟩
  by_cases hij:i=j
  ·subst hij
   have:oj=oi:=Option.some.inj (hj.symm.trans hoi)
   subst this
   exact getD_set_true (hall e he hb)
  ·rw [getD_set_ne false hij] at hl
   exact getD_set_true (inv.closed j oj hj hl e he hb)
def My (md:Region.Mode) (ops:Array Oper):List Nat→Array Bool→Bool
  |[],_=>true
  |k::r,l=>decide (k<ops.size)&&(Region.ready md ops l).contains k&&Region.free md ops l k&&My md ops r (l.setIfInBounds k true)
def Lh:List Nat→Array Bool→Array Bool
  |[],l=>l
  |k::r,l=>Lh r (l.setIfInBounds k true)
def bN (ops:Array Oper) (U:List Nat) (n:Nat) (tl:List Nat) (t:Tr):Bool :=
  Region.noSelect ops&&My .any ops U (Array.replicate ops.size false)&&MV .any ops n (Lh U (Array.replicate ops.size false))&&Nat.ble n ops.size&&Nat.ble (U.length+tl.length) ops.size&&tl.all (fun t=>Nat.ble n t&&Nat.blt t ops.size)&&Df .any ops tl n true (ops.size-U.length-tl.length) t (Lh U (Array.replicate ops.size false))
theorem bO:∀(U:List Nat) (l:Array Bool),(Lh U l).size=l.size
  |[],l=>rfl
  |k::r,l=>by simp only [Lh];rw [bO r];simp
theorem bP:∀(U:List Nat) (l:Array Bool),My md ops U l=true→(∀j oj,ops[j]? =some oj→l.getD j false=true→∀e∈oj.after,Region.binds md e=true→l.getD e.on false=true)→(∀j oj,ops[j]? =some oj→(Lh U l).getD j false=true→∀e∈oj.after,Region.binds md e=true→(Lh U l).getD e.on false=true)
  |[],l,_,h=>h
  |k::r,l,hB,h=>by
   simp only [My,Bool.and_eq_true,decide_eq_true_eq] at hB
   obtain ⟨⟨⟨hk,hr⟩,_⟩,hB⟩:=hB
   have hr:k∈Region.ready md ops l:=by simpa using hr
   obtain ⟨_,ok,hok,hall⟩:=mem_ready.1 hr
   refine bP r _ hB fun j oj hj hl e he hb=>?_
   by_cases hij:k=j
   ·subst hij
    have:oj=ok:=Option.some.inj (hj.symm.trans hok)
    subst this
    exact getD_set_true (hall e he hb)
   ·rw [getD_set_ne false hij] at hl
    exact getD_set_true (h j oj hj hl e he hb)
end
def bQ (G:Ma) (ops:List Oper) (U:List Nat) (tl:List Nat) (ks:List Nat) (F FX FR:Yd) (p:List (Nat×Bool)) (s:HL F.hs):Option (HL FX.hs⊕HL FR.hs):=Kg G ops [] (Bc ops (U.map fun k=>(k,true))) (F.st s) fun kn st1=>bif Zf st1.h ks then Zd G ops ks kn (Bc ops p) ⟨st1.t,Ic ks st1.h⟩ st1 fun kn' st'=>Cf G ops kn' (Oj ops tl) st' fun st2=>(match FX.get G.M st2 with|some x=>some (.inl x)|none=>G.bad _ 52 none st2) else G.bad _ 41 none st1
section
variable {P:Program} {G:Ma} {C:Nc} {st:St} {a:Act} {w:World} {β:List (Nat×Nat)}
theorem pL {C:Nc} {st:St} {a:Act} {w:World} {β:List (Nat×Nat)} {ks:List Nat} (S:Ab C st a w β) (hb:Zf st.h ks=true):Yc ks (Ka st.h β) ⟨st.t,Ic ks st.h⟩ w β st w β:=by
  have hbx:=BM hb
  refine ⟨Ec.refl _ _ _ _,fun _ _ h=>h,fun _ _ h=>h,(DM ks st.h).2,fun k hk=>?_⟩
  have hbk:=hbx k hk
  have hkl:∃t cs,st.h[k]? =some (.box t cs):=by
    cases e:st.h[k]? with
    |none=>simp [Ti,e] at hbk
    |some o=>cases o<;>first|exact ⟨_,_,rfl⟩|simp [Ti,e] at hbk
  obtain ⟨t,cs,hk'⟩:=hkl
  refine ⟨by rw [S.heap.len];exact (List.getElem?_eq_some_iff.1 hk').1,fun b c hβ=>⟨⟨k,_,c,hk',trivial,hβ⟩,fun ⟨j,o,c',h1,h2,h3⟩=>?_⟩⟩
  have hdead:=RC hk hbk
  rcases Ol h1 with e1|⟨rfl,_⟩|rfl
  ·have:=S.heap.inj j k o _ b c' c e1 hk' h2 trivial h3 hβ
   subst this
   rw [hdead] at h1
   injection h1 with h1
   subst h1
   exact h2
  ·exact h2
  ·exact h2
theorem bR {ρ:Type} (HB:Xc G) (HT:Wb P G.tab) {ops:List Oper} {K:List (Nat×Bool)→St→Option ρ} {r:ρ} {Q:Exit→Act→World→Prop} (hN:C.N=G.N) (hsel:Region.noSelect ops.toArray=true) (hQ:∀c a w,Q (.panic c) a w→False) {f:Nat}:∀(U:List Nat) (listed:Array Bool) (kn:List (Nat×Bool)) (st:St) (a:Act),My .any ops.toArray U listed=true→Kg G ops kn (Bc ops (U.map fun k=>(k,true))) st K=some r→Ab C st a w β →
    (∀kn st a,K kn st=some r→Ab C st a w β→wpAny P .any ops.toArray Q f (Lh U listed) a w)→wpAny P .any ops.toArray Q (U.length+f) listed a w
  |[],listed,kn,st,a,_,h,S,hK=>by
   rw [List.length_nil,Nat.zero_add]
   exact hK kn st a h S
  |k::U,listed,kn,st,a,hB,h,S,hK=>by
   simp only [My,Bool.and_eq_true,decide_eq_true_eq] at hB
   obtain ⟨⟨⟨hk,hr⟩,hf⟩,hB⟩:=hB
   have hkl:k<ops.length:=by simpa using hk
   have hk0:ops[k]? =some ops[k]:=List.getElem?_eq_getElem hkl
   generalize ops[k]=o at hk0
   have hk':ops.toArray[k]? =some o:=by simpa using hk0
   rw [List.map_cons,Pl hk0] at h
   obtain ⟨v,kn',st',hy,hx,S'⟩:=bG HB HT hN (show Nj G ops kn o true st (fun kn' s=>Kg G ops kn' (Bc ops (U.map fun k=>(k,true))) s K)=some r from h) S
   rw [List.length_cons,show U.length+1+f=(U.length+f)+1 by omega]
   exact wpAny_first hk' (Region.noSelect_spec hsel) (fun c a w h=>(hQ c _ w h).elim) _ listed a w (Region.free_spec hk' hf) (by simpa using hr) hy (bR HB HT hN hsel hQ U _ kn' st' _ hB hx S' hK)
theorem Ny (HB:Xc G) (HT:Wb P G.tab) (H:Pa P G.Γ) (hm:P.follows .mixedOrders=true) {id:Nat} {ops:Array Oper} {U:List Nat} {n:Nat} {tl:List Nat} {ks:List Nat} {t:Tr} {F:Yd} {eid:Nat} {FX FR:Yd} {sh:HL F.hs→Option (HL FX.hs⊕HL FR.hs)} (hB:bN ops U n tl t=true) (hi:Ee ops.toList t=true)
    (hs:Jy (Xb t) fun p=>∀s,bQ G ops.toList U tl ks F FX FR p s=sh s):Ae P G.M G.N id ops ⟨F,eid,FX,FR,sh⟩:=fun s x hx Q hQ C a w β hN hM S=>by
  have hx:sh s=some (.inl x):=hx
  have hs:=UC hs
  have h:∀p∈Xb t,bQ G ops.toList U tl ks F FX FR p s=some (.inl x):=fun p hp=>(hs p hp s).trans hx
  have S:Ab C (F.st s) a w β:=S
  have e:ops=ops.toList.toArray:=by simp
  show (Code.region id ops true).wp P (Mf C Q) a w
  rw [e] at hB ⊢
  generalize ops.toList=l at *
  simp only [bN,Bool.and_eq_true] at hB
  obtain ⟨⟨⟨⟨⟨⟨hsel,hho⟩,hsink⟩,hn⟩,hul⟩,htl⟩,htr⟩:=hB
  have hn:=Nat.le_of_ble_eq_true hn
  have hul:=Nat.le_of_ble_eq_true hul
  have htl:∀t∈tl,n≤t∧t<l.length:=fun t ht=>by
    have:=List.all_eq_true.1 htl t ht
    simp only [Bool.and_eq_true] at this
    exact ⟨Nat.le_of_ble_eq_true this.1,by simpa using Nat.blt_eq.mp this.2⟩
  let Q1:AQ:=fun e st2=>e=.normal∧FX.get G.M st2=some x
  have hQ1:∀c a w,Mf C Q1 (.panic c) a w→False:=fun c a w ⟨_,_,⟨h,_⟩,_⟩=>by cases h
  refine wp_mono (Q:=Mf C Q1) ?_ ?_
  rotate_left
  ·rintro e a2 w2 ⟨st2,β2,⟨rfl,hq⟩,S2⟩
   obtain ⟨β3,S3⟩:=FX.imp hq C a2 w2 β2 hM S2
   exact ⟨_,β3,hQ,S3⟩
  refine wp_region_any hm ?_
  have hlen:l.toArray.size=U.length+((l.toArray.size-U.length-tl.length)+tl.length):=by omega
  have first:∀(V:List Nat) (kn:List (Nat×Bool)) (st:St),(∀p∈Xb t,Kg G l kn (Bc l (V.map fun k=>(k,true))) st (fun kn st1=>bif Zf st1.h ks then Zd G l ks kn (Bc l p) ⟨st1.t,Ic ks st1.h⟩ st1 fun kn' st'=>Cf G l kn' (Oj l tl) st' fun st2=>(match FX.get G.M st2 with|some x=>some (Sum.inl x:HL FX.hs⊕HL FR.hs)|none=>G.bad _ 52 none st2) else G.bad _ 41 none st1)=some (.inl x)) →
      ∃y:List (Nat×Bool)×St,Kg G l kn (Bc l (V.map fun k=>(k,true))) st (fun a b=>some (a,b))=some y∧∀p∈Xb t,(bif Zf y.2.h ks then Zd G l ks y.1 (Bc l p) ⟨y.2.t,Ic ks y.2.h⟩ y.2 fun kn' st'=>Cf G l kn' (Oj l tl) st' fun st2=>(match FX.get G.M st2 with|some x=>some (Sum.inl x:HL FX.hs⊕HL FR.hs)|none=>G.bad _ 52 none st2) else G.bad _ 41 none y.2)=some (.inl x):=by
    intro V
    have bind:∀{ρ:Type} (q:List (Oper×Bool)) (kn:List (Nat×Bool)) (st:St) (K:List (Nat×Bool)→St→Option ρ),Kg G l kn q st K=(Kg G l kn q st (fun a b=>some (a,b))).bind fun y=>K y.1 y.2:=by
      intro ρ q
      induction q with
      |nil=>intro kn st K;rfl
      |cons o q ih =>
       intro kn st K
       obtain ⟨o,f⟩:=o
       exact bE HB fun kn' s=>ih kn' s K
    intro kn st hp
    have e:=fun p=>bind (Bc l (V.map fun k=>(k,true))) kn st (fun kn st1=>bif Zf st1.h ks then Zd G l ks kn (Bc l p) ⟨st1.t,Ic ks st1.h⟩ st1 fun kn' st'=>Cf G l kn' (Oj l tl) st' fun st2=>(match FX.get G.M st2 with|some x=>some (Sum.inl x:HL FX.hs⊕HL FR.hs)|none=>G.bad _ 52 none st2) else G.bad _ 41 none st1)
    generalize Kg G l kn (Bc l (V.map fun k=>(k,true))) st (fun a b=>some (a,b))=z at e
    cases z with
    |none =>
     obtain ⟨p,hp'⟩:=List.exists_mem_of_ne_nil _ (Jg t)
     have:=hp p hp'
     rw [e] at this
     cases this
    |some y=>exact ⟨y,rfl,fun p hp'=>by have:=hp p hp';rw [e] at this;exact this⟩
  obtain ⟨y,hy,hyp⟩:=first U [] (F.st s) h
  suffices hgo:wpAny P .any l.toArray (Mf C Q1) (U.length+((l.toArray.size-U.length-tl.length)+tl.length)) (Array.replicate l.toArray.size false) a w.drew by rw [←hlen] at hgo;exact hgo
  refine bR (K:=fun a b=>some (a,b)) (r:=y) HB HT hN hsel hQ1 U (Array.replicate l.toArray.size false) [] (F.st s) a hho hy S.drew fun kn st1 a1 hk S1=>?_
  injection hk with hk
  subst hk
  have hh:∀p∈Xb t,Zf st1.h ks=true∧Zd G l ks kn (Bc l p) ⟨st1.t,Ic ks st1.h⟩ st1 (fun kn' st'=>Cf G l kn' (Oj l tl) st' fun st2=>(match FX.get G.M st2 with|some x=>some (Sum.inl x:HL FX.hs⊕HL FR.hs)|none=>G.bad _ 52 none st2))=some (.inl x):=fun p hp=>by
    have h1:=hyp p hp
    simp only at h1
    cases hb:Zf st1.h ks with
    |false=>rw [hb] at h1;simp only [cond_false] at h1;rw [HB] at h1;cases h1
    |true=>rw [hb] at h1;exact ⟨rfl,h1⟩
  obtain ⟨p0,hp0⟩:=List.exists_mem_of_ne_nil _ (Jg t)
  have hb:=(hh p0 hp0).1
  have hl0:(Lh U (Array.replicate l.toArray.size false)).size=l.toArray.size:=by rw [bO];simp
  have inv0:Cn .any l.toArray n (Lh U (Array.replicate l.toArray.size false)) (Lh U (Array.replicate l.toArray.size false)) :=
    ⟨hl0,bP U _ hho (fun j oj _ hl=>by rw [getD_replicate_false] at hl;cases hl),fun j h=>h,fun t _ h=>h⟩
  have hset:∀l' i,Cn .any l.toArray n (Lh U (Array.replicate l.toArray.size false)) l'→i∈Region.ready .any l.toArray l'→i<n→Cn .any l.toArray n (Lh U (Array.replicate l.toArray.size false)) (l'.setIfInBounds i true):=fun l' i h1 h2 h3=>h1.set h2 h3
  have hlt:∀l' i j,Cn .any l.toArray n (Lh U (Array.replicate l.toArray.size false)) l'→i<n→l'.getD i true=false→j∈Region.ready .any l.toArray l'→j<n:=fun l' i j h1 h2 h3 h4=>by
    rcases Nat.lt_or_ge j n with h|h
    ·exact h
    ·exact absurd h4 (h1.waits hsink hl0 hn _ i rfl h2 h3 j h)
  let Q2:AQ:=Q1
  have evL_ok1:∀{kn st'},Cf G l kn (Oj l tl) st' (fun st2=>(match FX.get G.M st2 with|some x=>some (Sum.inl x:HL FX.hs⊕HL FR.hs)|none=>G.bad _ 52 none st2))=some (.inl x)→OU P G.M G.N l.toArray Q1 (Oj l tl) st':=fun {kn st'} hk =>
    Fy HB HT H (Q:=Q1) (fun st2 h2=>by
      split at h2
      ·rename_i y hy
       injection h2 with h2
       injection h2 with h2
       subst h2
       exact ⟨rfl,hy⟩
      ·rw [HB] at h2;cases h2) _ kn st' hk
  have hW:=RM (P:=P) (md:=.any) (ops:=l.toArray) (Q:=Mf C Q1) (S:=fun w'=>Ec w.drew w' (Ka st1.h β) (Ic ks st1.h) β) (T:=fun a' w'=>wpList P l.toArray (Mf C Q1) (Oj l tl) a' w') hset hlt hsel (fun t ht=>(htl t ht).1) (l.toArray.size-U.length-tl.length) t (Lh U (Array.replicate l.toArray.size false)) a1 w.drew inv0 htr (Ec.refl _ _ _ _)
    (Bp HB HT H hN (fun kn st' a' w' β' hK S'=>evL_ok1 hK C a' w' β' hN hM S') t kn ⟨st1.t,Ic ks st1.h⟩ st1 a1 w.drew β hi (fun p hp=>(hh p hp).2) rfl (S1.kill ks) S1 (pL S1 hb))
  exact RB Lc.le (fun listed a' w' hL=>LV tl listed a' w' hL.1 (fun t ht=>(htl t ht).2) hL.2) _ _ _ _ hW
end
end
section
open Go.RowKit
theorem Xe {P:Program} {e:TypeId} {z:Value} {size bytes:Nat} (h:(P.info? e).map (fun i=>(i.zero,i.size,i.bytes))=some (some z,size,bytes)):∃i,P.info? e=some i∧i.zero=some z∧i.size=size∧i.bytes=bytes:=by
  obtain ⟨i,h1,h2⟩:=Option.map_eq_some_iff.1 h
  simp only [Prod.mk.injEq] at h2
  exact ⟨i,h1,h2.1,h2.2.1,h2.2.2⟩
theorem pM:Qb Tryz.prog 2 ⟨false,1,[],none,some [.int .i64 0],0,some .i64,[]⟩:=⟨Tryz.sizeOf2,Tryz.isAgg2,(fun _=>rfl),(fun _ _ _ h=>by simp at h),(fun _ _ _ h=>by cases h),(fun _ _ _ _ _ h=>by cases h),(fun zs h=>by cases h;exact ⟨_,Tryz.zeroValue2,rfl,by simp [Value.oneCell']⟩),(fun _ _ h=>by cases h),(fun h=>by cases h),(fun _ h=>by cases h;exact Tryz.runUnderlying2),(fun h=>by cases h),(fun h=>by cases h),(fun h=>by cases h),(fun _ _ _ _ _ h=>by simp at h)⟩
theorem pN:Qb Tryz.prog 3 ⟨false,1,[],none,some [.int .i64 0],0,some .i64,[]⟩:=⟨Tryz.sizeOf3,Tryz.isAgg3,(fun _=>rfl),(fun _ _ _ h=>by simp at h),(fun _ _ _ h=>by cases h),(fun _ _ _ _ _ h=>by cases h),(fun zs h=>by cases h;exact ⟨_,Tryz.zeroValue3,rfl,by simp [Value.oneCell']⟩),(fun _ _ h=>by cases h),(fun h=>by cases h),(fun _ h=>by cases h;exact Tryz.runUnderlying3),(fun h=>by cases h),(fun h=>by cases h),(fun h=>by cases h),(fun _ _ _ _ _ h=>by simp at h)⟩
theorem pO:Qb Tryz.prog 4 ⟨false,1,[],none,some [.bool false],1,none,[]⟩:=⟨Tryz.sizeOf4,Tryz.isAgg4,(fun _=>rfl),(fun _ _ _ h=>by simp at h),(fun _ _ _ h=>by cases h),(fun _ _ _ _ _ h=>by cases h),(fun zs h=>by cases h;exact ⟨_,Tryz.zeroValue4,rfl,by simp [Value.oneCell']⟩),(fun _ _ h=>by cases h),(fun _=>Tryz.underlying4),(fun _ h=>by cases h),(fun h=>by cases h),(fun h=>by cases h),(fun h=>by cases h),(fun _ _ _ _ _ h=>by simp at h)⟩
theorem pP:Qb Tryz.prog 5 ⟨false,1,[],none,some [.int .u8 0],0,some .u8,[]⟩:=⟨Tryz.sizeOf5,Tryz.isAgg5,(fun _=>rfl),(fun _ _ _ h=>by simp at h),(fun _ _ _ h=>by cases h),(fun _ _ _ _ _ h=>by cases h),(fun zs h=>by cases h;exact ⟨_,Tryz.zeroValue5,rfl,by simp [Value.oneCell']⟩),(fun _ _ h=>by cases h),(fun h=>by cases h),(fun _ h=>by cases h;exact Tryz.runUnderlying5),(fun h=>by cases h),(fun h=>by cases h),(fun h=>by cases h),(fun _ _ _ _ _ h=>by simp at h)⟩
theorem pQ:Qb Tryz.prog 9 ⟨false,1,[],none,some [.string ⟨#[]⟩],2,none,[]⟩:=⟨Tryz.sizeOf9,Tryz.isAgg9,(fun _=>rfl),(fun _ _ _ h=>by simp at h),(fun _ _ _ h=>by cases h),(fun _ _ _ _ _ h=>by cases h),(fun zs h=>by cases h;exact ⟨_,Tryz.zeroValue9,rfl,by simp [Value.oneCell']⟩),(fun _ _ h=>by cases h),(fun h=>by cases h),(fun _ h=>by cases h),(fun _=>Tryz.underlying9),(fun h=>by cases h),(fun h=>by cases h),(fun _ _ _ _ _ h=>by simp at h)⟩
theorem pR:Qb Tryz.prog 21 ⟨false,1,[],none,some [.int .i32 0],0,some .i32,[]⟩:=⟨Tryz.sizeOf21,Tryz.isAgg21,(fun _=>rfl),(fun _ _ _ h=>by simp at h),(fun _ _ _ h=>by cases h),(fun _ _ _ _ _ h=>by cases h),(fun zs h=>by cases h;exact ⟨_,Tryz.zeroValue21,rfl,by simp [Value.oneCell']⟩),(fun _ _ h=>by cases h),(fun h=>by cases h),(fun _ h=>by cases h;exact Tryz.runUnderlying21),(fun h=>by cases h),(fun h=>by cases h),(fun h=>by cases h),(fun _ _ _ _ _ h=>by simp at h)⟩
theorem bS:(Tryz.prog.info? 5).map (fun i=>(i.zero,i.size,i.bytes))=some (some (.int .u8 0),1,1):=by kernel_rfl
theorem pS:Qb Tryz.prog 24 ⟨false,1,[],some (5,.u8,1),some [.slice none 0 0],0,none,[]⟩:=⟨Tryz.sizeOf24,Tryz.isAgg24,(fun _=>rfl),(fun _ _ _ h=>by simp at h),(fun _ _ _ h=>by cases h;exact ⟨Tryz.underlying24,by obtain ⟨i,h1,h2,h3,h4⟩:=Xe bS;exact ⟨i,_,h1,h2,h3,h4,rfl⟩,by decide⟩),(fun _ _ _ inf z h hi hz=>by cases h;obtain ⟨i,h1,h2,h3,h4⟩:=Xe bS;rw [h1] at hi;cases hi;rw [h2] at hz;cases hz;rfl),(fun zs h=>by cases h;exact ⟨_,Tryz.zeroValue24,rfl,by simp [Value.oneCell']⟩),(fun _ _ h=>by cases h),(fun h=>by cases h),(fun _ h=>by cases h),(fun h=>by cases h),(fun h=>by cases h),(fun h=>by cases h),(fun _ _ _ _ _ h=>by simp at h)⟩
theorem bT:(Tryz.prog.info? 60).map (fun i=>(i.zero,i.size,i.bytes))=some (some (.agg #[.int .i64 0,.int .i64 0,.int .i64 0]),3,24):=by kernel_rfl
theorem pT:Qb Tryz.prog 27 ⟨false,1,[],some (60,.lk,24),some [.slice none 0 0],0,none,[]⟩:=⟨Tryz.sizeOf27,Tryz.isAgg27,(fun _=>rfl),(fun _ _ _ h=>by simp at h),(fun _ _ _ h=>by cases h;exact ⟨Tryz.underlying27,by obtain ⟨i,h1,h2,h3,h4⟩:=Xe bT;exact ⟨i,_,h1,h2,h3,h4,rfl⟩,by decide⟩),(fun _ _ _ inf z h hi hz=>by cases h;obtain ⟨i,h1,h2,h3,h4⟩:=Xe bT;rw [h1] at hi;cases hi;rw [h2] at hz;cases hz;rfl),(fun zs h=>by cases h;exact ⟨_,Tryz.zeroValue27,rfl,by simp [Value.oneCell']⟩),(fun _ _ h=>by cases h),(fun h=>by cases h),(fun _ h=>by cases h),(fun h=>by cases h),(fun h=>by cases h),(fun h=>by cases h),(fun _ _ _ _ _ h=>by simp at h)⟩
theorem pU:Qb Tryz.prog 28 ⟨true,2,[(0,1),(1,1)],none,some [.int .i64 0,.slice none 0 0],0,none,[false,false]⟩:=⟨Tryz.sizeOf28,Tryz.isAgg28,(fun h=>by cases h),(fun j off fs h=>match j,h with|0,h=>by injection h with h;injection h with h1 h2;subst h1 h2;exact ⟨_,_,Tryz.runUnderlying28,rfl,rfl,Tryz.sizeOf3,by decide⟩|1,h=>by injection h with h;injection h with h1 h2;subst h1 h2;exact ⟨_,_,Tryz.runUnderlying28,rfl,rfl,Tryz.sizeOf27,by decide⟩|_+2,h=>by simp at h),(fun _ _ _ h=>by cases h),(fun _ _ _ _ _ h=>by cases h),(fun zs h=>by cases h;exact ⟨_,Tryz.zeroValue28,rfl,by simp [Value.oneCell']⟩),(fun _ _ _=>⟨_,Tryz.runUnderlying28,fun w=>by simp [Tryz.sizeOf27,Tryz.sizeOf3]⟩),(fun h=>by cases h),(fun _ h=>by cases h),(fun h=>by cases h),(fun h=>by cases h),(fun h=>by cases h),(fun j off fs b h h2=>match j,h,h2 with|0,h,h2=>by injection h with h;injection h with h1 h3;subst h1 h3;injection h2 with h2;subst h2;exact ⟨_,_,Tryz.runUnderlying28,rfl,rfl,Tryz.isAgg3,Tryz.sizeOf3⟩|1,h,h2=>by injection h with h;injection h with h1 h3;subst h1 h3;injection h2 with h2;subst h2;exact ⟨_,_,Tryz.runUnderlying28,rfl,rfl,Tryz.isAgg27,Tryz.sizeOf27⟩|_+2,h,_=>by simp at h)⟩
theorem pV:Qb Tryz.prog 29 ⟨true,2,[(0,1),(1,1)],none,some [.int .i64 0,.slice none 0 0],0,none,[false,false]⟩:=⟨Tryz.sizeOf29,Tryz.isAgg29,(fun h=>by cases h),(fun j off fs h=>match j,h with|0,h=>by injection h with h;injection h with h1 h2;subst h1 h2;exact ⟨_,_,Tryz.runUnderlying29,rfl,rfl,Tryz.sizeOf3,by decide⟩|1,h=>by injection h with h;injection h with h1 h2;subst h1 h2;exact ⟨_,_,Tryz.runUnderlying29,rfl,rfl,Tryz.sizeOf27,by decide⟩|_+2,h=>by simp at h),(fun _ _ _ h=>by cases h),(fun _ _ _ _ _ h=>by cases h),(fun zs h=>by cases h;exact ⟨_,Tryz.zeroValue29,rfl,by simp [Value.oneCell']⟩),(fun _ _ _=>⟨_,Tryz.runUnderlying29,fun w=>by simp [Tryz.sizeOf27,Tryz.sizeOf3]⟩),(fun h=>by cases h),(fun _ h=>by cases h),(fun h=>by cases h),(fun h=>by cases h),(fun h=>by cases h),(fun j off fs b h h2=>match j,h,h2 with|0,h,h2=>by injection h with h;injection h with h1 h3;subst h1 h3;injection h2 with h2;subst h2;exact ⟨_,_,Tryz.runUnderlying29,rfl,rfl,Tryz.isAgg3,Tryz.sizeOf3⟩|1,h,h2=>by injection h with h;injection h with h1 h3;subst h1 h3;injection h2 with h2;subst h2;exact ⟨_,_,Tryz.runUnderlying29,rfl,rfl,Tryz.isAgg27,Tryz.sizeOf27⟩|_+2,h,_=>by simp at h)⟩
theorem bU:(Tryz.prog.info? 4).map (fun i=>(i.zero,i.size,i.bytes))=some (some (.bool false),1,1):=by kernel_rfl
theorem pW:Qb Tryz.prog 30 ⟨false,1,[],some (4,.bool,1),some [.slice none 0 0],0,none,[]⟩:=⟨Tryz.sizeOf30,Tryz.isAgg30,(fun _=>rfl),(fun _ _ _ h=>by simp at h),(fun _ _ _ h=>by cases h;exact ⟨Tryz.underlying30,by obtain ⟨i,h1,h2,h3,h4⟩:=Xe bU;exact ⟨i,_,h1,h2,h3,h4,rfl⟩,by decide⟩),(fun _ _ _ inf z h hi hz=>by cases h;obtain ⟨i,h1,h2,h3,h4⟩:=Xe bU;rw [h1] at hi;cases hi;rw [h2] at hz;cases hz;rfl),(fun zs h=>by cases h;exact ⟨_,Tryz.zeroValue30,rfl,by simp [Value.oneCell']⟩),(fun _ _ h=>by cases h),(fun h=>by cases h),(fun _ h=>by cases h),(fun h=>by cases h),(fun h=>by cases h),(fun h=>by cases h),(fun _ _ _ _ _ h=>by simp at h)⟩
theorem bV:(Tryz.prog.info? 3).map (fun i=>(i.zero,i.size,i.bytes))=some (some (.int .i64 0),1,8):=by kernel_rfl
theorem pX:Qb Tryz.prog 31 ⟨false,1,[],some (3,.int,8),some [.slice none 0 0],0,none,[]⟩:=⟨Tryz.sizeOf31,Tryz.isAgg31,(fun _=>rfl),(fun _ _ _ h=>by simp at h),(fun _ _ _ h=>by cases h;exact ⟨Tryz.underlying31,by obtain ⟨i,h1,h2,h3,h4⟩:=Xe bV;exact ⟨i,_,h1,h2,h3,h4,rfl⟩,by decide⟩),(fun _ _ _ inf z h hi hz=>by cases h;obtain ⟨i,h1,h2,h3,h4⟩:=Xe bV;rw [h1] at hi;cases hi;rw [h2] at hz;cases hz;rfl),(fun zs h=>by cases h;exact ⟨_,Tryz.zeroValue31,rfl,by simp [Value.oneCell']⟩),(fun _ _ h=>by cases h),(fun h=>by cases h),(fun _ h=>by cases h),(fun h=>by cases h),(fun h=>by cases h),(fun h=>by cases h),(fun _ _ _ _ _ h=>by simp at h)⟩
theorem bW:(Tryz.prog.info? 45).map (fun i=>(i.zero,i.size,i.bytes))=some (some (.slice none 0 0),1,24):=by kernel_rfl
theorem pY:Qb Tryz.prog 32 ⟨false,1,[],some (45,.db,24),some [.slice none 0 0],0,none,[]⟩:=⟨Tryz.sizeOf32,Tryz.isAgg32,(fun _=>rfl),(fun _ _ _ h=>by simp at h),(fun _ _ _ h=>by cases h;exact ⟨Tryz.underlying32,by obtain ⟨i,h1,h2,h3,h4⟩:=Xe bW;exact ⟨i,_,h1,h2,h3,h4,rfl⟩,by decide⟩),(fun _ _ _ inf z h hi hz=>by cases h;obtain ⟨i,h1,h2,h3,h4⟩:=Xe bW;rw [h1] at hi;cases hi;rw [h2] at hz;cases hz;rfl),(fun zs h=>by cases h;exact ⟨_,Tryz.zeroValue32,rfl,by simp [Value.oneCell']⟩),(fun _ _ h=>by cases h),(fun h=>by cases h),(fun _ h=>by cases h),(fun h=>by cases h),(fun h=>by cases h),(fun h=>by cases h),(fun _ _ _ _ _ h=>by simp at h)⟩
theorem NV:(Tryz.prog.info? 86).map (fun i=>(i.zero,i.size,i.bytes))=some (some (.agg #[.int .i64 0,.int .i64 0,.int .i64 0,.slice none 0 0]),4,48):=by kernel_rfl
theorem pZ:Qb Tryz.prog 33 ⟨false,1,[],some (86,.pk,48),some [.slice none 0 0],0,none,[]⟩:=⟨Tryz.sizeOf33,Tryz.isAgg33,(fun _=>rfl),(fun _ _ _ h=>by simp at h),(fun _ _ _ h=>by cases h;exact ⟨Tryz.underlying33,by obtain ⟨i,h1,h2,h3,h4⟩:=Xe NV;exact ⟨i,_,h1,h2,h3,h4,rfl⟩,by decide⟩),(fun _ _ _ inf z h hi hz=>by cases h;obtain ⟨i,h1,h2,h3,h4⟩:=Xe NV;rw [h1] at hi;cases hi;rw [h2] at hz;cases hz;rfl),(fun zs h=>by cases h;exact ⟨_,Tryz.zeroValue33,rfl,by simp [Value.oneCell']⟩),(fun _ _ h=>by cases h),(fun h=>by cases h),(fun _ h=>by cases h),(fun h=>by cases h),(fun h=>by cases h),(fun h=>by cases h),(fun _ _ _ _ _ h=>by simp at h)⟩
theorem qA:Qb Tryz.prog 34 ⟨true,6,[(0,2),(2,1),(3,1),(4,1),(5,1)],none,some [.int .i64 0,.slice none 0 0,.slice none 0 0,.slice none 0 0,.slice none 0 0,.slice none 0 0],0,none,[true,false,false,false,false]⟩:=⟨Tryz.sizeOf34,Tryz.isAgg34,(fun h=>by cases h),(fun j off fs h=>match j,h with|0,h=>by injection h with h;injection h with h1 h2;subst h1 h2;exact ⟨_,_,Tryz.runUnderlying34,rfl,rfl,Tryz.sizeOf29,by decide⟩|1,h=>by injection h with h;injection h with h1 h2;subst h1 h2;exact ⟨_,_,Tryz.runUnderlying34,rfl,rfl,Tryz.sizeOf30,by decide⟩|2,h=>by injection h with h;injection h with h1 h2;subst h1 h2;exact ⟨_,_,Tryz.runUnderlying34,rfl,rfl,Tryz.sizeOf31,by decide⟩|3,h=>by injection h with h;injection h with h1 h2;subst h1 h2;exact ⟨_,_,Tryz.runUnderlying34,rfl,rfl,Tryz.sizeOf32,by decide⟩|4,h=>by injection h with h;injection h with h1 h2;subst h1 h2;exact ⟨_,_,Tryz.runUnderlying34,rfl,rfl,Tryz.sizeOf33,by decide⟩|_+5,h=>by simp at h),(fun _ _ _ h=>by cases h),(fun _ _ _ _ _ h=>by cases h),(fun zs h=>by cases h;exact ⟨_,Tryz.zeroValue34,rfl,by simp [Value.oneCell']⟩),(fun _ _ _=>⟨_,Tryz.runUnderlying34,fun w=>by simp [Tryz.sizeOf29,Tryz.sizeOf30,Tryz.sizeOf31,Tryz.sizeOf32,Tryz.sizeOf33]⟩),(fun h=>by cases h),(fun _ h=>by cases h),(fun h=>by cases h),(fun h=>by cases h),(fun h=>by cases h),(fun j off fs b h h2=>match j,h,h2 with|0,h,h2=>by injection h with h;injection h with h1 h3;subst h1 h3;injection h2 with h2;subst h2;exact ⟨_,_,Tryz.runUnderlying34,rfl,rfl,Tryz.isAgg29,Tryz.sizeOf29⟩|1,h,h2=>by injection h with h;injection h with h1 h3;subst h1 h3;injection h2 with h2;subst h2;exact ⟨_,_,Tryz.runUnderlying34,rfl,rfl,Tryz.isAgg30,Tryz.sizeOf30⟩|2,h,h2=>by injection h with h;injection h with h1 h3;subst h1 h3;injection h2 with h2;subst h2;exact ⟨_,_,Tryz.runUnderlying34,rfl,rfl,Tryz.isAgg31,Tryz.sizeOf31⟩|3,h,h2=>by injection h with h;injection h with h1 h3;subst h1 h3;injection h2 with h2;subst h2;exact ⟨_,_,Tryz.runUnderlying34,rfl,rfl,Tryz.isAgg32,Tryz.sizeOf32⟩|4,h,h2=>by injection h with h;injection h with h1 h3;subst h1 h3;injection h2 with h2;subst h2;exact ⟨_,_,Tryz.runUnderlying34,rfl,rfl,Tryz.isAgg33,Tryz.sizeOf33⟩|_+5,h,_=>by simp at h)⟩
theorem qB:Qb Tryz.prog 35 ⟨true,6,[(0,2),(2,1),(3,1),(4,1),(5,1)],none,some [.int .i64 0,.slice none 0 0,.slice none 0 0,.slice none 0 0,.slice none 0 0,.slice none 0 0],0,none,[true,false,false,false,false]⟩:=⟨Tryz.sizeOf35,Tryz.isAgg35,(fun h=>by cases h),(fun j off fs h=>match j,h with|0,h=>by injection h with h;injection h with h1 h2;subst h1 h2;exact ⟨_,_,Tryz.runUnderlying35,rfl,rfl,Tryz.sizeOf29,by decide⟩|1,h=>by injection h with h;injection h with h1 h2;subst h1 h2;exact ⟨_,_,Tryz.runUnderlying35,rfl,rfl,Tryz.sizeOf30,by decide⟩|2,h=>by injection h with h;injection h with h1 h2;subst h1 h2;exact ⟨_,_,Tryz.runUnderlying35,rfl,rfl,Tryz.sizeOf31,by decide⟩|3,h=>by injection h with h;injection h with h1 h2;subst h1 h2;exact ⟨_,_,Tryz.runUnderlying35,rfl,rfl,Tryz.sizeOf32,by decide⟩|4,h=>by injection h with h;injection h with h1 h2;subst h1 h2;exact ⟨_,_,Tryz.runUnderlying35,rfl,rfl,Tryz.sizeOf33,by decide⟩|_+5,h=>by simp at h),(fun _ _ _ h=>by cases h),(fun _ _ _ _ _ h=>by cases h),(fun zs h=>by cases h;exact ⟨_,Tryz.zeroValue35,rfl,by simp [Value.oneCell']⟩),(fun _ _ _=>⟨_,Tryz.runUnderlying35,fun w=>by simp [Tryz.sizeOf29,Tryz.sizeOf30,Tryz.sizeOf31,Tryz.sizeOf32,Tryz.sizeOf33]⟩),(fun h=>by cases h),(fun _ h=>by cases h),(fun h=>by cases h),(fun h=>by cases h),(fun h=>by cases h),(fun j off fs b h h2=>match j,h,h2 with|0,h,h2=>by injection h with h;injection h with h1 h3;subst h1 h3;injection h2 with h2;subst h2;exact ⟨_,_,Tryz.runUnderlying35,rfl,rfl,Tryz.isAgg29,Tryz.sizeOf29⟩|1,h,h2=>by injection h with h;injection h with h1 h3;subst h1 h3;injection h2 with h2;subst h2;exact ⟨_,_,Tryz.runUnderlying35,rfl,rfl,Tryz.isAgg30,Tryz.sizeOf30⟩|2,h,h2=>by injection h with h;injection h with h1 h3;subst h1 h3;injection h2 with h2;subst h2;exact ⟨_,_,Tryz.runUnderlying35,rfl,rfl,Tryz.isAgg31,Tryz.sizeOf31⟩|3,h,h2=>by injection h with h;injection h with h1 h3;subst h1 h3;injection h2 with h2;subst h2;exact ⟨_,_,Tryz.runUnderlying35,rfl,rfl,Tryz.isAgg32,Tryz.sizeOf32⟩|4,h,h2=>by injection h with h;injection h with h1 h3;subst h1 h3;injection h2 with h2;subst h2;exact ⟨_,_,Tryz.runUnderlying35,rfl,rfl,Tryz.isAgg33,Tryz.sizeOf33⟩|_+5,h,_=>by simp at h)⟩
theorem bX:(Tryz.prog.info? 9).map (fun i=>(i.zero,i.size,i.bytes))=some (some (.string ⟨#[]⟩),1,16):=by kernel_rfl
theorem qC:Qb Tryz.prog 39 ⟨false,1,[],some (9,.str,16),some [.slice none 0 0],0,none,[]⟩:=⟨Tryz.sizeOf39,Tryz.isAgg39,(fun _=>rfl),(fun _ _ _ h=>by simp at h),(fun _ _ _ h=>by cases h;exact ⟨Tryz.underlying39,by obtain ⟨i,h1,h2,h3,h4⟩:=Xe bX;exact ⟨i,_,h1,h2,h3,h4,rfl⟩,by decide⟩),(fun _ _ _ inf z h hi hz=>by cases h;obtain ⟨i,h1,h2,h3,h4⟩:=Xe bX;rw [h1] at hi;cases hi;rw [h2] at hz;cases hz;rfl),(fun zs h=>by cases h;exact ⟨_,Tryz.zeroValue39,rfl,by simp [Value.oneCell']⟩),(fun _ _ h=>by cases h),(fun h=>by cases h),(fun _ h=>by cases h),(fun h=>by cases h),(fun h=>by cases h),(fun h=>by cases h),(fun _ _ _ _ _ h=>by simp at h)⟩
theorem OV:(Tryz.prog.info? 48).map (fun i=>(i.zero,i.size,i.bytes))=some (some (.agg #[.int .i64 0,.int .i64 0,.slice none 0 0]),3,40):=by kernel_rfl
theorem bY:Qb Tryz.prog 45 ⟨false,1,[],some (48,.ls,40),some [.slice none 0 0],0,none,[]⟩:=⟨Tryz.sizeOf45,Tryz.isAgg45,(fun _=>rfl),(fun _ _ _ h=>by simp at h),(fun _ _ _ h=>by cases h;exact ⟨Tryz.underlying45,by obtain ⟨i,h1,h2,h3,h4⟩:=Xe OV;exact ⟨i,_,h1,h2,h3,h4,rfl⟩,by decide⟩),(fun _ _ _ inf z h hi hz=>by cases h;obtain ⟨i,h1,h2,h3,h4⟩:=Xe OV;rw [h1] at hi;cases hi;rw [h2] at hz;cases hz;rfl),(fun zs h=>by cases h;exact ⟨_,Tryz.zeroValue45,rfl,by simp [Value.oneCell']⟩),(fun _ _ h=>by cases h),(fun h=>by cases h),(fun _ h=>by cases h),(fun h=>by cases h),(fun h=>by cases h),(fun h=>by cases h),(fun _ _ _ _ _ h=>by simp at h)⟩
theorem QV:(Tryz.prog.info? 93).map (fun i=>(i.zero,i.size,i.bytes))=some (some (.agg #[.int .i64 0,.int .i64 0]),2,16):=by kernel_rfl
theorem qD:Qb Tryz.prog 46 ⟨false,1,[],some (93,.en,16),some [.slice none 0 0],0,none,[]⟩:=⟨Tryz.sizeOf46,Tryz.isAgg46,(fun _=>rfl),(fun _ _ _ h=>by simp at h),(fun _ _ _ h=>by cases h;exact ⟨Tryz.underlying46,by obtain ⟨i,h1,h2,h3,h4⟩:=Xe QV;exact ⟨i,_,h1,h2,h3,h4,rfl⟩,by decide⟩),(fun _ _ _ inf z h hi hz=>by cases h;obtain ⟨i,h1,h2,h3,h4⟩:=Xe QV;rw [h1] at hi;cases hi;rw [h2] at hz;cases hz;rfl),(fun zs h=>by cases h;exact ⟨_,Tryz.zeroValue46,rfl,by simp [Value.oneCell']⟩),(fun _ _ h=>by cases h),(fun h=>by cases h),(fun _ h=>by cases h),(fun h=>by cases h),(fun h=>by cases h),(fun h=>by cases h),(fun _ _ _ _ _ h=>by simp at h)⟩
theorem qE:Qb Tryz.prog 47 ⟨true,3,[(0,1),(1,1),(2,1)],none,some [.int .i64 0,.int .i64 0,.slice none 0 0],0,none,[false,false,false]⟩:=⟨Tryz.sizeOf47,Tryz.isAgg47,(fun h=>by cases h),(fun j off fs h=>match j,h with|0,h=>by injection h with h;injection h with h1 h2;subst h1 h2;exact ⟨_,_,Tryz.runUnderlying47,rfl,rfl,Tryz.sizeOf3,by decide⟩|1,h=>by injection h with h;injection h with h1 h2;subst h1 h2;exact ⟨_,_,Tryz.runUnderlying47,rfl,rfl,Tryz.sizeOf3,by decide⟩|2,h=>by injection h with h;injection h with h1 h2;subst h1 h2;exact ⟨_,_,Tryz.runUnderlying47,rfl,rfl,Tryz.sizeOf46,by decide⟩|_+3,h=>by simp at h),(fun _ _ _ h=>by cases h),(fun _ _ _ _ _ h=>by cases h),(fun zs h=>by cases h;exact ⟨_,Tryz.zeroValue47,rfl,by simp [Value.oneCell']⟩),(fun _ _ _=>⟨_,Tryz.runUnderlying47,fun w=>by simp [Tryz.sizeOf3,Tryz.sizeOf46]⟩),(fun h=>by cases h),(fun _ h=>by cases h),(fun h=>by cases h),(fun h=>by cases h),(fun h=>by cases h),(fun j off fs b h h2=>match j,h,h2 with|0,h,h2=>by injection h with h;injection h with h1 h3;subst h1 h3;injection h2 with h2;subst h2;exact ⟨_,_,Tryz.runUnderlying47,rfl,rfl,Tryz.isAgg3,Tryz.sizeOf3⟩|1,h,h2=>by injection h with h;injection h with h1 h3;subst h1 h3;injection h2 with h2;subst h2;exact ⟨_,_,Tryz.runUnderlying47,rfl,rfl,Tryz.isAgg3,Tryz.sizeOf3⟩|2,h,h2=>by injection h with h;injection h with h1 h3;subst h1 h3;injection h2 with h2;subst h2;exact ⟨_,_,Tryz.runUnderlying47,rfl,rfl,Tryz.isAgg46,Tryz.sizeOf46⟩|_+3,h,_=>by simp at h)⟩
theorem qF:Qb Tryz.prog 48 ⟨true,3,[(0,1),(1,1),(2,1)],none,some [.int .i64 0,.int .i64 0,.slice none 0 0],0,none,[false,false,false]⟩:=⟨Tryz.sizeOf48,Tryz.isAgg48,(fun h=>by cases h),(fun j off fs h=>match j,h with|0,h=>by injection h with h;injection h with h1 h2;subst h1 h2;exact ⟨_,_,Tryz.runUnderlying48,rfl,rfl,Tryz.sizeOf3,by decide⟩|1,h=>by injection h with h;injection h with h1 h2;subst h1 h2;exact ⟨_,_,Tryz.runUnderlying48,rfl,rfl,Tryz.sizeOf3,by decide⟩|2,h=>by injection h with h;injection h with h1 h2;subst h1 h2;exact ⟨_,_,Tryz.runUnderlying48,rfl,rfl,Tryz.sizeOf46,by decide⟩|_+3,h=>by simp at h),(fun _ _ _ h=>by cases h),(fun _ _ _ _ _ h=>by cases h),(fun zs h=>by cases h;exact ⟨_,Tryz.zeroValue48,rfl,by simp [Value.oneCell']⟩),(fun _ _ _=>⟨_,Tryz.runUnderlying48,fun w=>by simp [Tryz.sizeOf3,Tryz.sizeOf46]⟩),(fun h=>by cases h),(fun _ h=>by cases h),(fun h=>by cases h),(fun h=>by cases h),(fun h=>by cases h),(fun j off fs b h h2=>match j,h,h2 with|0,h,h2=>by injection h with h;injection h with h1 h3;subst h1 h3;injection h2 with h2;subst h2;exact ⟨_,_,Tryz.runUnderlying48,rfl,rfl,Tryz.isAgg3,Tryz.sizeOf3⟩|1,h,h2=>by injection h with h;injection h with h1 h3;subst h1 h3;injection h2 with h2;subst h2;exact ⟨_,_,Tryz.runUnderlying48,rfl,rfl,Tryz.isAgg3,Tryz.sizeOf3⟩|2,h,h2=>by injection h with h;injection h with h1 h3;subst h1 h3;injection h2 with h2;subst h2;exact ⟨_,_,Tryz.runUnderlying48,rfl,rfl,Tryz.isAgg46,Tryz.sizeOf46⟩|_+3,h,_=>by simp at h)⟩
theorem qG:Qb Tryz.prog 50 ⟨false,1,[],none,some [.pointer none],0,none,[]⟩:=⟨Tryz.sizeOf50,Tryz.isAgg50,(fun _=>rfl),(fun _ _ _ h=>by simp at h),(fun _ _ _ h=>by cases h),(fun _ _ _ _ _ h=>by cases h),(fun zs h=>by cases h;exact ⟨_,Tryz.zeroValue50,rfl,by simp [Value.oneCell']⟩),(fun _ _ h=>by cases h),(fun h=>by cases h),(fun _ h=>by cases h),(fun h=>by cases h),(fun h=>by cases h),(fun h=>by cases h),(fun _ _ _ _ _ h=>by simp at h)⟩
theorem qH:Qb Tryz.prog 59 ⟨true,3,[(0,1),(1,1),(2,1)],none,some [.int .i64 0,.int .i64 0,.int .i64 0],0,none,[false,false,false]⟩:=⟨Tryz.sizeOf59,Tryz.isAgg59,(fun h=>by cases h),(fun j off fs h=>match j,h with|0,h=>by injection h with h;injection h with h1 h2;subst h1 h2;exact ⟨_,_,Tryz.runUnderlying59,rfl,rfl,Tryz.sizeOf3,by decide⟩|1,h=>by injection h with h;injection h with h1 h2;subst h1 h2;exact ⟨_,_,Tryz.runUnderlying59,rfl,rfl,Tryz.sizeOf3,by decide⟩|2,h=>by injection h with h;injection h with h1 h2;subst h1 h2;exact ⟨_,_,Tryz.runUnderlying59,rfl,rfl,Tryz.sizeOf3,by decide⟩|_+3,h=>by simp at h),(fun _ _ _ h=>by cases h),(fun _ _ _ _ _ h=>by cases h),(fun zs h=>by cases h;exact ⟨_,Tryz.zeroValue59,rfl,by simp [Value.oneCell']⟩),(fun _ _ _=>⟨_,Tryz.runUnderlying59,fun w=>by simp [Tryz.sizeOf3]⟩),(fun h=>by cases h),(fun _ h=>by cases h),(fun h=>by cases h),(fun h=>by cases h),(fun h=>by cases h),(fun j off fs b h h2=>match j,h,h2 with|0,h,h2=>by injection h with h;injection h with h1 h3;subst h1 h3;injection h2 with h2;subst h2;exact ⟨_,_,Tryz.runUnderlying59,rfl,rfl,Tryz.isAgg3,Tryz.sizeOf3⟩|1,h,h2=>by injection h with h;injection h with h1 h3;subst h1 h3;injection h2 with h2;subst h2;exact ⟨_,_,Tryz.runUnderlying59,rfl,rfl,Tryz.isAgg3,Tryz.sizeOf3⟩|2,h,h2=>by injection h with h;injection h with h1 h3;subst h1 h3;injection h2 with h2;subst h2;exact ⟨_,_,Tryz.runUnderlying59,rfl,rfl,Tryz.isAgg3,Tryz.sizeOf3⟩|_+3,h,_=>by simp at h)⟩
set_option maxRecDepth 100000 in
theorem qI:∀(ps qs:List Int),ps.length=3→qs.length=3→∀x y w,(do eqGuard .eql 60 x y (.agg (ps.map (Value.int .i64)).toArray) (.agg (qs.map (Value.int .i64)).toArray);binOp .eql 60 (.agg (ps.map (Value.int .i64)).toArray) (.agg (qs.map (Value.int .i64)).toArray):Sem Value).run Tryz.prog w=.ok (.bool (Re ps qs)) w
  |[a0,a1,a2],[b0,b1,b2],_,_,x,y,w=>by
   have hu:Tryz.prog.underlying 60=some (.struct (Tryz.prog.fieldsOf 60)):=by kernel_rfl
   have hst:Tryz.prog.stoodInHeld 60=false:=by kernel_rfl
   simp only [List.map_cons,List.map_nil]
   rw [Sem.run_bind,run_eqGuard_agg w .eql 60 x y _ _ (by kernel_rfl),Result.andThen_ok,run_eql_struct,run_equalIn_struct w 9999 _ _ _ hu hst]
   have hf:(Tryz.prog.fieldsOf 60).toList=(match Tryz.prog.underlying 60 with|some (.struct fs)=>fs|_=> #[]).toList:=rfl
   rw [hf,Tryz.underlying60]
   simp [Op.eqFields,go_sem,Re]
   by_cases h0:a0=b0<;>by_cases h1:a1=b1<;>by_cases h2:a2=b2<;>simp [h0,h1,h2]
set_option maxRecDepth 100000 in
theorem qJ:∀(ps qs:List Int),ps.length=3→qs.length=3→∀x y w,(do eqGuard .neq 60 x y (.agg (ps.map (Value.int .i64)).toArray) (.agg (qs.map (Value.int .i64)).toArray);binOp .neq 60 (.agg (ps.map (Value.int .i64)).toArray) (.agg (qs.map (Value.int .i64)).toArray):Sem Value).run Tryz.prog w=.ok (.bool (!Re ps qs)) w
  |[a0,a1,a2],[b0,b1,b2],_,_,x,y,w=>by
   have hu:Tryz.prog.underlying 60=some (.struct (Tryz.prog.fieldsOf 60)):=by kernel_rfl
   have hst:Tryz.prog.stoodInHeld 60=false:=by kernel_rfl
   simp only [List.map_cons,List.map_nil]
   rw [Sem.run_bind,run_eqGuard_agg w .neq 60 x y _ _ (by kernel_rfl),Result.andThen_ok,run_neq_struct,run_equalIn_struct w 9999 _ _ _ hu hst]
   have hf:(Tryz.prog.fieldsOf 60).toList=(match Tryz.prog.underlying 60 with|some (.struct fs)=>fs|_=> #[]).toList:=rfl
   rw [hf,Tryz.underlying60]
   simp [Op.eqFields,go_sem,Re]
   by_cases h0:a0=b0<;>by_cases h1:a1=b1<;>by_cases h2:a2=b2<;>simp [h0,h1,h2]
theorem qK:Qb Tryz.prog 60 ⟨true,3,[(0,1),(1,1),(2,1)],none,some [.int .i64 0,.int .i64 0,.int .i64 0],3,none,[false,false,false]⟩:=⟨Tryz.sizeOf60,Tryz.isAgg60,(fun h=>by cases h),(fun j off fs h=>match j,h with|0,h=>by injection h with h;injection h with h1 h2;subst h1 h2;exact ⟨_,_,Tryz.runUnderlying60,rfl,rfl,Tryz.sizeOf3,by decide⟩|1,h=>by injection h with h;injection h with h1 h2;subst h1 h2;exact ⟨_,_,Tryz.runUnderlying60,rfl,rfl,Tryz.sizeOf3,by decide⟩|2,h=>by injection h with h;injection h with h1 h2;subst h1 h2;exact ⟨_,_,Tryz.runUnderlying60,rfl,rfl,Tryz.sizeOf3,by decide⟩|_+3,h=>by simp at h),(fun _ _ _ h=>by cases h),(fun _ _ _ _ _ h=>by cases h),(fun zs h=>by cases h;exact ⟨_,Tryz.zeroValue60,rfl,by simp [Value.oneCell']⟩),(fun _ _ _=>⟨_,Tryz.runUnderlying60,fun w=>by simp [Tryz.sizeOf3]⟩),(fun h=>by cases h),(fun _ h=>by cases h),(fun h=>by cases h),(fun _=>qI),(fun _=>qJ),(fun j off fs b h h2=>match j,h,h2 with|0,h,h2=>by injection h with h;injection h with h1 h3;subst h1 h3;injection h2 with h2;subst h2;exact ⟨_,_,Tryz.runUnderlying60,rfl,rfl,Tryz.isAgg3,Tryz.sizeOf3⟩|1,h,h2=>by injection h with h;injection h with h1 h3;subst h1 h3;injection h2 with h2;subst h2;exact ⟨_,_,Tryz.runUnderlying60,rfl,rfl,Tryz.isAgg3,Tryz.sizeOf3⟩|2,h,h2=>by injection h with h;injection h with h1 h3;subst h1 h3;injection h2 with h2;subst h2;exact ⟨_,_,Tryz.runUnderlying60,rfl,rfl,Tryz.isAgg3,Tryz.sizeOf3⟩|_+3,h,_=>by simp at h)⟩
theorem qL:Qb Tryz.prog 63 ⟨true,2,[(0,1),(1,1)],none,some [.int .i64 0,.int .i64 0],0,none,[false,false]⟩:=⟨Tryz.sizeOf63,Tryz.isAgg63,(fun h=>by cases h),(fun j off fs h=>match j,h with|0,h=>by injection h with h;injection h with h1 h2;subst h1 h2;exact ⟨_,_,Tryz.runUnderlying63,rfl,rfl,Tryz.sizeOf3,by decide⟩|1,h=>by injection h with h;injection h with h1 h2;subst h1 h2;exact ⟨_,_,Tryz.runUnderlying63,rfl,rfl,Tryz.sizeOf3,by decide⟩|_+2,h=>by simp at h),(fun _ _ _ h=>by cases h),(fun _ _ _ _ _ h=>by cases h),(fun zs h=>by cases h;exact ⟨_,Tryz.zeroValue63,rfl,by simp [Value.oneCell']⟩),(fun _ _ _=>⟨_,Tryz.runUnderlying63,fun w=>by simp [Tryz.sizeOf3]⟩),(fun h=>by cases h),(fun _ h=>by cases h),(fun h=>by cases h),(fun h=>by cases h),(fun h=>by cases h),(fun j off fs b h h2=>match j,h,h2 with|0,h,h2=>by injection h with h;injection h with h1 h3;subst h1 h3;injection h2 with h2;subst h2;exact ⟨_,_,Tryz.runUnderlying63,rfl,rfl,Tryz.isAgg3,Tryz.sizeOf3⟩|1,h,h2=>by injection h with h;injection h with h1 h3;subst h1 h3;injection h2 with h2;subst h2;exact ⟨_,_,Tryz.runUnderlying63,rfl,rfl,Tryz.isAgg3,Tryz.sizeOf3⟩|_+2,h,_=>by simp at h)⟩
set_option maxRecDepth 100000 in
theorem qM:∀(ps qs:List Int),ps.length=2→qs.length=2→∀x y w,(do eqGuard .eql 64 x y (.agg (ps.map (Value.int .i64)).toArray) (.agg (qs.map (Value.int .i64)).toArray);binOp .eql 64 (.agg (ps.map (Value.int .i64)).toArray) (.agg (qs.map (Value.int .i64)).toArray):Sem Value).run Tryz.prog w=.ok (.bool (Re ps qs)) w
  |[a0,a1],[b0,b1],_,_,x,y,w=>by
   have hu:Tryz.prog.underlying 64=some (.struct (Tryz.prog.fieldsOf 64)):=by kernel_rfl
   have hst:Tryz.prog.stoodInHeld 64=false:=by kernel_rfl
   simp only [List.map_cons,List.map_nil]
   rw [Sem.run_bind,run_eqGuard_agg w .eql 64 x y _ _ (by kernel_rfl),Result.andThen_ok,run_eql_struct,run_equalIn_struct w 9999 _ _ _ hu hst]
   have hf:(Tryz.prog.fieldsOf 64).toList=(match Tryz.prog.underlying 64 with|some (.struct fs)=>fs|_=> #[]).toList:=rfl
   rw [hf,Tryz.underlying64]
   simp [Op.eqFields,go_sem,Re]
   by_cases h0:a0=b0<;>by_cases h1:a1=b1<;>simp [h0,h1]
set_option maxRecDepth 100000 in
theorem qN:∀(ps qs:List Int),ps.length=2→qs.length=2→∀x y w,(do eqGuard .neq 64 x y (.agg (ps.map (Value.int .i64)).toArray) (.agg (qs.map (Value.int .i64)).toArray);binOp .neq 64 (.agg (ps.map (Value.int .i64)).toArray) (.agg (qs.map (Value.int .i64)).toArray):Sem Value).run Tryz.prog w=.ok (.bool (!Re ps qs)) w
  |[a0,a1],[b0,b1],_,_,x,y,w=>by
   have hu:Tryz.prog.underlying 64=some (.struct (Tryz.prog.fieldsOf 64)):=by kernel_rfl
   have hst:Tryz.prog.stoodInHeld 64=false:=by kernel_rfl
   simp only [List.map_cons,List.map_nil]
   rw [Sem.run_bind,run_eqGuard_agg w .neq 64 x y _ _ (by kernel_rfl),Result.andThen_ok,run_neq_struct,run_equalIn_struct w 9999 _ _ _ hu hst]
   have hf:(Tryz.prog.fieldsOf 64).toList=(match Tryz.prog.underlying 64 with|some (.struct fs)=>fs|_=> #[]).toList:=rfl
   rw [hf,Tryz.underlying64]
   simp [Op.eqFields,go_sem,Re]
   by_cases h0:a0=b0<;>by_cases h1:a1=b1<;>simp [h0,h1]
theorem qO:Qb Tryz.prog 64 ⟨true,2,[(0,1),(1,1)],none,some [.int .i64 0,.int .i64 0],3,none,[false,false]⟩:=⟨Tryz.sizeOf64,Tryz.isAgg64,(fun h=>by cases h),(fun j off fs h=>match j,h with|0,h=>by injection h with h;injection h with h1 h2;subst h1 h2;exact ⟨_,_,Tryz.runUnderlying64,rfl,rfl,Tryz.sizeOf3,by decide⟩|1,h=>by injection h with h;injection h with h1 h2;subst h1 h2;exact ⟨_,_,Tryz.runUnderlying64,rfl,rfl,Tryz.sizeOf3,by decide⟩|_+2,h=>by simp at h),(fun _ _ _ h=>by cases h),(fun _ _ _ _ _ h=>by cases h),(fun zs h=>by cases h;exact ⟨_,Tryz.zeroValue64,rfl,by simp [Value.oneCell']⟩),(fun _ _ _=>⟨_,Tryz.runUnderlying64,fun w=>by simp [Tryz.sizeOf3]⟩),(fun h=>by cases h),(fun _ h=>by cases h),(fun h=>by cases h),(fun _=>qM),(fun _=>qN),(fun j off fs b h h2=>match j,h,h2 with|0,h,h2=>by injection h with h;injection h with h1 h3;subst h1 h3;injection h2 with h2;subst h2;exact ⟨_,_,Tryz.runUnderlying64,rfl,rfl,Tryz.isAgg3,Tryz.sizeOf3⟩|1,h,h2=>by injection h with h;injection h with h1 h3;subst h1 h3;injection h2 with h2;subst h2;exact ⟨_,_,Tryz.runUnderlying64,rfl,rfl,Tryz.isAgg3,Tryz.sizeOf3⟩|_+2,h,_=>by simp at h)⟩
theorem qP:Qb Tryz.prog 75 ⟨false,1,[],none,some [.pointer none],0,none,[]⟩:=⟨Tryz.sizeOf75,Tryz.isAgg75,(fun _=>rfl),(fun _ _ _ h=>by simp at h),(fun _ _ _ h=>by cases h),(fun _ _ _ _ _ h=>by cases h),(fun zs h=>by cases h;exact ⟨_,Tryz.zeroValue75,rfl,by simp [Value.oneCell']⟩),(fun _ _ h=>by cases h),(fun h=>by cases h),(fun _ h=>by cases h),(fun h=>by cases h),(fun h=>by cases h),(fun h=>by cases h),(fun _ _ _ _ _ h=>by simp at h)⟩
theorem bZ:(Tryz.prog.info? 84).map (fun i=>(i.zero,i.size,i.bytes))=some (some (.agg #[.int .i64 0,.int .i64 0]),2,16):=by kernel_rfl
theorem qQ:Qb Tryz.prog 80 ⟨false,1,[],some (84,.lb,16),some [.slice none 0 0],0,none,[]⟩:=⟨Tryz.sizeOf80,Tryz.isAgg80,(fun _=>rfl),(fun _ _ _ h=>by simp at h),(fun _ _ _ h=>by cases h;exact ⟨Tryz.underlying80,by obtain ⟨i,h1,h2,h3,h4⟩:=Xe bZ;exact ⟨i,_,h1,h2,h3,h4,rfl⟩,by decide⟩),(fun _ _ _ inf z h hi hz=>by cases h;obtain ⟨i,h1,h2,h3,h4⟩:=Xe bZ;rw [h1] at hi;cases hi;rw [h2] at hz;cases hz;rfl),(fun zs h=>by cases h;exact ⟨_,Tryz.zeroValue80,rfl,by simp [Value.oneCell']⟩),(fun _ _ h=>by cases h),(fun h=>by cases h),(fun _ h=>by cases h),(fun h=>by cases h),(fun h=>by cases h),(fun h=>by cases h),(fun _ _ _ _ _ h=>by simp at h)⟩
theorem qR:Qb Tryz.prog 83 ⟨true,2,[(0,1),(1,1)],none,some [.int .i64 0,.int .i64 0],0,none,[false,false]⟩:=⟨Tryz.sizeOf83,Tryz.isAgg83,(fun h=>by cases h),(fun j off fs h=>match j,h with|0,h=>by injection h with h;injection h with h1 h2;subst h1 h2;exact ⟨_,_,Tryz.runUnderlying83,rfl,rfl,Tryz.sizeOf3,by decide⟩|1,h=>by injection h with h;injection h with h1 h2;subst h1 h2;exact ⟨_,_,Tryz.runUnderlying83,rfl,rfl,Tryz.sizeOf3,by decide⟩|_+2,h=>by simp at h),(fun _ _ _ h=>by cases h),(fun _ _ _ _ _ h=>by cases h),(fun zs h=>by cases h;exact ⟨_,Tryz.zeroValue83,rfl,by simp [Value.oneCell']⟩),(fun _ _ _=>⟨_,Tryz.runUnderlying83,fun w=>by simp [Tryz.sizeOf3]⟩),(fun h=>by cases h),(fun _ h=>by cases h),(fun h=>by cases h),(fun h=>by cases h),(fun h=>by cases h),(fun j off fs b h h2=>match j,h,h2 with|0,h,h2=>by injection h with h;injection h with h1 h3;subst h1 h3;injection h2 with h2;subst h2;exact ⟨_,_,Tryz.runUnderlying83,rfl,rfl,Tryz.isAgg3,Tryz.sizeOf3⟩|1,h,h2=>by injection h with h;injection h with h1 h3;subst h1 h3;injection h2 with h2;subst h2;exact ⟨_,_,Tryz.runUnderlying83,rfl,rfl,Tryz.isAgg3,Tryz.sizeOf3⟩|_+2,h,_=>by simp at h)⟩
set_option maxRecDepth 100000 in
theorem qS:∀(ps qs:List Int),ps.length=2→qs.length=2→∀x y w,(do eqGuard .eql 84 x y (.agg (ps.map (Value.int .i64)).toArray) (.agg (qs.map (Value.int .i64)).toArray);binOp .eql 84 (.agg (ps.map (Value.int .i64)).toArray) (.agg (qs.map (Value.int .i64)).toArray):Sem Value).run Tryz.prog w=.ok (.bool (Re ps qs)) w
  |[a0,a1],[b0,b1],_,_,x,y,w=>by
   have hu:Tryz.prog.underlying 84=some (.struct (Tryz.prog.fieldsOf 84)):=by kernel_rfl
   have hst:Tryz.prog.stoodInHeld 84=false:=by kernel_rfl
   simp only [List.map_cons,List.map_nil]
   rw [Sem.run_bind,run_eqGuard_agg w .eql 84 x y _ _ (by kernel_rfl),Result.andThen_ok,run_eql_struct,run_equalIn_struct w 9999 _ _ _ hu hst]
   have hf:(Tryz.prog.fieldsOf 84).toList=(match Tryz.prog.underlying 84 with|some (.struct fs)=>fs|_=> #[]).toList:=rfl
   rw [hf,Tryz.underlying84]
   simp [Op.eqFields,go_sem,Re]
   by_cases h0:a0=b0<;>by_cases h1:a1=b1<;>simp [h0,h1]
set_option maxRecDepth 100000 in
theorem qT:∀(ps qs:List Int),ps.length=2→qs.length=2→∀x y w,(do eqGuard .neq 84 x y (.agg (ps.map (Value.int .i64)).toArray) (.agg (qs.map (Value.int .i64)).toArray);binOp .neq 84 (.agg (ps.map (Value.int .i64)).toArray) (.agg (qs.map (Value.int .i64)).toArray):Sem Value).run Tryz.prog w=.ok (.bool (!Re ps qs)) w
  |[a0,a1],[b0,b1],_,_,x,y,w=>by
   have hu:Tryz.prog.underlying 84=some (.struct (Tryz.prog.fieldsOf 84)):=by kernel_rfl
   have hst:Tryz.prog.stoodInHeld 84=false:=by kernel_rfl
   simp only [List.map_cons,List.map_nil]
   rw [Sem.run_bind,run_eqGuard_agg w .neq 84 x y _ _ (by kernel_rfl),Result.andThen_ok,run_neq_struct,run_equalIn_struct w 9999 _ _ _ hu hst]
   have hf:(Tryz.prog.fieldsOf 84).toList=(match Tryz.prog.underlying 84 with|some (.struct fs)=>fs|_=> #[]).toList:=rfl
   rw [hf,Tryz.underlying84]
   simp [Op.eqFields,go_sem,Re]
   by_cases h0:a0=b0<;>by_cases h1:a1=b1<;>simp [h0,h1]
theorem qU:Qb Tryz.prog 84 ⟨true,2,[(0,1),(1,1)],none,some [.int .i64 0,.int .i64 0],3,none,[false,false]⟩:=⟨Tryz.sizeOf84,Tryz.isAgg84,(fun h=>by cases h),(fun j off fs h=>match j,h with|0,h=>by injection h with h;injection h with h1 h2;subst h1 h2;exact ⟨_,_,Tryz.runUnderlying84,rfl,rfl,Tryz.sizeOf3,by decide⟩|1,h=>by injection h with h;injection h with h1 h2;subst h1 h2;exact ⟨_,_,Tryz.runUnderlying84,rfl,rfl,Tryz.sizeOf3,by decide⟩|_+2,h=>by simp at h),(fun _ _ _ h=>by cases h),(fun _ _ _ _ _ h=>by cases h),(fun zs h=>by cases h;exact ⟨_,Tryz.zeroValue84,rfl,by simp [Value.oneCell']⟩),(fun _ _ _=>⟨_,Tryz.runUnderlying84,fun w=>by simp [Tryz.sizeOf3]⟩),(fun h=>by cases h),(fun _ h=>by cases h),(fun h=>by cases h),(fun _=>qS),(fun _=>qT),(fun j off fs b h h2=>match j,h,h2 with|0,h,h2=>by injection h with h;injection h with h1 h3;subst h1 h3;injection h2 with h2;subst h2;exact ⟨_,_,Tryz.runUnderlying84,rfl,rfl,Tryz.isAgg3,Tryz.sizeOf3⟩|1,h,h2=>by injection h with h;injection h with h1 h3;subst h1 h3;injection h2 with h2;subst h2;exact ⟨_,_,Tryz.runUnderlying84,rfl,rfl,Tryz.isAgg3,Tryz.sizeOf3⟩|_+2,h,_=>by simp at h)⟩
theorem qV:Qb Tryz.prog 85 ⟨true,4,[(0,1),(1,3)],none,some [.int .i64 0,.int .i64 0,.int .i64 0,.slice none 0 0],0,none,[false,true]⟩:=⟨Tryz.sizeOf85,Tryz.isAgg85,(fun h=>by cases h),(fun j off fs h=>match j,h with|0,h=>by injection h with h;injection h with h1 h2;subst h1 h2;exact ⟨_,_,Tryz.runUnderlying85,rfl,rfl,Tryz.sizeOf3,by decide⟩|1,h=>by injection h with h;injection h with h1 h2;subst h1 h2;exact ⟨_,_,Tryz.runUnderlying85,rfl,rfl,Tryz.sizeOf48,by decide⟩|_+2,h=>by simp at h),(fun _ _ _ h=>by cases h),(fun _ _ _ _ _ h=>by cases h),(fun zs h=>by cases h;exact ⟨_,Tryz.zeroValue85,rfl,by simp [Value.oneCell']⟩),(fun _ _ _=>⟨_,Tryz.runUnderlying85,fun w=>by simp [Tryz.sizeOf3,Tryz.sizeOf48]⟩),(fun h=>by cases h),(fun _ h=>by cases h),(fun h=>by cases h),(fun h=>by cases h),(fun h=>by cases h),(fun j off fs b h h2=>match j,h,h2 with|0,h,h2=>by injection h with h;injection h with h1 h3;subst h1 h3;injection h2 with h2;subst h2;exact ⟨_,_,Tryz.runUnderlying85,rfl,rfl,Tryz.isAgg3,Tryz.sizeOf3⟩|1,h,h2=>by injection h with h;injection h with h1 h3;subst h1 h3;injection h2 with h2;subst h2;exact ⟨_,_,Tryz.runUnderlying85,rfl,rfl,Tryz.isAgg48,Tryz.sizeOf48⟩|_+2,h,_=>by simp at h)⟩
theorem qW:Qb Tryz.prog 86 ⟨true,4,[(0,1),(1,3)],none,some [.int .i64 0,.int .i64 0,.int .i64 0,.slice none 0 0],0,none,[false,true]⟩:=⟨Tryz.sizeOf86,Tryz.isAgg86,(fun h=>by cases h),(fun j off fs h=>match j,h with|0,h=>by injection h with h;injection h with h1 h2;subst h1 h2;exact ⟨_,_,Tryz.runUnderlying86,rfl,rfl,Tryz.sizeOf3,by decide⟩|1,h=>by injection h with h;injection h with h1 h2;subst h1 h2;exact ⟨_,_,Tryz.runUnderlying86,rfl,rfl,Tryz.sizeOf48,by decide⟩|_+2,h=>by simp at h),(fun _ _ _ h=>by cases h),(fun _ _ _ _ _ h=>by cases h),(fun zs h=>by cases h;exact ⟨_,Tryz.zeroValue86,rfl,by simp [Value.oneCell']⟩),(fun _ _ _=>⟨_,Tryz.runUnderlying86,fun w=>by simp [Tryz.sizeOf3,Tryz.sizeOf48]⟩),(fun h=>by cases h),(fun _ h=>by cases h),(fun h=>by cases h),(fun h=>by cases h),(fun h=>by cases h),(fun j off fs b h h2=>match j,h,h2 with|0,h,h2=>by injection h with h;injection h with h1 h3;subst h1 h3;injection h2 with h2;subst h2;exact ⟨_,_,Tryz.runUnderlying86,rfl,rfl,Tryz.isAgg3,Tryz.sizeOf3⟩|1,h,h2=>by injection h with h;injection h with h1 h3;subst h1 h3;injection h2 with h2;subst h2;exact ⟨_,_,Tryz.runUnderlying86,rfl,rfl,Tryz.isAgg48,Tryz.sizeOf48⟩|_+2,h,_=>by simp at h)⟩
theorem qX:Qb Tryz.prog 87 ⟨true,2,[(0,1),(1,1)],none,some [.slice none 0 0,.int .i64 0],0,none,[false,false]⟩:=⟨Tryz.sizeOf87,Tryz.isAgg87,(fun h=>by cases h),(fun j off fs h=>match j,h with|0,h=>by injection h with h;injection h with h1 h2;subst h1 h2;exact ⟨_,_,Tryz.runUnderlying87,rfl,rfl,Tryz.sizeOf24,by decide⟩|1,h=>by injection h with h;injection h with h1 h2;subst h1 h2;exact ⟨_,_,Tryz.runUnderlying87,rfl,rfl,Tryz.sizeOf3,by decide⟩|_+2,h=>by simp at h),(fun _ _ _ h=>by cases h),(fun _ _ _ _ _ h=>by cases h),(fun zs h=>by cases h;exact ⟨_,Tryz.zeroValue87,rfl,by simp [Value.oneCell']⟩),(fun _ _ _=>⟨_,Tryz.runUnderlying87,fun w=>by simp [Tryz.sizeOf24,Tryz.sizeOf3]⟩),(fun h=>by cases h),(fun _ h=>by cases h),(fun h=>by cases h),(fun h=>by cases h),(fun h=>by cases h),(fun j off fs b h h2=>match j,h,h2 with|0,h,h2=>by injection h with h;injection h with h1 h3;subst h1 h3;injection h2 with h2;subst h2;exact ⟨_,_,Tryz.runUnderlying87,rfl,rfl,Tryz.isAgg24,Tryz.sizeOf24⟩|1,h,h2=>by injection h with h;injection h with h1 h3;subst h1 h3;injection h2 with h2;subst h2;exact ⟨_,_,Tryz.runUnderlying87,rfl,rfl,Tryz.isAgg3,Tryz.sizeOf3⟩|_+2,h,_=>by simp at h)⟩
theorem qY:Qb Tryz.prog 88 ⟨true,2,[(0,1),(1,1)],none,some [.slice none 0 0,.int .i64 0],0,none,[false,false]⟩:=⟨Tryz.sizeOf88,Tryz.isAgg88,(fun h=>by cases h),(fun j off fs h=>match j,h with|0,h=>by injection h with h;injection h with h1 h2;subst h1 h2;exact ⟨_,_,Tryz.runUnderlying88,rfl,rfl,Tryz.sizeOf24,by decide⟩|1,h=>by injection h with h;injection h with h1 h2;subst h1 h2;exact ⟨_,_,Tryz.runUnderlying88,rfl,rfl,Tryz.sizeOf3,by decide⟩|_+2,h=>by simp at h),(fun _ _ _ h=>by cases h),(fun _ _ _ _ _ h=>by cases h),(fun zs h=>by cases h;exact ⟨_,Tryz.zeroValue88,rfl,by simp [Value.oneCell']⟩),(fun _ _ _=>⟨_,Tryz.runUnderlying88,fun w=>by simp [Tryz.sizeOf24,Tryz.sizeOf3]⟩),(fun h=>by cases h),(fun _ h=>by cases h),(fun h=>by cases h),(fun h=>by cases h),(fun h=>by cases h),(fun j off fs b h h2=>match j,h,h2 with|0,h,h2=>by injection h with h;injection h with h1 h3;subst h1 h3;injection h2 with h2;subst h2;exact ⟨_,_,Tryz.runUnderlying88,rfl,rfl,Tryz.isAgg24,Tryz.sizeOf24⟩|1,h,h2=>by injection h with h;injection h with h1 h3;subst h1 h3;injection h2 with h2;subst h2;exact ⟨_,_,Tryz.runUnderlying88,rfl,rfl,Tryz.isAgg3,Tryz.sizeOf3⟩|_+2,h,_=>by simp at h)⟩
theorem qZ:Qb Tryz.prog 92 ⟨true,2,[(0,1),(1,1)],none,some [.int .i64 0,.int .i64 0],0,none,[false,false]⟩:=⟨Tryz.sizeOf92,Tryz.isAgg92,(fun h=>by cases h),(fun j off fs h=>match j,h with|0,h=>by injection h with h;injection h with h1 h2;subst h1 h2;exact ⟨_,_,Tryz.runUnderlying92,rfl,rfl,Tryz.sizeOf3,by decide⟩|1,h=>by injection h with h;injection h with h1 h2;subst h1 h2;exact ⟨_,_,Tryz.runUnderlying92,rfl,rfl,Tryz.sizeOf3,by decide⟩|_+2,h=>by simp at h),(fun _ _ _ h=>by cases h),(fun _ _ _ _ _ h=>by cases h),(fun zs h=>by cases h;exact ⟨_,Tryz.zeroValue92,rfl,by simp [Value.oneCell']⟩),(fun _ _ _=>⟨_,Tryz.runUnderlying92,fun w=>by simp [Tryz.sizeOf3]⟩),(fun h=>by cases h),(fun _ h=>by cases h),(fun h=>by cases h),(fun h=>by cases h),(fun h=>by cases h),(fun j off fs b h h2=>match j,h,h2 with|0,h,h2=>by injection h with h;injection h with h1 h3;subst h1 h3;injection h2 with h2;subst h2;exact ⟨_,_,Tryz.runUnderlying92,rfl,rfl,Tryz.isAgg3,Tryz.sizeOf3⟩|1,h,h2=>by injection h with h;injection h with h1 h3;subst h1 h3;injection h2 with h2;subst h2;exact ⟨_,_,Tryz.runUnderlying92,rfl,rfl,Tryz.isAgg3,Tryz.sizeOf3⟩|_+2,h,_=>by simp at h)⟩
set_option maxRecDepth 100000 in
theorem rA:∀(ps qs:List Int),ps.length=2→qs.length=2→∀x y w,(do eqGuard .eql 93 x y (.agg (ps.map (Value.int .i64)).toArray) (.agg (qs.map (Value.int .i64)).toArray);binOp .eql 93 (.agg (ps.map (Value.int .i64)).toArray) (.agg (qs.map (Value.int .i64)).toArray):Sem Value).run Tryz.prog w=.ok (.bool (Re ps qs)) w
  |[a0,a1],[b0,b1],_,_,x,y,w=>by
   have hu:Tryz.prog.underlying 93=some (.struct (Tryz.prog.fieldsOf 93)):=by kernel_rfl
   have hst:Tryz.prog.stoodInHeld 93=false:=by kernel_rfl
   simp only [List.map_cons,List.map_nil]
   rw [Sem.run_bind,run_eqGuard_agg w .eql 93 x y _ _ (by kernel_rfl),Result.andThen_ok,run_eql_struct,run_equalIn_struct w 9999 _ _ _ hu hst]
   have hf:(Tryz.prog.fieldsOf 93).toList=(match Tryz.prog.underlying 93 with|some (.struct fs)=>fs|_=> #[]).toList:=rfl
   rw [hf,Tryz.underlying93]
   simp [Op.eqFields,go_sem,Re]
   by_cases h0:a0=b0<;>by_cases h1:a1=b1<;>simp [h0,h1]
set_option maxRecDepth 100000 in
theorem rB:∀(ps qs:List Int),ps.length=2→qs.length=2→∀x y w,(do eqGuard .neq 93 x y (.agg (ps.map (Value.int .i64)).toArray) (.agg (qs.map (Value.int .i64)).toArray);binOp .neq 93 (.agg (ps.map (Value.int .i64)).toArray) (.agg (qs.map (Value.int .i64)).toArray):Sem Value).run Tryz.prog w=.ok (.bool (!Re ps qs)) w
  |[a0,a1],[b0,b1],_,_,x,y,w=>by
   have hu:Tryz.prog.underlying 93=some (.struct (Tryz.prog.fieldsOf 93)):=by kernel_rfl
   have hst:Tryz.prog.stoodInHeld 93=false:=by kernel_rfl
   simp only [List.map_cons,List.map_nil]
   rw [Sem.run_bind,run_eqGuard_agg w .neq 93 x y _ _ (by kernel_rfl),Result.andThen_ok,run_neq_struct,run_equalIn_struct w 9999 _ _ _ hu hst]
   have hf:(Tryz.prog.fieldsOf 93).toList=(match Tryz.prog.underlying 93 with|some (.struct fs)=>fs|_=> #[]).toList:=rfl
   rw [hf,Tryz.underlying93]
   simp [Op.eqFields,go_sem,Re]
   by_cases h0:a0=b0<;>by_cases h1:a1=b1<;>simp [h0,h1]
theorem rC:Qb Tryz.prog 93 ⟨true,2,[(0,1),(1,1)],none,some [.int .i64 0,.int .i64 0],3,none,[false,false]⟩:=⟨Tryz.sizeOf93,Tryz.isAgg93,(fun h=>by cases h),(fun j off fs h=>match j,h with|0,h=>by injection h with h;injection h with h1 h2;subst h1 h2;exact ⟨_,_,Tryz.runUnderlying93,rfl,rfl,Tryz.sizeOf3,by decide⟩|1,h=>by injection h with h;injection h with h1 h2;subst h1 h2;exact ⟨_,_,Tryz.runUnderlying93,rfl,rfl,Tryz.sizeOf3,by decide⟩|_+2,h=>by simp at h),(fun _ _ _ h=>by cases h),(fun _ _ _ _ _ h=>by cases h),(fun zs h=>by cases h;exact ⟨_,Tryz.zeroValue93,rfl,by simp [Value.oneCell']⟩),(fun _ _ _=>⟨_,Tryz.runUnderlying93,fun w=>by simp [Tryz.sizeOf3]⟩),(fun h=>by cases h),(fun _ h=>by cases h),(fun h=>by cases h),(fun _=>rA),(fun _=>rB),(fun j off fs b h h2=>match j,h,h2 with|0,h,h2=>by injection h with h;injection h with h1 h3;subst h1 h3;injection h2 with h2;subst h2;exact ⟨_,_,Tryz.runUnderlying93,rfl,rfl,Tryz.isAgg3,Tryz.sizeOf3⟩|1,h,h2=>by injection h with h;injection h with h1 h3;subst h1 h3;injection h2 with h2;subst h2;exact ⟨_,_,Tryz.runUnderlying93,rfl,rfl,Tryz.isAgg3,Tryz.sizeOf3⟩|_+2,h,_=>by simp at h)⟩
theorem rD:Qb Tryz.prog 101 ⟨false,1,[],none,some [.int .u64 0],0,some .u64,[]⟩:=⟨Tryz.sizeOf101,Tryz.isAgg101,(fun _=>rfl),(fun _ _ _ h=>by simp at h),(fun _ _ _ h=>by cases h),(fun _ _ _ _ _ h=>by cases h),(fun zs h=>by cases h;exact ⟨_,Tryz.zeroValue101,rfl,by simp [Value.oneCell']⟩),(fun _ _ h=>by cases h),(fun h=>by cases h),(fun _ h=>by cases h;exact Tryz.runUnderlying101),(fun h=>by cases h),(fun h=>by cases h),(fun h=>by cases h),(fun _ _ _ _ _ h=>by simp at h)⟩
theorem rE:Qb Tryz.prog 129 ⟨false,1,[],none,some [.int .u32 0],0,some .u32,[]⟩:=⟨Tryz.sizeOf129,Tryz.isAgg129,(fun _=>rfl),(fun _ _ _ h=>by simp at h),(fun _ _ _ h=>by cases h),(fun _ _ _ _ _ h=>by cases h),(fun zs h=>by cases h;exact ⟨_,Tryz.zeroValue129,rfl,by simp [Value.oneCell']⟩),(fun _ _ h=>by cases h),(fun h=>by cases h),(fun _ h=>by cases h;exact Tryz.runUnderlying129),(fun h=>by cases h),(fun h=>by cases h),(fun h=>by cases h),(fun _ _ _ _ _ h=>by simp at h)⟩
theorem rF:Qb Tryz.prog 132 ⟨false,1,[],none,some [.int .u64 0],0,some .u64,[]⟩:=⟨Tryz.sizeOf132,Tryz.isAgg132,(fun _=>rfl),(fun _ _ _ h=>by simp at h),(fun _ _ _ h=>by cases h),(fun _ _ _ _ _ h=>by cases h),(fun zs h=>by cases h;exact ⟨_,Tryz.zeroValue132,rfl,by simp [Value.oneCell']⟩),(fun _ _ h=>by cases h),(fun h=>by cases h),(fun _ h=>by cases h;exact Tryz.runUnderlying132),(fun h=>by cases h),(fun h=>by cases h),(fun h=>by cases h),(fun _ _ _ _ _ h=>by simp at h)⟩
theorem rG:Qb Tryz.prog 171 ⟨false,1,[],none,some [.int .i64 0],0,some .i64,[]⟩:=⟨Tryz.sizeOf171,Tryz.isAgg171,(fun _=>rfl),(fun _ _ _ h=>by simp at h),(fun _ _ _ h=>by cases h),(fun _ _ _ _ _ h=>by cases h),(fun zs h=>by cases h;exact ⟨_,Tryz.zeroValue171,rfl,by simp [Value.oneCell']⟩),(fun _ _ h=>by cases h),(fun h=>by cases h),(fun _ h=>by cases h;exact Tryz.runUnderlying171),(fun h=>by cases h),(fun h=>by cases h),(fun h=>by cases h),(fun _ _ _ _ _ h=>by simp at h)⟩
theorem rH:Qb Tryz.prog 180 ⟨true,2,[(0,1),(1,1)],none,some [.int .u8 0,.int .u8 0],0,none,[false,false]⟩:=⟨Tryz.sizeOf180,Tryz.isAgg180,(fun h=>by cases h),(fun j off fs h=>match j,h with|0,h=>by injection h with h;injection h with h1 h2;subst h1 h2;exact ⟨_,_,Tryz.runUnderlying180,rfl,rfl,Tryz.sizeOf5,by decide⟩|1,h=>by injection h with h;injection h with h1 h2;subst h1 h2;exact ⟨_,_,Tryz.runUnderlying180,rfl,rfl,Tryz.sizeOf5,by decide⟩|_+2,h=>by simp at h),(fun _ _ _ h=>by cases h),(fun _ _ _ _ _ h=>by cases h),(fun zs h=>by cases h;exact ⟨_,Tryz.zeroValue180,rfl,by simp [Value.oneCell']⟩),(fun _ _ _=>⟨_,Tryz.runUnderlying180,fun w=>by simp [Tryz.sizeOf5]⟩),(fun h=>by cases h),(fun _ h=>by cases h),(fun h=>by cases h),(fun h=>by cases h),(fun h=>by cases h),(fun j off fs b h h2=>match j,h,h2 with|0,h,h2=>by injection h with h;injection h with h1 h3;subst h1 h3;injection h2 with h2;subst h2;exact ⟨_,_,Tryz.runUnderlying180,rfl,rfl,Tryz.isAgg5,Tryz.sizeOf5⟩|1,h,h2=>by injection h with h;injection h with h1 h3;subst h1 h3;injection h2 with h2;subst h2;exact ⟨_,_,Tryz.runUnderlying180,rfl,rfl,Tryz.isAgg5,Tryz.sizeOf5⟩|_+2,h,_=>by simp at h)⟩
theorem rI:Qb Tryz.prog 181 ⟨true,2,[(0,1),(1,1)],none,some [.int .u8 0,.int .u8 0],0,none,[false,false]⟩:=⟨Tryz.sizeOf181,Tryz.isAgg181,(fun h=>by cases h),(fun j off fs h=>match j,h with|0,h=>by injection h with h;injection h with h1 h2;subst h1 h2;exact ⟨_,_,Tryz.runUnderlying181,rfl,rfl,Tryz.sizeOf5,by decide⟩|1,h=>by injection h with h;injection h with h1 h2;subst h1 h2;exact ⟨_,_,Tryz.runUnderlying181,rfl,rfl,Tryz.sizeOf5,by decide⟩|_+2,h=>by simp at h),(fun _ _ _ h=>by cases h),(fun _ _ _ _ _ h=>by cases h),(fun zs h=>by cases h;exact ⟨_,Tryz.zeroValue181,rfl,by simp [Value.oneCell']⟩),(fun _ _ _=>⟨_,Tryz.runUnderlying181,fun w=>by simp [Tryz.sizeOf5]⟩),(fun h=>by cases h),(fun _ h=>by cases h),(fun h=>by cases h),(fun h=>by cases h),(fun h=>by cases h),(fun j off fs b h h2=>match j,h,h2 with|0,h,h2=>by injection h with h;injection h with h1 h3;subst h1 h3;injection h2 with h2;subst h2;exact ⟨_,_,Tryz.runUnderlying181,rfl,rfl,Tryz.isAgg5,Tryz.sizeOf5⟩|1,h,h2=>by injection h with h;injection h with h1 h3;subst h1 h3;injection h2 with h2;subst h2;exact ⟨_,_,Tryz.runUnderlying181,rfl,rfl,Tryz.isAgg5,Tryz.sizeOf5⟩|_+2,h,_=>by simp at h)⟩
theorem rJ:Qb Tryz.prog 187 ⟨false,1,[],none,some [.int .u64 0],0,some .u64,[]⟩:=⟨Tryz.sizeOf187,Tryz.isAgg187,(fun _=>rfl),(fun _ _ _ h=>by simp at h),(fun _ _ _ h=>by cases h),(fun _ _ _ _ _ h=>by cases h),(fun zs h=>by cases h;exact ⟨_,Tryz.zeroValue187,rfl,by simp [Value.oneCell']⟩),(fun _ _ h=>by cases h),(fun h=>by cases h),(fun _ h=>by cases h;exact Tryz.runUnderlying187),(fun h=>by cases h),(fun h=>by cases h),(fun h=>by cases h),(fun _ _ _ _ _ h=>by simp at h)⟩
theorem rK:Qb Tryz.prog 191 ⟨false,1,[],none,some [.pointer none],0,none,[]⟩:=⟨Tryz.sizeOf191,Tryz.isAgg191,(fun _=>rfl),(fun _ _ _ h=>by simp at h),(fun _ _ _ h=>by cases h),(fun _ _ _ _ _ h=>by cases h),(fun zs h=>by cases h;exact ⟨_,Tryz.zeroValue191,rfl,by simp [Value.oneCell']⟩),(fun _ _ h=>by cases h),(fun h=>by cases h),(fun _ h=>by cases h),(fun h=>by cases h),(fun h=>by cases h),(fun h=>by cases h),(fun _ _ _ _ _ h=>by simp at h)⟩
theorem rL:Qb Tryz.prog 194 ⟨false,1,[],none,some [.pointer none],0,none,[]⟩:=⟨Tryz.sizeOf194,Tryz.isAgg194,(fun _=>rfl),(fun _ _ _ h=>by simp at h),(fun _ _ _ h=>by cases h),(fun _ _ _ _ _ h=>by cases h),(fun zs h=>by cases h;exact ⟨_,Tryz.zeroValue194,rfl,by simp [Value.oneCell']⟩),(fun _ _ h=>by cases h),(fun h=>by cases h),(fun _ h=>by cases h),(fun h=>by cases h),(fun h=>by cases h),(fun h=>by cases h),(fun _ _ _ _ _ h=>by simp at h)⟩
theorem rM:Qb Tryz.prog 200 ⟨true,4,[(0,1),(1,1),(2,1),(3,1)],none,some [.pointer none,.pointer none,.pointer none,.string ⟨#[]⟩],0,none,[false,false,false,false]⟩:=⟨Tryz.sizeOf200,Tryz.isAgg200,(fun h=>by cases h),(fun j off fs h=>match j,h with|0,h=>by injection h with h;injection h with h1 h2;subst h1 h2;exact ⟨_,_,Tryz.runUnderlying200,rfl,rfl,Tryz.sizeOf17,by decide⟩|1,h=>by injection h with h;injection h with h1 h2;subst h1 h2;exact ⟨_,_,Tryz.runUnderlying200,rfl,rfl,Tryz.sizeOf17,by decide⟩|2,h=>by injection h with h;injection h with h1 h2;subst h1 h2;exact ⟨_,_,Tryz.runUnderlying200,rfl,rfl,Tryz.sizeOf17,by decide⟩|3,h=>by injection h with h;injection h with h1 h2;subst h1 h2;exact ⟨_,_,Tryz.runUnderlying200,rfl,rfl,Tryz.sizeOf9,by decide⟩|_+4,h=>by simp at h),(fun _ _ _ h=>by cases h),(fun _ _ _ _ _ h=>by cases h),(fun zs h=>by cases h;exact ⟨_,Tryz.zeroValue200,rfl,by simp [Value.oneCell']⟩),(fun _ _ _=>⟨_,Tryz.runUnderlying200,fun w=>by simp [Tryz.sizeOf17,Tryz.sizeOf9]⟩),(fun h=>by cases h),(fun _ h=>by cases h),(fun h=>by cases h),(fun h=>by cases h),(fun h=>by cases h),(fun j off fs b h h2=>match j,h,h2 with|0,h,h2=>by injection h with h;injection h with h1 h3;subst h1 h3;injection h2 with h2;subst h2;exact ⟨_,_,Tryz.runUnderlying200,rfl,rfl,Tryz.isAgg17,Tryz.sizeOf17⟩|1,h,h2=>by injection h with h;injection h with h1 h3;subst h1 h3;injection h2 with h2;subst h2;exact ⟨_,_,Tryz.runUnderlying200,rfl,rfl,Tryz.isAgg17,Tryz.sizeOf17⟩|2,h,h2=>by injection h with h;injection h with h1 h3;subst h1 h3;injection h2 with h2;subst h2;exact ⟨_,_,Tryz.runUnderlying200,rfl,rfl,Tryz.isAgg17,Tryz.sizeOf17⟩|3,h,h2=>by injection h with h;injection h with h1 h3;subst h1 h3;injection h2 with h2;subst h2;exact ⟨_,_,Tryz.runUnderlying200,rfl,rfl,Tryz.isAgg9,Tryz.sizeOf9⟩|_+4,h,_=>by simp at h)⟩
theorem rN:Qb Tryz.prog 201 ⟨true,4,[(0,1),(1,1),(2,1),(3,1)],none,some [.pointer none,.pointer none,.pointer none,.string ⟨#[]⟩],0,none,[false,false,false,false]⟩:=⟨Tryz.sizeOf201,Tryz.isAgg201,(fun h=>by cases h),(fun j off fs h=>match j,h with|0,h=>by injection h with h;injection h with h1 h2;subst h1 h2;exact ⟨_,_,Tryz.runUnderlying201,rfl,rfl,Tryz.sizeOf17,by decide⟩|1,h=>by injection h with h;injection h with h1 h2;subst h1 h2;exact ⟨_,_,Tryz.runUnderlying201,rfl,rfl,Tryz.sizeOf17,by decide⟩|2,h=>by injection h with h;injection h with h1 h2;subst h1 h2;exact ⟨_,_,Tryz.runUnderlying201,rfl,rfl,Tryz.sizeOf17,by decide⟩|3,h=>by injection h with h;injection h with h1 h2;subst h1 h2;exact ⟨_,_,Tryz.runUnderlying201,rfl,rfl,Tryz.sizeOf9,by decide⟩|_+4,h=>by simp at h),(fun _ _ _ h=>by cases h),(fun _ _ _ _ _ h=>by cases h),(fun zs h=>by cases h;exact ⟨_,Tryz.zeroValue201,rfl,by simp [Value.oneCell']⟩),(fun _ _ _=>⟨_,Tryz.runUnderlying201,fun w=>by simp [Tryz.sizeOf17,Tryz.sizeOf9]⟩),(fun h=>by cases h),(fun _ h=>by cases h),(fun h=>by cases h),(fun h=>by cases h),(fun h=>by cases h),(fun j off fs b h h2=>match j,h,h2 with|0,h,h2=>by injection h with h;injection h with h1 h3;subst h1 h3;injection h2 with h2;subst h2;exact ⟨_,_,Tryz.runUnderlying201,rfl,rfl,Tryz.isAgg17,Tryz.sizeOf17⟩|1,h,h2=>by injection h with h;injection h with h1 h3;subst h1 h3;injection h2 with h2;subst h2;exact ⟨_,_,Tryz.runUnderlying201,rfl,rfl,Tryz.isAgg17,Tryz.sizeOf17⟩|2,h,h2=>by injection h with h;injection h with h1 h3;subst h1 h3;injection h2 with h2;subst h2;exact ⟨_,_,Tryz.runUnderlying201,rfl,rfl,Tryz.isAgg17,Tryz.sizeOf17⟩|3,h,h2=>by injection h with h;injection h with h1 h3;subst h1 h3;injection h2 with h2;subst h2;exact ⟨_,_,Tryz.runUnderlying201,rfl,rfl,Tryz.isAgg9,Tryz.sizeOf9⟩|_+4,h,_=>by simp at h)⟩
theorem rO:Qb Tryz.prog 206 ⟨false,1,[],none,some [.int .u8 0],0,some .u8,[]⟩:=⟨Tryz.sizeOf206,Tryz.isAgg206,(fun _=>rfl),(fun _ _ _ h=>by simp at h),(fun _ _ _ h=>by cases h),(fun _ _ _ _ _ h=>by cases h),(fun zs h=>by cases h;exact ⟨_,Tryz.zeroValue206,rfl,by simp [Value.oneCell']⟩),(fun _ _ h=>by cases h),(fun h=>by cases h),(fun _ h=>by cases h;exact Tryz.runUnderlying206),(fun h=>by cases h),(fun h=>by cases h),(fun h=>by cases h),(fun _ _ _ _ _ h=>by simp at h)⟩
theorem rP:Qb Tryz.prog 207 ⟨false,1,[],none,some [.int .u8 0],0,some .u8,[]⟩:=⟨Tryz.sizeOf207,Tryz.isAgg207,(fun _=>rfl),(fun _ _ _ h=>by simp at h),(fun _ _ _ h=>by cases h),(fun _ _ _ _ _ h=>by cases h),(fun zs h=>by cases h;exact ⟨_,Tryz.zeroValue207,rfl,by simp [Value.oneCell']⟩),(fun _ _ h=>by cases h),(fun h=>by cases h),(fun _ h=>by cases h;exact Tryz.runUnderlying207),(fun h=>by cases h),(fun h=>by cases h),(fun h=>by cases h),(fun _ _ _ _ _ h=>by simp at h)⟩
theorem rQ:Qb Tryz.prog 209 ⟨false,1,[],none,some [.pointer none],0,none,[]⟩:=⟨Tryz.sizeOf209,Tryz.isAgg209,(fun _=>rfl),(fun _ _ _ h=>by simp at h),(fun _ _ _ h=>by cases h),(fun _ _ _ _ _ h=>by cases h),(fun zs h=>by cases h;exact ⟨_,Tryz.zeroValue209,rfl,by simp [Value.oneCell']⟩),(fun _ _ h=>by cases h),(fun h=>by cases h),(fun _ h=>by cases h),(fun h=>by cases h),(fun h=>by cases h),(fun h=>by cases h),(fun _ _ _ _ _ h=>by simp at h)⟩
theorem rR:Qb Tryz.prog 210 ⟨false,1,[],none,some [.int .i32 0],0,some .i32,[]⟩:=⟨Tryz.sizeOf210,Tryz.isAgg210,(fun _=>rfl),(fun _ _ _ h=>by simp at h),(fun _ _ _ h=>by cases h),(fun _ _ _ _ _ h=>by cases h),(fun zs h=>by cases h;exact ⟨_,Tryz.zeroValue210,rfl,by simp [Value.oneCell']⟩),(fun _ _ h=>by cases h),(fun h=>by cases h),(fun _ h=>by cases h;exact Tryz.runUnderlying210),(fun h=>by cases h),(fun h=>by cases h),(fun h=>by cases h),(fun _ _ _ _ _ h=>by simp at h)⟩
theorem rS:Qb Tryz.prog 211 ⟨false,1,[],none,some [.int .i32 0],0,some .i32,[]⟩:=⟨Tryz.sizeOf211,Tryz.isAgg211,(fun _=>rfl),(fun _ _ _ h=>by simp at h),(fun _ _ _ h=>by cases h),(fun _ _ _ _ _ h=>by cases h),(fun zs h=>by cases h;exact ⟨_,Tryz.zeroValue211,rfl,by simp [Value.oneCell']⟩),(fun _ _ h=>by cases h),(fun h=>by cases h),(fun _ h=>by cases h;exact Tryz.runUnderlying211),(fun h=>by cases h),(fun h=>by cases h),(fun h=>by cases h),(fun _ _ _ _ _ h=>by simp at h)⟩
theorem rT:Qb Tryz.prog 212 ⟨true,11,[(0,1),(1,1),(2,1),(3,1),(4,1),(5,1),(6,1),(7,1),(8,1),(9,1),(10,1)],none,some [.int .u64 0,.int .u64 0,.int .u32 0,.int .u8 0,.int .u8 0,.int .u8 0,.int .u8 0,.nilFunc,.pointer none,.int .i32 0,.int .i32 0],0,none,[]⟩:=⟨Tryz.sizeOf212,Tryz.isAgg212,(fun h=>by cases h),(fun j off fs h=>match j,h with|0,h=>by injection h with h;injection h with h1 h2;subst h1 h2;exact ⟨_,_,Tryz.runUnderlying212,rfl,rfl,Tryz.sizeOf12,by decide⟩|1,h=>by injection h with h;injection h with h1 h2;subst h1 h2;exact ⟨_,_,Tryz.runUnderlying212,rfl,rfl,Tryz.sizeOf12,by decide⟩|2,h=>by injection h with h;injection h with h1 h2;subst h1 h2;exact ⟨_,_,Tryz.runUnderlying212,rfl,rfl,Tryz.sizeOf129,by decide⟩|3,h=>by injection h with h;injection h with h1 h2;subst h1 h2;exact ⟨_,_,Tryz.runUnderlying212,rfl,rfl,Tryz.sizeOf206,by decide⟩|4,h=>by injection h with h;injection h with h1 h2;subst h1 h2;exact ⟨_,_,Tryz.runUnderlying212,rfl,rfl,Tryz.sizeOf5,by decide⟩|5,h=>by injection h with h;injection h with h1 h2;subst h1 h2;exact ⟨_,_,Tryz.runUnderlying212,rfl,rfl,Tryz.sizeOf5,by decide⟩|6,h=>by injection h with h;injection h with h1 h2;subst h1 h2;exact ⟨_,_,Tryz.runUnderlying212,rfl,rfl,Tryz.sizeOf207,by decide⟩|7,h=>by injection h with h;injection h with h1 h2;subst h1 h2;exact ⟨_,_,Tryz.runUnderlying212,rfl,rfl,Tryz.sizeOf208,by decide⟩|8,h=>by injection h with h;injection h with h1 h2;subst h1 h2;exact ⟨_,_,Tryz.runUnderlying212,rfl,rfl,Tryz.sizeOf209,by decide⟩|9,h=>by injection h with h;injection h with h1 h2;subst h1 h2;exact ⟨_,_,Tryz.runUnderlying212,rfl,rfl,Tryz.sizeOf210,by decide⟩|10,h=>by injection h with h;injection h with h1 h2;subst h1 h2;exact ⟨_,_,Tryz.runUnderlying212,rfl,rfl,Tryz.sizeOf211,by decide⟩|_+11,h=>by simp at h),(fun _ _ _ h=>by cases h),(fun _ _ _ _ _ h=>by cases h),(fun zs h=>by cases h;exact ⟨_,Tryz.zeroValue212,rfl,by simp [Value.oneCell']⟩),(fun _ _ _=>⟨_,Tryz.runUnderlying212,fun w=>by simp [Tryz.sizeOf12,Tryz.sizeOf129,Tryz.sizeOf206,Tryz.sizeOf207,Tryz.sizeOf208,Tryz.sizeOf209,Tryz.sizeOf210,Tryz.sizeOf211,Tryz.sizeOf5]⟩),(fun h=>by cases h),(fun _ h=>by cases h),(fun h=>by cases h),(fun h=>by cases h),(fun h=>by cases h),(fun _ _ _ _ _ h=>by simp at h)⟩
theorem rU:Qb Tryz.prog 213 ⟨true,11,[(0,1),(1,1),(2,1),(3,1),(4,1),(5,1),(6,1),(7,1),(8,1),(9,1),(10,1)],none,some [.int .u64 0,.int .u64 0,.int .u32 0,.int .u8 0,.int .u8 0,.int .u8 0,.int .u8 0,.nilFunc,.pointer none,.int .i32 0,.int .i32 0],0,none,[]⟩:=⟨Tryz.sizeOf213,Tryz.isAgg213,(fun h=>by cases h),(fun j off fs h=>match j,h with|0,h=>by injection h with h;injection h with h1 h2;subst h1 h2;exact ⟨_,_,Tryz.runUnderlying213,rfl,rfl,Tryz.sizeOf12,by decide⟩|1,h=>by injection h with h;injection h with h1 h2;subst h1 h2;exact ⟨_,_,Tryz.runUnderlying213,rfl,rfl,Tryz.sizeOf12,by decide⟩|2,h=>by injection h with h;injection h with h1 h2;subst h1 h2;exact ⟨_,_,Tryz.runUnderlying213,rfl,rfl,Tryz.sizeOf129,by decide⟩|3,h=>by injection h with h;injection h with h1 h2;subst h1 h2;exact ⟨_,_,Tryz.runUnderlying213,rfl,rfl,Tryz.sizeOf206,by decide⟩|4,h=>by injection h with h;injection h with h1 h2;subst h1 h2;exact ⟨_,_,Tryz.runUnderlying213,rfl,rfl,Tryz.sizeOf5,by decide⟩|5,h=>by injection h with h;injection h with h1 h2;subst h1 h2;exact ⟨_,_,Tryz.runUnderlying213,rfl,rfl,Tryz.sizeOf5,by decide⟩|6,h=>by injection h with h;injection h with h1 h2;subst h1 h2;exact ⟨_,_,Tryz.runUnderlying213,rfl,rfl,Tryz.sizeOf207,by decide⟩|7,h=>by injection h with h;injection h with h1 h2;subst h1 h2;exact ⟨_,_,Tryz.runUnderlying213,rfl,rfl,Tryz.sizeOf208,by decide⟩|8,h=>by injection h with h;injection h with h1 h2;subst h1 h2;exact ⟨_,_,Tryz.runUnderlying213,rfl,rfl,Tryz.sizeOf209,by decide⟩|9,h=>by injection h with h;injection h with h1 h2;subst h1 h2;exact ⟨_,_,Tryz.runUnderlying213,rfl,rfl,Tryz.sizeOf210,by decide⟩|10,h=>by injection h with h;injection h with h1 h2;subst h1 h2;exact ⟨_,_,Tryz.runUnderlying213,rfl,rfl,Tryz.sizeOf211,by decide⟩|_+11,h=>by simp at h),(fun _ _ _ h=>by cases h),(fun _ _ _ _ _ h=>by cases h),(fun zs h=>by cases h;exact ⟨_,Tryz.zeroValue213,rfl,by simp [Value.oneCell']⟩),(fun _ _ _=>⟨_,Tryz.runUnderlying213,fun w=>by simp [Tryz.sizeOf12,Tryz.sizeOf129,Tryz.sizeOf206,Tryz.sizeOf207,Tryz.sizeOf208,Tryz.sizeOf209,Tryz.sizeOf210,Tryz.sizeOf211,Tryz.sizeOf5]⟩),(fun h=>by cases h),(fun _ h=>by cases h),(fun h=>by cases h),(fun h=>by cases h),(fun h=>by cases h),(fun _ _ _ _ _ h=>by simp at h)⟩
def cA:List (Nat×TI):=[(2,⟨false,1,[],none,some [.int .i64 0],0,some .i64,[]⟩),
  (3,⟨false,1,[],none,some [.int .i64 0],0,some .i64,[]⟩),
  (4,⟨false,1,[],none,some [.bool false],1,none,[]⟩),
  (5,⟨false,1,[],none,some [.int .u8 0],0,some .u8,[]⟩),
  (9,⟨false,1,[],none,some [.string ⟨#[]⟩],2,none,[]⟩),
  (21,⟨false,1,[],none,some [.int .i32 0],0,some .i32,[]⟩),
  (24,⟨false,1,[],some (5,.u8,1),some [.slice none 0 0],0,none,[]⟩),
  (27,⟨false,1,[],some (60,.lk,24),some [.slice none 0 0],0,none,[]⟩),
  (28,⟨true,2,[(0,1),(1,1)],none,some [.int .i64 0,.slice none 0 0],0,none,[false,false]⟩),
  (29,⟨true,2,[(0,1),(1,1)],none,some [.int .i64 0,.slice none 0 0],0,none,[false,false]⟩),
  (30,⟨false,1,[],some (4,.bool,1),some [.slice none 0 0],0,none,[]⟩),
  (31,⟨false,1,[],some (3,.int,8),some [.slice none 0 0],0,none,[]⟩),
  (32,⟨false,1,[],some (45,.db,24),some [.slice none 0 0],0,none,[]⟩),
  (33,⟨false,1,[],some (86,.pk,48),some [.slice none 0 0],0,none,[]⟩),
  (34,⟨true,6,[(0,2),(2,1),(3,1),(4,1),(5,1)],none,some [.int .i64 0,.slice none 0 0,.slice none 0 0,.slice none 0 0,.slice none 0 0,.slice none 0 0],0,none,[true,false,false,false,false]⟩),
  (35,⟨true,6,[(0,2),(2,1),(3,1),(4,1),(5,1)],none,some [.int .i64 0,.slice none 0 0,.slice none 0 0,.slice none 0 0,.slice none 0 0,.slice none 0 0],0,none,[true,false,false,false,false]⟩),
  (39,⟨false,1,[],some (9,.str,16),some [.slice none 0 0],0,none,[]⟩),
  (45,⟨false,1,[],some (48,.ls,40),some [.slice none 0 0],0,none,[]⟩),
  (46,⟨false,1,[],some (93,.en,16),some [.slice none 0 0],0,none,[]⟩),
  (47,⟨true,3,[(0,1),(1,1),(2,1)],none,some [.int .i64 0,.int .i64 0,.slice none 0 0],0,none,[false,false,false]⟩),
  (48,⟨true,3,[(0,1),(1,1),(2,1)],none,some [.int .i64 0,.int .i64 0,.slice none 0 0],0,none,[false,false,false]⟩),
  (50,⟨false,1,[],none,some [.pointer none],0,none,[]⟩),
  (59,⟨true,3,[(0,1),(1,1),(2,1)],none,some [.int .i64 0,.int .i64 0,.int .i64 0],0,none,[false,false,false]⟩),
  (60,⟨true,3,[(0,1),(1,1),(2,1)],none,some [.int .i64 0,.int .i64 0,.int .i64 0],3,none,[false,false,false]⟩),
  (63,⟨true,2,[(0,1),(1,1)],none,some [.int .i64 0,.int .i64 0],0,none,[false,false]⟩),
  (64,⟨true,2,[(0,1),(1,1)],none,some [.int .i64 0,.int .i64 0],3,none,[false,false]⟩),
  (75,⟨false,1,[],none,some [.pointer none],0,none,[]⟩),
  (80,⟨false,1,[],some (84,.lb,16),some [.slice none 0 0],0,none,[]⟩),
  (83,⟨true,2,[(0,1),(1,1)],none,some [.int .i64 0,.int .i64 0],0,none,[false,false]⟩),
  (84,⟨true,2,[(0,1),(1,1)],none,some [.int .i64 0,.int .i64 0],3,none,[false,false]⟩),
  (85,⟨true,4,[(0,1),(1,3)],none,some [.int .i64 0,.int .i64 0,.int .i64 0,.slice none 0 0],0,none,[false,true]⟩),
  (86,⟨true,4,[(0,1),(1,3)],none,some [.int .i64 0,.int .i64 0,.int .i64 0,.slice none 0 0],0,none,[false,true]⟩),
  (87,⟨true,2,[(0,1),(1,1)],none,some [.slice none 0 0,.int .i64 0],0,none,[false,false]⟩),
  (88,⟨true,2,[(0,1),(1,1)],none,some [.slice none 0 0,.int .i64 0],0,none,[false,false]⟩),
  (92,⟨true,2,[(0,1),(1,1)],none,some [.int .i64 0,.int .i64 0],0,none,[false,false]⟩),
  (93,⟨true,2,[(0,1),(1,1)],none,some [.int .i64 0,.int .i64 0],3,none,[false,false]⟩),
  (101,⟨false,1,[],none,some [.int .u64 0],0,some .u64,[]⟩),
  (129,⟨false,1,[],none,some [.int .u32 0],0,some .u32,[]⟩),
  (132,⟨false,1,[],none,some [.int .u64 0],0,some .u64,[]⟩),
  (171,⟨false,1,[],none,some [.int .i64 0],0,some .i64,[]⟩),
  (180,⟨true,2,[(0,1),(1,1)],none,some [.int .u8 0,.int .u8 0],0,none,[false,false]⟩),
  (181,⟨true,2,[(0,1),(1,1)],none,some [.int .u8 0,.int .u8 0],0,none,[false,false]⟩),
  (187,⟨false,1,[],none,some [.int .u64 0],0,some .u64,[]⟩),
  (191,⟨false,1,[],none,some [.pointer none],0,none,[]⟩),
  (194,⟨false,1,[],none,some [.pointer none],0,none,[]⟩),
  (200,⟨true,4,[(0,1),(1,1),(2,1),(3,1)],none,some [.pointer none,.pointer none,.pointer none,.string ⟨#[]⟩],0,none,[false,false,false,false]⟩),
  (201,⟨true,4,[(0,1),(1,1),(2,1),(3,1)],none,some [.pointer none,.pointer none,.pointer none,.string ⟨#[]⟩],0,none,[false,false,false,false]⟩),
  (206,⟨false,1,[],none,some [.int .u8 0],0,some .u8,[]⟩),
  (207,⟨false,1,[],none,some [.int .u8 0],0,some .u8,[]⟩),
  (209,⟨false,1,[],none,some [.pointer none],0,none,[]⟩),
  (210,⟨false,1,[],none,some [.int .i32 0],0,some .i32,[]⟩),
  (211,⟨false,1,[],none,some [.int .i32 0],0,some .i32,[]⟩),
  (212,⟨true,11,[(0,1),(1,1),(2,1),(3,1),(4,1),(5,1),(6,1),(7,1),(8,1),(9,1),(10,1)],none,some [.int .u64 0,.int .u64 0,.int .u32 0,.int .u8 0,.int .u8 0,.int .u8 0,.int .u8 0,.nilFunc,.pointer none,.int .i32 0,.int .i32 0],0,none,[]⟩),
  (213,⟨true,11,[(0,1),(1,1),(2,1),(3,1),(4,1),(5,1),(6,1),(7,1),(8,1),(9,1),(10,1)],none,some [.int .u64 0,.int .u64 0,.int .u32 0,.int .u8 0,.int .u8 0,.int .u8 0,.int .u8 0,.nilFunc,.pointer none,.int .i32 0,.int .i32 0],0,none,[]⟩)]
def tab:TypeId→Option TI:=IM cA
theorem Ha:Wb Tryz.prog tab:=aP (l:=cA) ⟨pM,⟨pN,⟨pO,⟨pP,⟨pQ,⟨pR,⟨pS,⟨pT,⟨pU,⟨pV,⟨pW,⟨pX,⟨pY,⟨pZ,⟨qA,⟨qB,⟨qC,⟨bY,⟨qD,⟨qE,⟨qF,⟨qG,⟨qH,⟨qK,⟨qL,⟨qO,⟨qP,⟨qQ,⟨qR,⟨qU,⟨qV,⟨qW,⟨qX,⟨qY,⟨qZ,⟨rC,⟨rD,⟨rE,⟨rF,⟨rG,⟨rH,⟨rI,⟨rJ,⟨rK,⟨rL,⟨rM,⟨rN,⟨rO,⟨rP,⟨rQ,⟨rR,⟨rS,⟨rT,⟨rU,trivial⟩⟩⟩⟩⟩⟩⟩⟩⟩⟩⟩⟩⟩⟩⟩⟩⟩⟩⟩⟩⟩⟩⟩⟩⟩⟩⟩⟩⟩⟩⟩⟩⟩⟩⟩⟩⟩⟩⟩⟩⟩⟩⟩⟩⟩⟩⟩⟩⟩⟩⟩⟩⟩⟩
theorem mixed:Tryz.prog.follows .mixedOrders=true:=by kernel_rfl
end
section
open Go.ChangeShapes Go.WideShapes Go.ChangeAt Go.RowKit Go.Deep Go.Joins
theorem Sq:ownKnob Tryz.prog.godebug=none:=by kernel_rfl
theorem Tq:laidOutB Tryz.prog=true:=by kernel_rfl
def Holds (f:FuncId) (args:Array Value) (W:World):Prop:=Calls Tryz.prog f args W fun e W'=>e=.returned (.bool true)∧Below W.heap.size W W'
def DD:Nat→Prop:=Ka [] []
theorem cB (b:Nat):¬DD b:=fun ⟨k,o,c,h,_⟩=>by simp at h
def Dn (w:World) (v:Value) (d:PV):Prop:=Cv w DD (fun _=>False) [] [] d v
theorem Uq {f:FuncId} {e:Oa} (hg:GC Tryz.prog f e) {s:HL e.ah} {r:HL e.rh} (hs:e.sh s=some r) {ds:List PV} (hf:e.AS.fill (up e.ah s)=some (ds,[])) (hr:e.RS.fill (up e.rh r)=some ([.im (.s (.bool true))],[])) {W:World} {args:List Value} (hx:F2 (fun d v=>Dn W v d) ds args) (hG:Jf W [] []):Holds f args.toArray W:=by
  refine (hg s r hs ds [] hf _ _ hr W (fun _=>False) [] args (fun b h=>h.elim) ⟨rfl,fun b hb=>hb,fun b _ h=>h,fun k o hk=>by simp at hk,fun j k o o' b c c' hj=>by simp at hj⟩ hx hG).mono ?_
  rintro e' w' ⟨u,β',rfl,st,_,hu⟩
  have:u=.bool true:=Rf hu
  exact ⟨by rw [this],st.os,st.tape,st.output,st.size,fun b hb=>st.block b hb (cB b)⟩
theorem rV {w:World} {x:Addr} {v:Value} (h:w.cell? x=some v):∃b o,x=⟨b,o,none⟩:=by
  obtain ⟨b,o,s⟩:=x
  cases s with
  |none=>exact ⟨b,o,rfl⟩
  |some t =>
   unfold World.cell? at h
   split at h<;>simp at h
theorem rW {w:World} {b o:Nat} {v:Value} (h:w.cell? ⟨b,o,none⟩=some v):b<w.heap.size:=by
  unfold World.cell? at h
  rcases Nat.lt_or_ge b w.heap.size with hb|hb
  ·exact hb
  ·simp [Array.getElem?_eq_none hb] at h
theorem cC {w:World} (g:Bool) {τ:Ty} {xs:List (El τ)} {A:Option Addr} {cap:Nat} {us:List Value} (hcap:xs.length≤cap∧cap≤maxLen) (hu:Mb τ xs=us.map IV.s) (hA:0<xs.length→∃b o,A=some ⟨b,o,none⟩∧∀(j:Nat) v,us[j]? =some v→w.cell? ⟨b,o+j,none⟩=some v):Ri w DD (fun _=>False) (.sl g τ xs) (.slice A xs.length cap):=by
  have hl:us.length=xs.length*sz τ:=by rw [←Pd,hu,List.length_map]
  have hr:∀(j:Nat) x u,(Mb τ xs)[j]? =some x→us[j]? =some u→Ri w DD (fun _=>False) x u:=fun j x u hx hj=>by
    rw [hu,List.getElem?_map,hj] at hx
    injection hx with hx
    subst hx
    exact .s u
  rcases Nat.eq_zero_or_pos xs.length with h0|h0
  ·have hu0:us=[]:=List.length_eq_zero_iff.1 (by rw [hl,h0,Nat.zero_mul])
   subst hu0
   exact .sl g τ xs A cap 0 0 [] (fun h=>by omega) hcap (by rw [hu];rfl) (fun j u hj=>by simp at hj) hr
  ·obtain ⟨b,o,rfl,hc⟩:=hA h0
   have hp:0<us.length:=by rw [hl];exact Nat.mul_pos h0 (Ij τ)
   have hb:b<w.heap.size:=rW (hc 0 us[0] (List.getElem?_eq_getElem hp))
   exact .sl g τ xs _ cap b o us (fun _=>⟨rfl,hb,cB b,fun _ h=>h⟩) hcap (by rw [hu,List.length_map]) hc hr
section
variable {H:Type} {enc:TypeId×Value→H} {P:Program} {w:World}
theorem rX {τ:Ty} {k:IntKind} (f:Int→El τ) (hf:∀z,cells τ (f z)=[.s (.int k z)]) {t e:TypeId} {Ea:Nat} {cs:List Value} {x:DataW H×List MemPlace} (ht:P.underlying t=some (.slice e)) (he:P.underlying e=some (.int k)) (hc:P.cellsOf e=1)
    (h:DataW.trod enc P w 0 (fun _=>true) true Ea t cs=some x):∃(A:Option Addr) (n cap:Nat) (zs:List Int),cs=[.slice A n cap]∧zs.length=n∧n≤maxLen∧(∀z∈zs,(Lit.int k z).wf=true)∧∀g,Ri w DD (fun _=>False) (.sl g τ (zs.map f)) (.slice A n cap):=by
  have flat:∀zs:List Int,Mb τ (zs.map f)=(zs.map (Value.int k)).map IV.s:=fun zs=>by
    induction zs with
    |nil=>rfl
    |cons z r ih=>rw [List.map_cons,Po,hf,ih];rfl
  rcases open_ints ht he hc h with ⟨rfl,_⟩|⟨a,len,cap,zs,rfl,_,hl,hm,hz,_,hcell,hw⟩
  ·exact ⟨none,0,0,[],rfl,rfl,Nat.zero_le _,fun z hz=>by simp at hz,fun g=>by
     have:=cC (w:=w) g (τ:=τ) (xs:=[]) (A:=none) (cap:=0) (us:=[]) ⟨Nat.le_refl _,Nat.zero_le _⟩ rfl (fun h=>by simp at h)
     exact this⟩
  ·simp only [if_true] at hz
   refine ⟨some a,len,cap,zs.take len,rfl,by simp;omega,by omega,fun z hz=>hw z (List.mem_of_mem_take hz),fun g=>?_⟩
   have e:((zs.take len).map f).length=len:=by simp;omega
   have:=cC (w:=w) g (τ:=τ) (xs:=(zs.take len).map f) (A:=some a) (cap:=cap) (us:=(zs.take len).map (Value.int k)) (by rw [e];exact ⟨hl,hm⟩) (flat _) (fun h0=>by
     rw [e] at h0
     have h1:=hcell 0 (by omega)
     rw [Addr.add_zero'] at h1
     obtain ⟨b,o,rfl⟩:=rV h1
     refine ⟨b,o,rfl,fun j u hu=>?_⟩
     have hj:j<len:=by
       have:=(List.getElem?_eq_some_iff.1 hu).1
       simp at this
       omega
     have h2:=hcell j (by omega)
     rw [Addr.add_lit] at h2
     rw [h2]
     simp only [List.getElem?_map,List.getElem?_take,hj,if_true] at hu
     obtain ⟨z,hz1,rfl⟩:=Option.map_eq_some_iff.1 hu
     simp [List.getD,hz1])
   rwa [e] at this
end
section
variable {H:Type} {enc:TypeId×Value→H} {W:World} {v:Value} {d:DataW H} {p:List MemPlace}
theorem Oy {r:Reach} {b0:Nat} (hv:Value.okWide Tryz.prog W r b0 24 v) (h:DataW.Trod enc Tryz.prog W 0 (fun _=>true) true 24 v d p):∃zs:List Int,zs.length≤maxLen∧(∀z∈zs,0≤z∧z<256)∧∀g,Dn W v (.im (.sl g .u8 zs)):=by
  obtain ⟨a,len,cap,rfl⟩:=okWide_slice Tryz.underlying24 hv
  obtain ⟨Ea,hf⟩:=h
  obtain ⟨A,n,cap',zs,e,hl,hm,hw,hr⟩:=rX (τ:=.u8) (fun z=>z) (fun _=>rfl) Tryz.underlying24 Tryz.underlying5 (by kernel_rfl) hf
  simp [Value.cells] at e
  obtain ⟨rfl,rfl,rfl⟩:=e
  refine ⟨zs,by omega,fun z hz=>?_,fun g=>(by have:=hr g;rw [List.map_id'] at this;exact this)⟩
  have:=hw z hz
  simp [Lit.wf,IntKind.min,IntKind.max,IntKind.signed,IntKind.bits] at this
  omega
end
end
end Go.Proofs.YtjffopopheiinaaGreatDoor
section
namespace Go.Proofs
open Go.Shelf
def Tryz.laysM171_ren:Go.Shelf.Ren:=⟨fun|171=>58|243=>97|246=>139|283=>167|284=>168|285=>169|286=>170|129=>184|317=>189|318=>190|319=>191|320=>192|337=>200|338=>201|n=>n,fun|3=>3|9=>9|2=>2|4=>4|171=>163|0=>0|53=>132|37=>24|5=>5|173=>166|212=>185|51=>129|20=>20|213=>186|46=>101|232=>197|233=>198|n=>n,fun|17=>3|18=>4|19=>5|n=>n⟩
theorem Tryz.laysM171:Go.Proofs.LaysM.n171 Tryz.prog Tryz.laysM171_ren:={
  mixed:=by kernel_rfl
  f129:=Tryz.func184.trans (congrArg some (by kernel_rfl))
  f171:=Tryz.func58.trans (congrArg some (by kernel_rfl))
  f243:=Tryz.func97.trans (congrArg some (by kernel_rfl))
  f246:=Tryz.func139.trans (congrArg some (by kernel_rfl))
  f283:=Tryz.func167.trans (congrArg some (by kernel_rfl))
  f284:=Tryz.func168.trans (congrArg some (by kernel_rfl))
  f285:=Tryz.func169.trans (congrArg some (by kernel_rfl))
  f286:=Tryz.func170.trans (congrArg some (by kernel_rfl))
  f317:=Tryz.func189.trans (congrArg some (by kernel_rfl))
  f318:=Tryz.func190.trans (congrArg some (by kernel_rfl))
  f319:=Tryz.func191.trans (congrArg some (by kernel_rfl))
  f320:=Tryz.func192.trans (congrArg some (by kernel_rfl))
  f337:=Tryz.func200.trans (congrArg some (by kernel_rfl))
  f338:=Tryz.func201.trans (congrArg some (by kernel_rfl))
  t0:=Tryz.underlying0
  a0:=Tryz.isAgg0
  z0:=Tryz.sizeOf0
  v0:=Tryz.zeroValue0
  t2:=Tryz.underlying2
  a2:=Tryz.isAgg2
  z2:=Tryz.sizeOf2
  v2:=Tryz.zeroValue2
  t3:=Tryz.underlying3
  a3:=Tryz.isAgg3
  z3:=Tryz.sizeOf3
  v3:=Tryz.zeroValue3
  t4:=Tryz.underlying4
  a4:=Tryz.isAgg4
  z4:=Tryz.sizeOf4
  v4:=Tryz.zeroValue4
  t5:=Tryz.underlying5
  a5:=Tryz.isAgg5
  z5:=Tryz.sizeOf5
  v5:=Tryz.zeroValue5
  t9:=Tryz.underlying9
  a9:=Tryz.isAgg9
  z9:=Tryz.sizeOf9
  v9:=Tryz.zeroValue9
  t20:=Tryz.underlying20
  a20:=Tryz.isAgg20
  z20:=Tryz.sizeOf20
  v20:=Tryz.zeroValue20
  t37:=Tryz.underlying24
  a37:=Tryz.isAgg24
  z37:=Tryz.sizeOf24
  v37:=Tryz.zeroValue24
  t46:=Tryz.underlying101
  a46:=Tryz.isAgg101
  z46:=Tryz.sizeOf101
  v46:=Tryz.zeroValue101
  t51:=Tryz.underlying129
  a51:=Tryz.isAgg129
  z51:=Tryz.sizeOf129
  v51:=Tryz.zeroValue129
  t53:=Tryz.underlying132
  a53:=Tryz.isAgg132
  z53:=Tryz.sizeOf132
  v53:=Tryz.zeroValue132
  t171:=Tryz.underlying163
  a171:=Tryz.isAgg163
  z171:=Tryz.sizeOf163
  v171:=Tryz.zeroValue163
  t173:=Tryz.underlying166
  a173:=Tryz.isAgg166
  z173:=Tryz.sizeOf166
  v173:=Tryz.zeroValue166
  t212:=Tryz.underlying185
  a212:=Tryz.isAgg185
  z212:=Tryz.sizeOf185
  v212:=Tryz.zeroValue185
  t213:=Tryz.underlying186
  a213:=Tryz.isAgg186
  z213:=Tryz.sizeOf186
  t232:=Tryz.underlying197
  a232:=Tryz.isAgg197
  z232:=Tryz.sizeOf197
  v232:=Tryz.zeroValue197
  t233:=Tryz.underlying198
  a233:=Tryz.isAgg198
  z233:=Tryz.sizeOf198
  v233:=Tryz.zeroValue198
  g17:=by kernel_rfl
  g18:=by kernel_rfl
  g19:=by kernel_rfl
  i0:=by kernel_rfl
  i2:=by kernel_rfl
  i3:=by kernel_rfl
  i4:=by kernel_rfl
  i5:=by kernel_rfl
  i9:=by kernel_rfl
  i20:=by kernel_rfl
  i37:=by kernel_rfl
  i46:=by kernel_rfl
  i51:=by kernel_rfl
  i53:=by kernel_rfl
  i171:=by kernel_rfl
  i173:=by kernel_rfl
  i212:=by kernel_rfl
  i232:=by kernel_rfl
  i233:=by kernel_rfl
  m17:=by kernel_rfl
  m18:=by kernel_rfl
  m19:=by kernel_rfl }
open Go.RowKit Go.Sort Go.Lib in
theorem Tryz.strconv_Itoa (n:Int) (h0: -9223372036854775808≤n) (h1:n≤9223372036854775807) (w:World) (htab:Lib.TabIs Tryz.prog w "internal/strconv.uint64pow10" .u64 Lib.pow10Tab) :
    Calls Tryz.prog 58 #[.int .i64 n] w fun e w'=>e=.returned (.string ⟨(Lib.itoa n).toArray⟩)∧∃k os,w'=grow (w.drewN k) os:=Any.strconv_Itoa Tryz.laysM171 n h0 h1 w htab
def Tryz.lays143_ren:Go.Shelf.Ren:=⟨fun|143=>83|219=>131|217=>155|225=>156|224=>157|267=>158|266=>185|314=>186|n=>n,fun|9=>9|3=>3|4=>4|5=>5|46=>101|146=>130|51=>129|n=>n,fun|1=>0|n=>n⟩
theorem Tryz.lays143:Go.Proofs.Lays.n143 Tryz.prog Tryz.lays143_ren:={
  mixed:=by kernel_rfl
  f143:=Tryz.func83.trans (congrArg some (by kernel_rfl))
  f217:=Tryz.func155.trans (congrArg some (by kernel_rfl))
  f219:=Tryz.func131.trans (congrArg some (by kernel_rfl))
  f224:=Tryz.func157.trans (congrArg some (by kernel_rfl))
  f225:=Tryz.func156.trans (congrArg some (by kernel_rfl))
  f266:=Tryz.func185.trans (congrArg some (by kernel_rfl))
  f267:=Tryz.func158.trans (congrArg some (by kernel_rfl))
  f314:=Tryz.func186.trans (congrArg some (by kernel_rfl))
  t3:=Tryz.underlying3
  a3:=Tryz.isAgg3
  z3:=Tryz.sizeOf3
  v3:=Tryz.zeroValue3
  t4:=Tryz.underlying4
  a4:=Tryz.isAgg4
  z4:=Tryz.sizeOf4
  v4:=Tryz.zeroValue4
  t5:=Tryz.underlying5
  a5:=Tryz.isAgg5
  z5:=Tryz.sizeOf5
  v5:=Tryz.zeroValue5
  t9:=Tryz.underlying9
  a9:=Tryz.isAgg9
  z9:=Tryz.sizeOf9
  v9:=Tryz.zeroValue9
  t46:=Tryz.underlying101
  a46:=Tryz.isAgg101
  z46:=Tryz.sizeOf101
  v46:=Tryz.zeroValue101
  t51:=Tryz.underlying129
  a51:=Tryz.isAgg129
  z51:=Tryz.sizeOf129
  v51:=Tryz.zeroValue129
  t146:=Tryz.underlying130
  a146:=Tryz.isAgg130
  z146:=Tryz.sizeOf130
  v146:=Tryz.zeroValue130
  g1:=by kernel_rfl }
open Go.RowKit Go.Lib in
theorem Tryz.strings_Index_one (s:ByteArray) (c:UInt8) (w:World) :
    Calls Tryz.prog 83 #[.string s,.string ⟨#[c]⟩] w fun e w'=>e=.returned (.int .i64 (Lib.indexByte s.data.toList c))∧w'=w:=Any.strings_Index_one Tryz.lays143 s c w
def Tryz.lays138_ren:Go.Shelf.Ren:=⟨fun|138=>82|195=>128|218=>130|143=>83|219=>131|217=>155|225=>156|224=>157|267=>158|266=>185|314=>186|n=>n,fun|9=>9|3=>3|4=>4|5=>5|0=>0|46=>101|146=>130|51=>129|n=>n,fun|1=>0|n=>n⟩
theorem Tryz.lays138:Go.Proofs.Lays.n138 Tryz.prog Tryz.lays138_ren:={
  mixed:=by kernel_rfl
  f138:=Tryz.func82.trans (congrArg some (by kernel_rfl))
  f143:=Tryz.func83.trans (congrArg some (by kernel_rfl))
  f195:=Tryz.func128.trans (congrArg some (by kernel_rfl))
  f217:=Tryz.func155.trans (congrArg some (by kernel_rfl))
  f218:=Tryz.func130.trans (congrArg some (by kernel_rfl))
  f219:=Tryz.func131.trans (congrArg some (by kernel_rfl))
  f224:=Tryz.func157.trans (congrArg some (by kernel_rfl))
  f225:=Tryz.func156.trans (congrArg some (by kernel_rfl))
  f266:=Tryz.func185.trans (congrArg some (by kernel_rfl))
  f267:=Tryz.func158.trans (congrArg some (by kernel_rfl))
  f314:=Tryz.func186.trans (congrArg some (by kernel_rfl))
  t0:=Tryz.underlying0
  a0:=Tryz.isAgg0
  z0:=Tryz.sizeOf0
  v0:=Tryz.zeroValue0
  t3:=Tryz.underlying3
  a3:=Tryz.isAgg3
  z3:=Tryz.sizeOf3
  v3:=Tryz.zeroValue3
  t4:=Tryz.underlying4
  a4:=Tryz.isAgg4
  z4:=Tryz.sizeOf4
  v4:=Tryz.zeroValue4
  t5:=Tryz.underlying5
  a5:=Tryz.isAgg5
  z5:=Tryz.sizeOf5
  v5:=Tryz.zeroValue5
  t9:=Tryz.underlying9
  a9:=Tryz.isAgg9
  z9:=Tryz.sizeOf9
  v9:=Tryz.zeroValue9
  t46:=Tryz.underlying101
  a46:=Tryz.isAgg101
  z46:=Tryz.sizeOf101
  v46:=Tryz.zeroValue101
  t51:=Tryz.underlying129
  a51:=Tryz.isAgg129
  z51:=Tryz.sizeOf129
  v51:=Tryz.zeroValue129
  t146:=Tryz.underlying130
  a146:=Tryz.isAgg130
  z146:=Tryz.sizeOf130
  v146:=Tryz.zeroValue130
  g1:=by kernel_rfl }
open Go.RowKit Go.Lib in
theorem Tryz.strings_Count_one (s:ByteArray) (c:UInt8) (w:World) :
    Calls Tryz.prog 82 #[.string s,.string ⟨#[c]⟩] w fun e w'=>e=.returned (.int .i64 (Lib.countByte s.data.toList c))∧w'=w:=Any.strings_Count_one Tryz.lays138 s c w
def Tryz.lays189_ren:Go.Shelf.Ren:=⟨fun|189=>125|125=>153|257=>152|128=>183|129=>184|294=>174|295=>175|296=>176|297=>177|298=>178|299=>179|216=>180|300=>181|301=>182|328=>194|329=>195|330=>196|331=>197|332=>198|215=>141|343=>203|n=>n,fun|28=>31|3=>3|46=>101|0=>0|51=>129|53=>132|4=>4|183=>172|182=>171|131=>135|5=>5|9=>9|218=>187|222=>191|228=>194|229=>195|n=>n,fun|n=>n⟩
theorem Tryz.lays189:Go.Proofs.Lays.n189 Tryz.prog Tryz.lays189_ren:={
  mixed:=by kernel_rfl
  f125:=Tryz.func153.trans (congrArg some (by kernel_rfl))
  f128:=Tryz.func183.trans (congrArg some (by kernel_rfl))
  f129:=Tryz.func184.trans (congrArg some (by kernel_rfl))
  f189:=Tryz.func125.trans (congrArg some (by kernel_rfl))
  f215:=Tryz.func141.trans (congrArg some (by kernel_rfl))
  f216:=Tryz.func180.trans (congrArg some (by kernel_rfl))
  f257:=Tryz.func152.trans (congrArg some (by kernel_rfl))
  f294:=Tryz.func174.trans (congrArg some (by kernel_rfl))
  f295:=Tryz.func175.trans (congrArg some (by kernel_rfl))
  f296:=Tryz.func176.trans (congrArg some (by kernel_rfl))
  f297:=Tryz.func177.trans (congrArg some (by kernel_rfl))
  f298:=Tryz.func178.trans (congrArg some (by kernel_rfl))
  f299:=Tryz.func179.trans (congrArg some (by kernel_rfl))
  f300:=Tryz.func181.trans (congrArg some (by kernel_rfl))
  f301:=Tryz.func182.trans (congrArg some (by kernel_rfl))
  f328:=Tryz.func194.trans (congrArg some (by kernel_rfl))
  f329:=Tryz.func195.trans (congrArg some (by kernel_rfl))
  f330:=Tryz.func196.trans (congrArg some (by kernel_rfl))
  f331:=Tryz.func197.trans (congrArg some (by kernel_rfl))
  f332:=Tryz.func198.trans (congrArg some (by kernel_rfl))
  f343:=Tryz.func203.trans (congrArg some (by kernel_rfl))
  t0:=Tryz.underlying0
  a0:=Tryz.isAgg0
  z0:=Tryz.sizeOf0
  v0:=Tryz.zeroValue0
  t3:=Tryz.underlying3
  a3:=Tryz.isAgg3
  z3:=Tryz.sizeOf3
  v3:=Tryz.zeroValue3
  t4:=Tryz.underlying4
  a4:=Tryz.isAgg4
  z4:=Tryz.sizeOf4
  v4:=Tryz.zeroValue4
  t5:=Tryz.underlying5
  a5:=Tryz.isAgg5
  z5:=Tryz.sizeOf5
  v5:=Tryz.zeroValue5
  t9:=Tryz.underlying9
  a9:=Tryz.isAgg9
  z9:=Tryz.sizeOf9
  v9:=Tryz.zeroValue9
  t28:=Tryz.underlying31
  a28:=Tryz.isAgg31
  z28:=Tryz.sizeOf31
  v28:=Tryz.zeroValue31
  t46:=Tryz.underlying101
  a46:=Tryz.isAgg101
  z46:=Tryz.sizeOf101
  v46:=Tryz.zeroValue101
  t51:=Tryz.underlying129
  a51:=Tryz.isAgg129
  z51:=Tryz.sizeOf129
  v51:=Tryz.zeroValue129
  t53:=Tryz.underlying132
  a53:=Tryz.isAgg132
  z53:=Tryz.sizeOf132
  v53:=Tryz.zeroValue132
  t131:=Tryz.underlying135
  a131:=Tryz.isAgg135
  z131:=Tryz.sizeOf135
  v131:=Tryz.zeroValue135
  t182:=Tryz.underlying171
  a182:=Tryz.isAgg171
  z182:=Tryz.sizeOf171
  v182:=Tryz.zeroValue171
  t183:=Tryz.underlying172
  a183:=Tryz.isAgg172
  z183:=Tryz.sizeOf172
  v183:=Tryz.zeroValue172
  t218:=Tryz.underlying187
  a218:=Tryz.isAgg187
  z218:=Tryz.sizeOf187
  v218:=Tryz.zeroValue187
  t222:=Tryz.underlying191
  a222:=Tryz.isAgg191
  z222:=Tryz.sizeOf191
  v222:=Tryz.zeroValue191
  t228:=Tryz.underlying194
  a228:=Tryz.isAgg194
  z228:=Tryz.sizeOf194
  v228:=Tryz.zeroValue194
  t229:=Tryz.underlying195
  a229:=Tryz.isAgg195
  z229:=Tryz.sizeOf195
  v229:=Tryz.zeroValue195 }
open Go.Sort Go.RowKit in
theorem Tryz.slices_Sort_int (blk off cap:Nat) (zs:List Int) (w:World) (hH:Holds (Value.int .i64) w blk off zs.toArray) (hblk:blk<w.heap.size) (hsz:zs.length<4611686018427387904) :
    Calls Tryz.prog 125 #[.slice (some ⟨blk,off,none⟩) zs.length cap] w fun e w' =>
      e=.returned (.tuple #[])∧∃n os,w'=grow (putRow (Value.int .i64) (Sort.ahead w n) blk off (zs.mergeSort fun x y=>decide (x≤y)).toArray) os:=Any.slices_Sort_int Tryz.lays189 blk off cap zs w hH hblk hsz
def Tryz.lays146_ren:Go.Shelf.Ren:=⟨fun|146=>26|221=>49|268=>81|138=>82|143=>83|195=>128|197=>129|218=>130|219=>131|260=>154|217=>155|225=>156|224=>157|267=>158|266=>185|314=>186|n=>n,fun|9=>9|31=>39|3=>3|4=>4|0=>0|105=>140|21=>21|5=>5|46=>101|119=>179|139=>182|138=>181|146=>130|51=>129|n=>n,fun|1=>0|3=>1|4=>2|n=>n⟩
theorem Tryz.lays146:Go.Proofs.Lays.n146 Tryz.prog Tryz.lays146_ren:={
  mixed:=by kernel_rfl
  f138:=Tryz.func82.trans (congrArg some (by kernel_rfl))
  f143:=Tryz.func83.trans (congrArg some (by kernel_rfl))
  f146:=Tryz.func26.trans (congrArg some (by kernel_rfl))
  f195:=Tryz.func128.trans (congrArg some (by kernel_rfl))
  f197:=Tryz.func129.trans (congrArg some (by kernel_rfl))
  f217:=Tryz.func155.trans (congrArg some (by kernel_rfl))
  f218:=Tryz.func130.trans (congrArg some (by kernel_rfl))
  f219:=Tryz.func131.trans (congrArg some (by kernel_rfl))
  f221:=Tryz.func49.trans (congrArg some (by kernel_rfl))
  f224:=Tryz.func157.trans (congrArg some (by kernel_rfl))
  f225:=Tryz.func156.trans (congrArg some (by kernel_rfl))
  f260:=Tryz.func154.trans (congrArg some (by kernel_rfl))
  f266:=Tryz.func185.trans (congrArg some (by kernel_rfl))
  f267:=Tryz.func158.trans (congrArg some (by kernel_rfl))
  f268:=Tryz.func81.trans (congrArg some (by kernel_rfl))
  f314:=Tryz.func186.trans (congrArg some (by kernel_rfl))
  t0:=Tryz.underlying0
  a0:=Tryz.isAgg0
  z0:=Tryz.sizeOf0
  v0:=Tryz.zeroValue0
  t3:=Tryz.underlying3
  a3:=Tryz.isAgg3
  z3:=Tryz.sizeOf3
  v3:=Tryz.zeroValue3
  t4:=Tryz.underlying4
  a4:=Tryz.isAgg4
  z4:=Tryz.sizeOf4
  v4:=Tryz.zeroValue4
  t5:=Tryz.underlying5
  a5:=Tryz.isAgg5
  z5:=Tryz.sizeOf5
  v5:=Tryz.zeroValue5
  t9:=Tryz.underlying9
  a9:=Tryz.isAgg9
  z9:=Tryz.sizeOf9
  v9:=Tryz.zeroValue9
  t21:=Tryz.underlying21
  a21:=Tryz.isAgg21
  z21:=Tryz.sizeOf21
  v21:=Tryz.zeroValue21
  t31:=Tryz.underlying39
  a31:=Tryz.isAgg39
  z31:=Tryz.sizeOf39
  v31:=Tryz.zeroValue39
  t46:=Tryz.underlying101
  a46:=Tryz.isAgg101
  z46:=Tryz.sizeOf101
  v46:=Tryz.zeroValue101
  t51:=Tryz.underlying129
  a51:=Tryz.isAgg129
  z51:=Tryz.sizeOf129
  v51:=Tryz.zeroValue129
  t105:=Tryz.underlying140
  a105:=Tryz.isAgg140
  z105:=Tryz.sizeOf140
  v105:=Tryz.zeroValue140
  t119:=Tryz.underlying179
  a119:=Tryz.isAgg179
  z119:=Tryz.sizeOf179
  t138:=Tryz.underlying181
  a138:=Tryz.isAgg181
  z138:=Tryz.sizeOf181
  v138:=Tryz.zeroValue181
  t139:=Tryz.underlying182
  a139:=Tryz.isAgg182
  z139:=Tryz.sizeOf182
  v139:=Tryz.zeroValue182
  t146:=Tryz.underlying130
  a146:=Tryz.isAgg130
  z146:=Tryz.sizeOf130
  v146:=Tryz.zeroValue130
  g1:=by kernel_rfl
  g3:=by kernel_rfl
  g4:=by kernel_rfl }
def Tryz.lays212_ren:Go.Shelf.Ren:=⟨fun|212=>78|263=>122|264=>123|n=>n,fun|46=>101|51=>129|146=>130|53=>132|148=>133|n=>n,fun|n=>n⟩
theorem Tryz.lays212:Go.Proofs.Lays.n212 Tryz.prog Tryz.lays212_ren:={
  mixed:=by kernel_rfl
  f212:=Tryz.func78.trans (congrArg some (by kernel_rfl))
  f263:=Tryz.func122.trans (congrArg some (by kernel_rfl))
  f264:=Tryz.func123.trans (congrArg some (by kernel_rfl))
  t46:=Tryz.underlying101
  a46:=Tryz.isAgg101
  z46:=Tryz.sizeOf101
  v46:=Tryz.zeroValue101
  t51:=Tryz.underlying129
  a51:=Tryz.isAgg129
  z51:=Tryz.sizeOf129
  v51:=Tryz.zeroValue129
  t53:=Tryz.underlying132
  a53:=Tryz.isAgg132
  z53:=Tryz.sizeOf132
  v53:=Tryz.zeroValue132
  t146:=Tryz.underlying130
  a146:=Tryz.isAgg130
  z146:=Tryz.sizeOf130
  v146:=Tryz.zeroValue130
  t148:=Tryz.underlying133
  a148:=Tryz.isAgg133
  z148:=Tryz.sizeOf133
  v148:=Tryz.zeroValue133 }
open Go.RowKit Go.Lib in
theorem Tryz.bits_Mul (x y:Nat) (hx:x<18446744073709551616) (hy:y<18446744073709551616) (w:World) :
    Calls Tryz.prog 78 #[.int .u64 x,.int .u64 y] w fun e w'=>e=.returned (.tuple #[.int .u64 ((x*y / 18446744073709551616:Nat):Int),.int .u64 ((x*y % 18446744073709551616:Nat):Int)])∧w'=w:=Any.bits_Mul Tryz.lays212 x y hx hy w
open Go.RowKit Go.Sort in
theorem Tryz.slices_Sort_int_none (p:Option Addr) (cap:Nat) (w:World) :
    Calls Tryz.prog 125 #[.slice p 0 cap] w fun e w'=>e=.returned (.tuple #[])∧w'=w:=Any.slices_Sort_int_none Tryz.lays189 p cap w
end Go.Proofs
end
namespace Go.Proofs.YtjffopopheiinaaGreatDoor
section
open Go.RowKit
theorem rY {w:World} {base e size n:Nat} {v:Value} {us:List Value} (h:w.ownsRow base e size v n us) (hv:v≠.slice none 0 0):∃g c junk,v=.slice (some ⟨g,0,none⟩) n c∧base≤g∧w.heap[g]? =some (.cells (us++junk).toArray e (0,0))∧(us++junk).length=c*size∧c≤maxLen∧n≤c:=by
  rcases h.2 with ⟨h1,_⟩|⟨g,c,cur,h1,h2,h3,h4,h5,h6,h7⟩
  ·exact absurd h1 hv
  ·have e:us++cur.toList.drop (n*size)=cur.toList:=by rw [←h7,List.take_append_drop]
   exact ⟨g,c,cur.toList.drop (n*size),h1,h2,by rw [e];simpa using h3,by rw [e];simpa using h6,h5,h4⟩
theorem Fn {h:List Fa} {β:List (Nat×Nat)} {w w':World} {X:Nat→Prop} {τ:Ty} {e:TypeId} {ys:List (El τ)} {g c:Nat} {A:Option Addr} (hH:Xd w (Ka h β) X h β) (hX:∀b,X b→b<w.heap.size) (hos:w'.os=w.os) (hta:w'.tape=w.tape) (hou:w'.output=w.output) (hsz:w.heap.size≤w'.heap.size)
    (hblk:∀b,b<w.heap.size→¬Ka h β b→w'.heap[b]? =w.heap[b]?) (hg:Ka h β g∨w.heap.size≤g) (hc:c=0→ys=[]) (hcm:c≤maxLen)
    (hrow:0<c→∃us junk,w'.heap[g]? =some (.cells (us++junk).toArray e (0,0))∧F2 (Ri w (Ka h β) X) (Mb τ ys) us∧(us++junk).length=c*sz τ) (hA:0<c→A=some ⟨g,0,none⟩) :
    Zb w h β w' (h.map (fun _=>Fa.dead)++[.row e τ ys]) (β++[(g,c)])∧Xd w' (Ka (h.map (fun _=>Fa.dead)++[.row e τ ys]) (β++[(g,c)])) X (h.map (fun _=>Fa.dead)++[.row e τ ys]) (β++[(g,c)])∧Cv w' (Ka (h.map (fun _=>Fa.dead)++[.row e τ ys]) (β++[(g,c)])) X (h.map (fun _=>Fa.dead)++[.row e τ ys]) (β++[(g,c)]) (.own h.length) (.slice A ys.length c):=by
  have hlen:=hH.len
  have hat:∀k,k<h.length→(h.map (fun _=>Fa.dead)++[Fa.row e τ ys])[k]? =some .dead:=fun k hk=>by
    rw [List.getElem?_append_left (by simpa using hk),List.getElem?_map,List.getElem?_eq_getElem hk];rfl
  have hlast:(h.map (fun _=>Fa.dead)++[Fa.row e τ ys])[h.length]? =some (.row e τ ys):=by
    rw [List.getElem?_append_right (by simp)];simp
  have hβl:(β++[(g,c)])[h.length]? =some (g,c):=by
    rw [List.getElem?_append_right (by omega),hlen,Nat.sub_self];rfl
  have hbe:∀k,h.length<k→(h.map (fun _=>Fa.dead)++[Fa.row e τ ys])[k]? =none:=fun k hk=>by
    rw [List.getElem?_eq_none];simp;omega
  have only:∀k o,(h.map (fun _=>Fa.dead)++[Fa.row e τ ys])[k]? =some o→(k<h.length∧o=.dead)∨(k=h.length∧o=.row e τ ys):=fun k o hk=>by
    rcases Nat.lt_trichotomy k h.length with h1|h1|h1
    ·rw [hat k h1] at hk;injection hk with hk;exact .inl ⟨h1,hk.symm⟩
    ·subst h1;rw [hlast] at hk;injection hk with hk;exact .inr ⟨rfl,hk.symm⟩
    ·rw [hbe k h1] at hk;cases hk
  have liv:∀b,Ka (h.map (fun _=>Fa.dead)++[Fa.row e τ ys]) (β++[(g,c)]) b→b=g:=fun b ⟨k,o,c',h1,h2,h3⟩=>by
    rcases only k o h1 with ⟨_,rfl⟩|⟨rfl,rfl⟩
    ·exact h2.elim
    ·rw [hβl] at h3;injection h3 with h3;injection h3 with h3;exact h3.symm
  have keepβ:∀(k:Nat) p,β[k]? =some p→(β++[(g,c)])[k]? =some p:=fun k p hk=>by
    rw [List.getElem?_append_left (List.getElem?_eq_some_iff.1 hk).1];exact hk
  have new:∀b,b<w.heap.size→Ka (h.map (fun _=>Fa.dead)++[Fa.row e τ ys]) (β++[(g,c)]) b→Ka h β b:=fun b hb hl=>by
    have:=liv b hl
    subst this
    exact hg.resolve_right (by omega)
  refine ⟨⟨hos,hta,hou,hsz,hblk,new,keepβ,⟨by simp,fun k t τ' xs' hk e'=>?_,fun k hk e'=>?_⟩⟩,⟨by simp [hlen],fun b hb=>hb,fun b hl hx=>?_,fun k o hk=>?_,fun j k o o' b c1 c2 hj hk l1 l2 b1 b2=>?_⟩,⟨by simp,?_,⟨_,_,_,rfl⟩,fun t τ' xs' e'=>?_⟩⟩
  ·rw [hat k hk] at e';cases e'
  ·simp [Cc,hat k hk] at e'
  ·have:=liv b hl
   subst this
   rcases hg with hg|hg
   ·exact hH.nx _ hg hx
   ·have:=hX _ hx;omega
  ·rcases only k o hk with ⟨_,rfl⟩|⟨rfl,rfl⟩
   ·trivial
   ·refine ⟨g,c,hβl,hc,hcm,fun h0=>?_⟩
    obtain ⟨us,junk,q1,q2,q3⟩:=hrow h0
    exact ⟨us,junk,q1,q2.mono fun x u hx=>hx.keep hblk hsz (fun b hb hn hl=>hn (new b hb hl)) (fun _ _ _ hx=>hx),Kl q2,q3⟩
  ·rcases only j o hj with ⟨_,rfl⟩|⟨rfl,rfl⟩
   ·exact l1.elim
   ·rcases only k o' hk with ⟨_,rfl⟩|⟨rfl,rfl⟩
    ·exact l2.elim
    ·rfl
  ·simp [Cc,hlast]
  ·rw [hlast] at e'
   injection e' with e'
   cases e'
   exact ⟨g,c,A,hβl,rfl,hA,fun _=>trivial⟩
def rZ (τ:Ty) (s:List (El τ)×Unit):Option (List (El τ)×Unit):=bif decide (s.1.length≤16777216) then some s else none
theorem sA {P:Program} {f:FuncId} {τ:Ty} {e:TypeId} (hN:∀n c w,Calls P f #[.slice none n c] w fun e w'=>e=.returned (.slice none 0 0)∧w'=w)
    (hC:∀(A:Addr) (n c:Nat) (news:List Value) (w:World),news.length=n*sz τ→n≤16777216→(∀j u,news[j]? =some u→w.cell? (A.add j)=some u)→(∀u∈news,u.oneCell'=true) →
      Calls P f #[.slice (some A) n c] w fun ex w'=>∃v',ex=.returned v'∧w'.ownsRow w.heap.size e (sz τ) v' n news∧v'≠.slice none 0 0∧Below w.heap.size w w') :
    GC P f ⟨⟨[.c (.one (.b (.sl false τ)))],[]⟩,[.ls τ],⟨[.c (.one (.own 0))],[.row e τ]⟩,[.ls τ],rZ τ⟩:=by
  intro s r hs ds os hf d h' hr w X β args hX hH hargs _
  obtain ⟨xs,_⟩:=s
  change List (El τ) at xs
  have hs:(bif decide (xs.length≤16777216) then some ((xs,()):List (El τ)×Unit) else none)=some r:=hs
  cases hd:decide (xs.length≤16777216) with
  |false=>rw [hd] at hs;cases hs
  |true =>
  rw [hd] at hs
  injection hs with hs
  subst hs
  have hn:=oT hd
  have hf:some ([PV.im (.sl false τ xs)],([]:List Fa))=some (ds,os):=by rw [←hf];cases τ<;>rfl
  injection hf with hf
  injection hf with hf1 hf2
  subst hf1 hf2
  have hr:some ([PV.own 0],[Fa.row e τ xs])=some ([d],h'):=by rw [←hr];cases τ<;>rfl
  injection hr with hr
  injection hr with hr1 hr2
  injection hr1 with hr1
  subst hr1 hr2
  obtain ⟨u,_,rfl,hu,hnil⟩:=hargs.cons_inv
  obtain rfl:=hnil.nil_inv
  have hu:Ri w (Ka [] β) X (.sl false τ xs) u:=hu
  have Hd:∀{v':Value} {w':World} {news:List Value},F2 (Ri w (Ka [] β) X) (Mb τ xs) news→w'.ownsRow w.heap.size e (sz τ) v' xs.length news→v'≠.slice none 0 0→Below w.heap.size w w'→∃u β',Ending.returned v'=.returned u∧Zb w [] β w' [.row e τ xs] β'∧Xd w' (Ka [.row e τ xs] β') X [.row e τ xs] β'∧Cv w' (Ka [.row e τ xs] β') X [.row e τ xs] β' (.own 0) u:=fun {v' w' news} hF hown hne hb=>by
    obtain ⟨g,c,junk,rfl,hg,hh,hl,hm,hle⟩:=rY hown hne
    obtain ⟨q1,q2,q3⟩:=Fn (h:=[]) (e:=e) (τ:=τ) (ys:=xs) (g:=g) (c:=c) (A:=some ⟨g,0,none⟩) hH hX hb.os hb.tape hb.output hb.size (fun i hi _=>hb.block i hi) (.inr hg) (fun h=>List.length_eq_zero_iff.1 (by omega)) hm (fun _=>⟨news,junk,hh,hF,hl⟩) (fun _=>rfl)
    exact ⟨_,_,rfl,q1,q2,q3⟩
  cases hu with
  |sl g τ xs A cap b o us hA hcap hl hc hr =>
  cases A with
  |none =>
   refine (hN _ _ w).mono ?_
   rintro ex w' ⟨rfl,rfl⟩
   obtain rfl:xs=[]:=by
     rcases Nat.eq_zero_or_pos xs.length with h0|h0
     ·exact List.length_eq_zero_iff.1 h0
     ·have:=(hA h0).1;cases this
   obtain ⟨q1,q2,q3⟩:=Fn (h:=[]) (e:=e) (τ:=τ) (ys:=[]) (g:=w'.heap.size) (c:=0) (A:=none) hH hX rfl rfl rfl (Nat.le_refl _) (fun i hi _=>rfl) (.inr (Nat.le_refl _)) (fun _=>rfl) (Nat.zero_le _) (fun h=>by omega) (fun h=>by omega)
   exact ⟨_,_,rfl,q1,q2,q3⟩
  |some A =>
   rcases Nat.eq_zero_or_pos xs.length with h0|h0
   ·obtain rfl:xs=[]:=List.length_eq_zero_iff.1 h0
    refine (hC A 0 cap [] w (by simp) (Nat.zero_le _) (fun j u hj=>by simp at hj) (fun u hu=>by simp at hu)).mono ?_
    rintro ex w' ⟨v',rfl,h1,h2,h3⟩
    exact Hd F2.nil h1 h2 h3
   ·obtain ⟨e1,_,_⟩:=hA h0
    injection e1 with e1
    subst e1
    have hF:F2 (Ri w (Ka [] β) X) (Mb τ xs) us:=⟨hl,hr⟩
    refine (hC ⟨b,o,none⟩ xs.length cap us w (by rw [hl,Pd]) hn (fun j u hj=>by rw [Hl];exact hc j u hj) (Kl hF)).mono ?_
    rintro ex w' ⟨v',rfl,h1,h2,h3⟩
    exact Hd hF h1 h2 h3
theorem cD {g:Nat} {t:TypeId}:∀(vs:List Value) (o:Nat) (cur:Array Value) (w:World),w.heap[g]? =some (.cells cur t (0,0))→o+vs.length≤cur.size→w.setCells g o vs=w.setRow g (cur.toList.take o++vs++cur.toList.drop (o+vs.length)).toArray
  |[],o,cur,w,hg,_=>by
   simp only [World.setCells,List.append_nil,List.length_nil,Nat.add_zero,List.take_append_drop,Array.toArray_toList]
   rw [setRow_self w g cur t (0,0) hg]
  |v::r,o,cur,w,hg,hl=>by
   have hi:o<cur.size:=by simp at hl;omega
   have h1:w.setCell ⟨g,o,none⟩ v=w.setRow g (cur.setIfInBounds o v):=setCell_eq_setRow w g o cur t (0,0) v hg
   simp only [World.setCells]
   rw [h1,cD r (o+1) (cur.setIfInBounds o v) (w.setRow g (cur.setIfInBounds o v)) (setRow_heap w g cur _ t _ hg) (by simp at hl ⊢;omega),setRow_setRow]
   congr 2
   have e:=list_seg_step cur.toList o v r (by simp at hl ⊢;omega)
   simpa [Array.toList_setIfInBounds,Nat.add_assoc] using e
theorem SM {P:Program} (w:World) (dT sT ty elem:TypeId) (g o dLen dCap:Nat) (a:Addr) (sLen sCap size:Nat) (cur:Array Value) (t:TypeId) (cs:List Value)
    (hu:P.underlying dT=some (.slice elem)) (hs:∀w,(sizeOf elem).run P w=.ok size w) (hg:w.heap[g]? =some (.cells cur t (0,0))) (hn:cs.length=Nat.min sLen dLen*size)
    (hsrc:∀j v,cs[j]? =some v→w.cell? (a.add j)=some v) (hfit:o+cs.length≤cur.size) (h1:∀v∈cs,v.oneCell'=true) :
    (Builtin.copy_ #[dT,sT] ty #[.slice (some ⟨g,o,none⟩) dLen dCap,.slice (some a) sLen sCap]).run P w =
      .ok (goInt (Nat.min sLen dLen)) (w.setRow g (cur.toList.take o++cs++cur.toList.drop (o+cs.length)).toArray):=by
  have hl:=run_firstCells_some (P:=P) w size (Nat.min sLen dLen) a sLen sCap cs hn hsrc
  have hst:=run_storeCells_at P g o t cs 0 cur w hg (by simpa using hfit) h1
  simp only [Nat.add_zero] at hst
  simp [Builtin.copy_,run_underlying hu,Builtin.lenOf,hs,hl,hst]
theorem RV (cs:Array Value) (n:Nat):(Builtin.zeroCells cs n).toList.length=n*cs.size:=by
  simp [Builtin.zeroCells]
theorem sB {P:Program} (w:World) (t e ty:TypeId) (z:Value) (ht:P.underlying t=some (.slice e)) (hv:∀w,(zeroValue e).run P w=.ok z w) (h1:∀v∈z.cells.toList,v.oneCell'=true) (b o n c:Nat) (hn:0<n) (cur:Array Value) (t':TypeId)
    (hg:w.heap[b]? =some (.cells cur t' (0,0))) (hfit:o+n*z.cells.size≤cur.size) :
    ∃zs:List Value,zs.length=n*z.cells.size∧(Builtin.clear_ #[t] ty #[.slice (some ⟨b,o,none⟩) n c]).run P w=.ok (.tuple #[]) (w.setRow b (cur.toList.take o++zs++cur.toList.drop (o+zs.length)).toArray):=by
  have hzl:=RV z.cells n
  have hst:=run_storeCells_at P b o t' (Builtin.zeroCells z.cells n).toList 0 cur w hg (by rw [Nat.add_zero,hzl];exact hfit) (fun v hv'=>by
    simp only [Builtin.zeroCells,Array.toList_map,List.mem_map] at hv'
    obtain ⟨j,hj,rfl⟩:=hv'
    have hj:j<n*z.cells.size:=by simpa using hj
    have hp:0<z.cells.size:=by
      rcases Nat.eq_zero_or_pos z.cells.size with h|h
      ·rw [h] at hj;omega
      ·exact h
    have hm:=Nat.mod_lt j hp
    refine h1 _ ?_
    rw [getElem!_pos z.cells (j % z.cells.size) hm]
    exact Array.getElem_mem_toList ..)
  simp only [Nat.add_zero] at hst
  obtain ⟨m,rfl⟩:∃m,n=m+1:=⟨n-1,by omega⟩
  exact ⟨_,hzl,by simp [Builtin.clear_,run_underlying ht,hv,hst]⟩
theorem sC {P:Program} {t e ty:TypeId} {i:TI} (T:Qb P t i) {τ:Ty} {bytes:Nat} (he:i.elem=some (e,τ,bytes)) {h:List Fa} {β:List (Nat×Nat)} {X:Nat→Prop} {w:World} {A:Option Addr} {b c:Nat} {xs ys:List (El τ)} {u:Value} (hc0:c=0→xs=[]) (hA:0<c→A=some ⟨b,0,none⟩) (hcm:c≤maxLen)
    (hrow:0<c→∃us junk,w.heap[b]? =some (.cells (us++junk).toArray e (0,0))∧F2 (Ri w (Ka h β) X) (Mb τ xs) us∧(us++junk).length=c*sz τ) (hx:ML w (Ka h β) X τ ys u) (hp:0<ys.length) (hb:xs.length+ys.length≤33554432) :
    ∃g c2 us junk w',(Builtin.append_ #[t,t] ty #[.slice A xs.length c,u]).run P w=.ok (.slice (some ⟨g,0,none⟩) (xs++ys).length c2) w'∧(0<c∧g=b∨w.heap.size≤g)∧0<c2∧c2≤maxLen∧w'.heap[g]? =some (.cells (us++junk).toArray e (0,0))∧F2 (Ri w (Ka h β) X) (Mb τ (xs++ys)) us∧(us++junk).length=c2*sz τ∧(∀j,j<w.heap.size→(0<c→j≠b)→w'.heap[j]? =w.heap[j]?)∧w'.os=w.os∧w'.tape=w.tape∧w'.output=w.output∧w.heap.size≤w'.heap.size:=by
  obtain ⟨hund,⟨inf,z,g2,g3,g4,g5,g6⟩,hsm⟩:=T.el e τ bytes he
  rcases Nat.eq_zero_or_pos c with hc|hc
  ·subst hc
   obtain rfl:=hc0 rfl
   obtain ⟨g,c2,junk,news,w',hrun,hg,hcp,hcm2,hh,hF,hl,hbw⟩:=WT (C:=⟨w,h,β,0,X⟩) (st:=⟨[],h⟩) T he rfl (A0:=A) (ty:=ty) hx hp (by simpa using hb)
   exact ⟨g,c2,news,junk,w',hrun,.inr hg,hcp,hcm2,hh,hF,hl,fun j hj _=>hbw.block j hj,hbw.os,hbw.tape,hbw.output,hbw.size⟩
  ·obtain ⟨us,junk,q1,q2,q4⟩:=hrow hc
   obtain ⟨Ax,cx,rfl,hx⟩:=hx
   obtain ⟨bx,px,news,rfl,hcx,hrx⟩:=hx hp
   have h1x:=Kl hrx
   have hbytes:(xs.length+ys.length)*bytes≤140737488355328:=by
     have:=Nat.mul_le_mul hb hsm
     omega
   obtain rfl:=hA hc
   have hlen:xs.length≤c:=by
     have:xs.length*sz τ≤c*sz τ:=by rw [←q4,←Pd,←q2.1];simp
     exact Nat.le_of_mul_le_mul_right this (Ij τ)
   have hown:w.ownsRow 0 e (sz τ) (.slice (some ⟨b,0,none⟩) xs.length c) xs.length us:=⟨by rw [q2.1,Pd],.inr ⟨b,c,(us++junk).toArray,rfl,Nat.zero_le _,q1,hlen,hcm,by simpa using q4,by rw [←Pd,←q2.1];simp⟩⟩
   obtain ⟨v',w',hrun,hown',hgr,hnil,hor⟩:=run_append_own_at (P:=P) (w:=w) 0 t ty e inf z (sz τ) bytes hund g2 g3 g4 g5 g6 (Ij τ) _ xs.length us hown ⟨bx,px,none⟩ ys.length cx news (by rw [hrx.1,Pd]) (fun j u hu=>by rw [Hl];exact hcx j u hu) h1x (by unfold maxLen;omega) hbytes (Nat.zero_le _)
   obtain ⟨g,c2,junk2,rfl,hh,hl,hmx,hle2⟩:=NL hown' (fun e=>by have:=(hnil.1 e).1;cases this)
   have hg:g=b∨w.heap.size≤g:=by
     rcases hor with e|e
     ·simp [Value.ownBlock] at e;exact .inl e
     ·simp [Value.ownBlock] at e;exact .inr (by omega)
   have hlen2:(xs++ys).length=xs.length+ys.length:=List.length_append
   refine ⟨g,c2,us++news,junk2,w',by rw [hlen2];exact hrun,hg.imp (fun h=>⟨hc,h⟩) id,by omega,hmx,hh,by rw [Aq];exact q2.app hrx,hl,fun j hj hne=>hgr.block j hj (by simpa [Value.ownBlock] using hne hc),hgr.os,hgr.tape,hgr.output,hgr.size⟩
end
end Go.Proofs.YtjffopopheiinaaGreatDoor
section
namespace Go.Proofs.YtjffopopheiinaaGreatDoor
open Go.RowKit
def Ch (n:Int) (ls:List Lk) (i:Nat):Prop :=
  0≤(lk ls i).a∧(lk ls i).a<(lk ls i).b∧(lk ls i).b<n∧1≤(lk ls i).c∧(lk ls i).c≤20 ∧
   (0<i→(lk ls (i-1)).a<(lk ls i).a∨(lk ls (i-1)).a=(lk ls i).a∧(lk ls (i-1)).b<(lk ls i).b)
instance (n:Int) (ls:List Lk) (i:Nat):Decidable (Ch n ls i):=by unfold Ch;infer_instance
def GV (n:Int) (ls:List Lk):Prop:=1≤n∧n≤8∧ls.length≤14∧∀i,i<ls.length→Ch n ls i
instance (n:Int) (ls:List Lk):Decidable (GV n ls):=by unfold GV;infer_instance
def gv (n:Int) (ls:List Lk):Bool:=decide (GV n ls)
theorem Py {n:Int} {ls:List Lk} (h:gv n ls=true):GV n ls:=oT h
theorem SV {n:Int} {ls:List Lk} (h:¬GV n ls):gv n ls=false:=dF h
theorem cE {n:Int} {ls:List Lk} {k:Nat} (hk:k<ls.length) (h:1≤n→n≤8→¬Ch n ls k):gv n ls=false :=
  SV fun g=>h g.1 g.2.1 (g.2.2.2 k hk)
theorem sD {n:Int} {ls:List Lk} {k:Nat} (hl:ls.length=k) (h:1≤n→n≤8→∀i,i<k→Ch n ls i):gv n ls=(Db n 1 8&&decide ((k:Int)≤14)):=by
  subst hl
  unfold gv GV Db
  by_cases h1:1≤n∧n≤8
  ·by_cases h2:ls.length≤14
   ·have h3:=h h1.1 h1.2
    have:((ls.length:Nat):Int)≤14:=by omega
    simp [h1,h2,this]
    exact fun i hi=>h3 i hi
   ·have:¬((ls.length:Nat):Int)≤14:=by omega
    simp [h1,h2,this]
  ·have:¬(1≤n∧n≤8∧ls.length≤14∧∀i,i<ls.length→Ch n ls i):=fun g=>h1 ⟨g.1,g.2.1⟩
   simp [this,h1]
end Go.Proofs.YtjffopopheiinaaGreatDoor
namespace Go.Proofs.YtjffopopheiinaaGreatDoor
open Go.RowKit
def Vq (d:List Int) (x y:Nat) (c:Int):Bool:=decide (0≤iz d x)&&(decide (iz d y<0)||decide (iz d x+c<iz d y))
def relax (d:List Int) (x y:Nat) (c:Int):List Int:=if Vq d x y c then d.set y (iz d x+c) else d
def Ye (d:List Int) (l:Lk):List Int:=relax (relax d l.a.toNat l.b.toNat l.c) l.b.toNat l.a.toNat l.c
def Qy (ls:List Lk) (d:List Int):List Int:=ls.foldl Ye d
def Hi (n f:Nat):List Int:=(List.replicate n (-1)).set f 0
def Vi (ls:List Lk) (d:List Int):Nat→List Int
  |0=>d
  |k+1=>Qy ls (Vi ls d k)
def dst (n:Nat) (ls:List Lk) (f r i:Nat):List Int:=(ls.take i).foldl Ye (Vi ls (Hi n f) r)
def Tb (n:Nat) (ls:List Lk) (f:Nat):List Int:=Vi ls (Hi n f) n
theorem Pj (d:List Int) (y j:Nat) (v:Int) (hy:y<d.length):iz (d.set y v) j=if j=y then v else iz d j:=by
  unfold iz
  simp only [List.getD,List.getElem?_set]
  by_cases h:y=j
  ·subst h;simp [hy]
  ·have h':¬j=y:=fun e=>h e.symm
   simp [h,h']
theorem TM (d:List Int) (x y:Nat) (c:Int):(relax d x y c).length=d.length:=by unfold relax;split<;>simp
theorem TV (d:List Int) (l:Lk):(Ye d l).length=d.length:=by unfold Ye;rw [TM,TM]
theorem cG (ls:List Lk) (d:List Int):(ls.foldl Ye d).length=d.length:=by
  induction ls generalizing d with
  |nil=>rfl
  |cons l r ih=>rw [List.foldl_cons,ih,TV]
theorem ED (ls:List Lk) (d:List Int) (k:Nat):(Vi ls d k).length=d.length:=by
  induction k with
  |zero=>rfl
  |succ k ih=>rw [Vi,Qy,cG,ih]
theorem Wq (n f:Nat):(Hi n f).length=n:=by simp [Hi]
theorem cH (n:Nat) (ls:List Lk) (f r i:Nat):(dst n ls f r i).length=n:=by rw [dst,cG,ED,Wq]
theorem Rl (n:Nat) (ls:List Lk) (f:Nat):(Tb n ls f).length=n:=by rw [Tb,ED,Wq]
theorem cI (n:Nat) (ls:List Lk) (f r i:Nat) (h:i<ls.length):dst n ls f r (i+1)=Ye (dst n ls f r i) (lk ls i):=by
  unfold dst
  rw [List.take_add_one,QB h,List.foldl_append]
  rfl
theorem cJ (n:Nat) (ls:List Lk) (f r:Nat):dst n ls f r ls.length=dst n ls f (r+1) 0:=by
  unfold dst
  rw [List.take_length]
  rfl
def Ok (ls:List Lk):Prop:=∀l∈ls,1≤l.c∧l.c≤20
def Bd (d:List Int) (m:Int):Prop:=∀j,-1≤iz d j∧iz d j≤m
theorem UM {d:List Int} {m:Int} (h:Bd d m) (x y:Nat) (c:Int) (hc:1≤c) (hc':c≤20):Bd (relax d x y c) (m+20):=by
  intro j
  unfold relax
  have hx:=h x
  have hj:=h j
  split
  ·rename_i hb
   rcases Nat.lt_or_ge y d.length with hy|hy
   ·rw [Pj _ _ _ _ hy]
    unfold Vq at hb
    simp only [Bool.and_eq_true,decide_eq_true_eq] at hb
    split
    ·omega
    ·omega
   ·rw [List.set_eq_of_length_le hy];omega
  ·omega
theorem sE {d:List Int} {m:Int} (h:Bd d m) (l:Lk) (hc:1≤l.c∧l.c≤20):Bd (Ye d l) (m+40):=by
  have:=UM (UM h l.a.toNat l.b.toNat l.c hc.1 hc.2) l.b.toNat l.a.toNat l.c hc.1 hc.2
  intro j
  have:=this j
  unfold Ye
  omega
theorem cK (ls:List Lk) {d:List Int} {m:Int} (h:Bd d m) (hc:Ok ls):Bd (ls.foldl Ye d) (m+40*ls.length):=by
  induction ls generalizing d m with
  |nil=>simpa using h
  |cons l r ih =>
   rw [List.foldl_cons]
   have:=ih (sE h l (hc l (List.mem_cons_self ..))) (fun l' h'=>hc l' (List.mem_cons_of_mem _ h'))
   intro j
   have:=this j
   simp only [List.length_cons]
   omega
theorem sF (ls:List Lk) {d:List Int} {m:Int} (h:Bd d m) (hc:Ok ls) (k:Nat) (hl:ls.length≤14):Bd (Vi ls d k) (m+560*k):=by
  induction k with
  |zero=>simpa [Vi] using h
  |succ k ih =>
   have:=cK ls ih hc
   intro j
   have:=this j
   simp only [Vi,Qy]
   omega
theorem cL (n f:Nat):Bd (Hi n f) 0:=by
  intro j
  unfold Hi
  have hr:∀j,iz (List.replicate n (-1)) j= -1∨iz (List.replicate n (-1)) j=0:=by
    intro j
    unfold iz
    simp only [List.getD,List.getElem?_replicate]
    split<;>simp
  rcases Nat.lt_or_ge f n with hf|hf
  ·rw [Pj _ _ _ _ (by simpa using hf)]
   have:=hr j
   split<;>omega
  ·rw [List.set_eq_of_length_le (by simpa using hf)]
   have:=hr j
   omega
theorem UV (n:Nat) (ls:List Lk) (f r i:Nat) (hc:Ok ls) (hl:ls.length≤14) (hr:r≤8):Bd (dst n ls f r i) 5100:=by
  have h1:=sF ls (cL n f) hc r hl
  have h2:=cK (ls.take i) h1 (fun l h=>hc l (List.mem_of_mem_take h))
  have h3:(ls.take i).length≤14:=by rw [List.length_take];omega
  intro j
  have:=h2 j
  unfold dst
  omega
theorem GV.cheap {n:Int} {ls:List Lk} (h:GV n ls):Ok ls:=by
  intro l hl
  obtain ⟨i,hi,rfl⟩:=List.getElem_of_mem hl
  have:=h.2.2.2 i hi
  rw [Ch,K7 (List.getElem?_eq_getElem hi)] at this
  omega
theorem GV.at_ {n:Int} {ls:List Lk} (h:GV n ls) {i:Nat} (hi:i<ls.length):∃x y:Nat,(lk ls i).a=x∧(lk ls i).b=y∧x<y∧(y:Int)<n∧1≤(lk ls i).c∧(lk ls i).c≤20:=by
  have:=h.2.2.2 i hi
  unfold Ch at this
  exact ⟨(lk ls i).a.toNat,(lk ls i).b.toNat,by omega,by omega,by omega,by omega,by omega,by omega⟩
end Go.Proofs.YtjffopopheiinaaGreatDoor
namespace Go.Proofs.YtjffopopheiinaaGreatDoor
open Go.RowKit
structure Qj (d:List Int) (f:Nat):Prop where
  zero:iz d f=0
  low:∀j,-1≤iz d j
  only:∀j,j<d.length→iz d j=0→j=f
theorem Qj.relax {d:List Int} {f:Nat} (h:Qj d f) (x y:Nat) (c:Int) (hc:1≤c):Qj (relax d x y c) f:=by
  unfold Go.Proofs.YtjffopopheiinaaGreatDoor.relax
  split
  ·rename_i hb
   unfold Vq at hb
   simp only [Bool.and_eq_true,Bool.or_eq_true,decide_eq_true_eq] at hb
   rcases Nat.lt_or_ge y d.length with hy|hy
   ·have hyf:y≠f:=by rintro rfl;have:=h.zero;omega
    refine ⟨?_,fun j=>?_,fun j hj hz=>?_⟩
    ·rw [Pj _ _ _ _ hy,if_neg (fun e=>hyf e.symm)];exact h.zero
    ·rw [Pj _ _ _ _ hy];have:=h.low j;split<;>omega
    ·rw [List.length_set] at hj
     rw [Pj _ _ _ _ hy] at hz
     split at hz
     ·omega
     ·exact h.only j hj hz
   ·rw [List.set_eq_of_length_le hy];exact h
  ·exact h
theorem Qj.fold {f:Nat} (ls:List Lk) {d:List Int} (h:Qj d f) (hc:Ok ls):Qj (ls.foldl Ye d) f:=by
  induction ls generalizing d with
  |nil=>exact h
  |cons l r ih =>
   have h1:=(hc l (List.mem_cons_self ..)).1
   exact ih ((h.relax _ _ _ h1).relax _ _ _ h1) (fun l' h'=>hc l' (List.mem_cons_of_mem _ h'))
theorem Qj.rounds {f:Nat} (ls:List Lk) {d:List Int} (h:Qj d f) (hc:Ok ls) (k:Nat):Qj (Vi ls d k) f:=by
  induction k with
  |zero=>exact h
  |succ k ih=>exact ih.fold ls hc
theorem Qj.init {n f:Nat} (hf:f<n):Qj (Hi n f) f:=by
  have hr:∀j,j<n→iz (List.replicate n (-1)) j= -1:=by
    intro j hj
    simp [iz,List.getD,hj]
  refine ⟨?_,fun j=>(cL n f j).1,fun j hj hz=>?_⟩
  ·unfold Hi;rw [Pj _ _ _ _ (by simpa using hf),if_pos rfl]
  ·rw [Wq] at hj
   unfold Hi at hz
   rw [Pj _ _ _ _ (by simpa using hf)] at hz
   split at hz
   ·assumption
   ·rw [hr j hj] at hz;omega
end Go.Proofs.YtjffopopheiinaaGreatDoor
namespace Go.Proofs.YtjffopopheiinaaGreatDoor
open Go.RowKit
def Uf (ls:List Lk) (x y:Nat) (c:Int):Prop:=∃l,l∈ls∧l.c=c∧(l.a=x∧l.b=y∨l.a=y∧l.b=x)
theorem Uf.symm {ls:List Lk} {x y:Nat} {c:Int} (h:Uf ls x y c):Uf ls y x c:=by
  obtain ⟨l,h1,h2,h3⟩:=h
  exact ⟨l,h1,h2,h3.symm⟩
inductive Wk (ls:List Lk) (u:Nat):Nat→Nat→Int→Prop
  |nil:Wk ls u 0 u 0
  |step {k x y:Nat} {s c:Int}:Wk ls u k x s→Uf ls x y c→Wk ls u (k+1) y (s+c)
theorem Wk.append {ls:List Lk} {u v:Nat} {k:Nat} {s:Int} (h:Wk ls u k v s) {m w:Nat} {t:Int} (h':Wk ls v m w t):Wk ls u (k+m) w (s+t):=by
  induction h' with
  |nil=>simpa using h
  |step _ ha ih=>rw [←Int.add_assoc];exact ih.step ha
theorem Wk.one {ls:List Lk} {x y:Nat} {c:Int} (h:Uf ls x y c):Wk ls x 1 y c:=by simpa using Wk.nil.step h
theorem Wk.symm {ls:List Lk} {u v k:Nat} {s:Int} (h:Wk ls u k v s):Wk ls v k u s:=by
  induction h with
  |nil=>exact .nil
  |step _ ha ih =>
   have:=(Wk.one ha.symm).append ih
   rwa [Nat.add_comm,Int.add_comm] at this
theorem Wk.mono {ls ls':List Lk} (hs:∀x y c,Uf ls x y c→Uf ls' x y c) {u v k:Nat} {s:Int} (h:Wk ls u k v s):Wk ls' u k v s:=by
  induction h with
  |nil=>exact .nil
  |step _ ha ih=>exact ih.step (hs _ _ _ ha)
theorem Wk.cost {ls:List Lk} (hc:Ok ls) {u v k:Nat} {s:Int} (h:Wk ls u k v s):(k:Int)≤s:=by
  induction h with
  |nil=>simp
  |step _ ha ih =>
   obtain ⟨l,h1,h2,_⟩:=ha
   have:=(hc l h1).1
   omega
theorem Wk.path {ls:List Lk} {u v k:Nat} {s:Int} (h:Wk ls u k v s):∃(g:Nat→Nat) (t:Nat→Int),g 0=u∧t 0=0∧g k=v∧t k=s∧∀i,i<k→Uf ls (g i) (g (i+1)) (t (i+1)-t i):=by
  induction h with
  |nil=>exact ⟨fun _=>u,fun _=>0,rfl,rfl,rfl,rfl,fun i hi=>by omega⟩
  |@step k x y s c _ ha ih =>
   obtain ⟨g,t,g0,t0,gk,tk,hs⟩:=ih
   refine ⟨fun i=>if i≤k then g i else y,fun i=>if i≤k then t i else s+c,by simp [g0],by simp [t0],by simp;intro h;omega,by simp;intro h;omega,fun i hi=>?_⟩
   by_cases e:i<k
   ·have h1:i≤k:=by omega
    have h2:i+1≤k:=by omega
    simpa [h1,h2] using hs i e
   ·obtain rfl:i=k:=by omega
    have h2:¬i+1≤i:=by omega
    simp only [Nat.le_refl,if_true,h2,if_false,gk,tk]
    rwa [show s+c-s=c by omega]
theorem Wk.between {ls:List Lk} {g:Nat→Nat} {t:Nat→Int} {i:Nat}:∀m:Nat,(∀j,i≤j→j<i+m→Uf ls (g j) (g (j+1)) (t (j+1)-t j))→Wk ls (g i) m (g (i+m)) (t (i+m)-t i)
  |0,_=>by simpa using Wk.nil
  |m+1,h=>by
   have:=(Wk.between m (fun j h1 h2=>h j h1 (by omega))).step (h (i+m) (by omega) (by omega))
   rwa [show t (i+m)-t i+(t (i+m+1)-t (i+m))=t (i+(m+1))-t i by rw [←Nat.add_assoc];omega] at this
theorem cM:∀(n:Nat) (g:Nat→Nat),(∀i,i≤n→g i<n)→∃i j,i<j∧j≤n∧g i=g j
  |0,g,h=>by have:=h 0 (Nat.le_refl _);omega
  |n+1,g,h=>by
   by_cases e:∃i,i≤n∧g i=g (n+1)
   ·obtain ⟨i,hi,he⟩:=e
    exact ⟨i,n+1,by omega,Nat.le_refl _,he⟩
   ·have hne:∀i,i≤n→g i≠g (n+1):=fun i hi he=>e ⟨i,hi,he⟩
    obtain ⟨i,j,h1,h2,h3⟩:=cM n (fun i=>if g (n+1)<g i then g i-1 else g i) (fun i hi=>by
      have a:=h i (by omega)
      have b:=h (n+1) (Nat.le_refl _)
      have c:=hne i hi
      show (if g (n+1)<g i then g i-1 else g i)<n
      split<;>omega)
    refine ⟨i,j,h1,by omega,?_⟩
    have a:=hne i (by omega)
    have b:=hne j h2
    have h3:(if g (n+1)<g i then g i-1 else g i)=(if g (n+1)<g j then g j-1 else g j):=h3
    split at h3<;>split at h3<;>omega
def Xq (n:Nat) (ls:List Lk):Prop:=∀l∈ls,∃x y:Nat,l.a=x∧l.b=y∧x<n∧y<n
theorem GV.ends {n:Nat} {ls:List Lk} (h:GV n ls):Xq n ls:=by
  intro l hl
  obtain ⟨i,hi,rfl⟩:=List.getElem_of_mem hl
  have:=h.at_ hi
  rw [K7 (List.getElem?_eq_getElem hi)] at this
  obtain ⟨x,y,h1,h2,h3,h4,_⟩:=this
  exact ⟨x,y,h1,h2,by omega,by omega⟩
theorem Uf.lt {n:Nat} {ls:List Lk} (he:Xq n ls) {x y:Nat} {c:Int} (h:Uf ls x y c):x<n∧y<n:=by
  obtain ⟨l,h1,_,h3⟩:=h
  obtain ⟨a,b,ha,hb,ha',hb'⟩:=he l h1
  rcases h3 with ⟨e1,e2⟩|⟨e1,e2⟩<;>omega
theorem Wk.short {n:Nat} {ls:List Lk} (he:Xq n ls) (hc:Ok ls):∀(k:Nat) {u v:Nat} {s:Int},Wk ls u k v s→u<n→∃k' s',k'<n∧s'≤s∧Wk ls u k' v s':=by
  intro k
  induction k using Nat.strongRecOn with
  |ind k ih =>
   intro u v s h hu
   by_cases hk:k<n
   ·exact ⟨k,s,hk,Int.le_refl _,h⟩
   ·obtain ⟨g,t,g0,t0,gk,tk,hs⟩:=h.path
    obtain ⟨i,j,h1,h2,h3⟩:=cM n g (fun i hi=>by
      rcases Nat.eq_zero_or_pos i with e|e
      ·rw [e,g0];exact hu
      ·have:=(hs (i-1) (by omega)).lt he
       rw [show i-1+1=i by omega] at this
       exact this.2)
    have w1:=Wk.between (ls:=ls) (g:=g) (t:=t) (i:=0) i (fun m _ hm=>hs m (by omega))
    have w2:=Wk.between (ls:=ls) (g:=g) (t:=t) (i:=i) (j-i) (fun m _ hm=>hs m (by omega))
    have w3:=Wk.between (ls:=ls) (g:=g) (t:=t) (i:=j) (k-j) (fun m _ hm=>hs m (by omega))
    rw [show i+(j-i)=j by omega] at w2
    rw [show j+(k-j)=k by omega,gk,tk,←h3] at w3
    rw [Nat.zero_add,g0,t0] at w1
    have c2:=w2.cost hc
    obtain ⟨k',s',a,b,c⟩:=ih (i+(k-j)) (by omega) (w1.append w3) hu
    exact ⟨k',s',a,by omega,c⟩
def Mh (ls:List Lk) (f:Nat) (d:List Int):Prop:=∀v,v<d.length→0≤iz d v→∃k,Wk ls f k v (iz d v)
theorem Mh.relax {ls:List Lk} {f:Nat} {d:List Int} (h:Mh ls f d) {x y:Nat} {c:Int} (hx:x<d.length) (ha:Uf ls x y c):Mh ls f (relax d x y c):=by
  unfold Go.Proofs.YtjffopopheiinaaGreatDoor.relax
  split
  ·rename_i hb
   unfold Vq at hb
   simp only [Bool.and_eq_true,decide_eq_true_eq] at hb
   intro v hv hz
   rw [List.length_set] at hv
   rcases Nat.lt_or_ge y d.length with hy|hy
   ·rw [Pj _ _ _ _ hy] at hz ⊢
    split
    ·rename_i e;subst e
     obtain ⟨k,hw⟩:=h x hx hb.1
     exact ⟨k+1,hw.step ha⟩
    ·rename_i e
     rw [if_neg e] at hz
     exact h v hv hz
   ·rw [List.set_eq_of_length_le hy] at hz ⊢
    exact h v hv hz
  ·exact h
theorem Mh.fold {ls:List Lk} {f n:Nat} (he:Xq n ls):∀(ms:List Lk) {d:List Int},(∀l∈ms,l∈ls)→d.length=n→Mh ls f d→Mh ls f (ms.foldl Ye d)
  |[],_,_,_,h=>h
  |l::r,d,hm,hl,h=>by
   obtain ⟨x,y,hx,hy,hxn,hyn⟩:=he l (hm l (List.mem_cons_self ..))
   have a1:Uf ls x y l.c:=⟨l,hm l (List.mem_cons_self ..),rfl,.inl ⟨hx,hy⟩⟩
   refine Mh.fold he r (fun l' h'=>hm l' (List.mem_cons_of_mem _ h')) (by rw [TV];exact hl) ?_
   unfold Ye
   rw [hx,hy,Int.toNat_natCast,Int.toNat_natCast]
   exact (h.relax (by omega) a1).relax (by rw [TM];omega) a1.symm
theorem Mh.rounds {ls:List Lk} {f n:Nat} (he:Xq n ls) {d:List Int} (hl:d.length=n) (h:Mh ls f d) (k:Nat):Mh ls f (Vi ls d k):=by
  induction k with
  |zero=>exact h
  |succ k ih=>exact Mh.fold he ls (fun l h=>h) (by rw [ED];exact hl) ih
theorem Mh.init {ls:List Lk} {f n:Nat} (hf:f<n):Mh ls f (Hi n f):=by
  intro v hv hz
  rw [Wq] at hv
  unfold Hi at hz ⊢
  rw [Pj _ _ _ _ (by simpa using hf)] at hz ⊢
  by_cases e:v=f
  ·subst e;rw [if_pos rfl];exact ⟨0,.nil⟩
  ·rw [if_neg e] at hz
   simp [iz,List.getD,hv] at hz
def Le (d' d:List Int):Prop:=∀v,0≤iz d v→0≤iz d' v∧iz d' v≤iz d v
theorem Le.refl (d:List Int):Le d d:=fun _ h=>⟨h,Int.le_refl _⟩
theorem Le.trans {a b c:List Int} (h:Le a b) (k:Le b c):Le a c:=fun v hv=>by
  have h1:=k v hv
  have h2:=h v h1.1
  exact ⟨h2.1,by omega⟩
theorem Le.relax (d:List Int) (x y:Nat) (c:Int) (hc:0≤c):Le (relax d x y c) d:=by
  unfold Go.Proofs.YtjffopopheiinaaGreatDoor.relax
  split
  ·rename_i hb
   unfold Vq at hb
   simp only [Bool.and_eq_true,Bool.or_eq_true,decide_eq_true_eq] at hb
   intro v hv
   rcases Nat.lt_or_ge y d.length with hy|hy
   ·rw [Pj _ _ _ _ hy]
    split
    ·rename_i e;subst e;omega
    ·exact ⟨hv,Int.le_refl _⟩
   ·rw [List.set_eq_of_length_le hy];exact ⟨hv,Int.le_refl _⟩
  ·exact Le.refl d
theorem cN (d:List Int) (x y:Nat) (c:Int) (hy:y<d.length) (hx:0≤iz d x) (hc:0≤c):0≤iz (relax d x y c) y∧iz (relax d x y c) y≤iz d x+c:=by
  unfold relax
  split
  ·rw [Pj _ _ _ _ hy,if_pos rfl];omega
  ·rename_i hb
   unfold Vq at hb
   simp only [Bool.and_eq_true,Bool.or_eq_true,decide_eq_true_eq] at hb
   omega
theorem Le.link (d:List Int) (l:Lk) (hc:0≤l.c):Le (Ye d l) d:=(Le.relax _ _ _ _ hc).trans (Le.relax _ _ _ _ hc)
theorem Le.fold (ms:List Lk) (hc:Ok ms):∀d,Le (ms.foldl Ye d) d:=by
  induction ms with
  |nil=>exact Le.refl
  |cons l r ih=>exact fun d=>(ih (fun l' h'=>hc l' (List.mem_cons_of_mem _ h')) _).trans (Le.link d l (by have:=(hc l (List.mem_cons_self ..)).1;omega))
theorem sG {n:Nat} (ms:List Lk) (he:Xq n ms) (hc:Ok ms) {x y:Nat} {c:Int} (ha:Uf ms x y c):∀d:List Int,d.length=n→0≤iz d x →
    0≤iz (ms.foldl Ye d) y∧iz (ms.foldl Ye d) y≤iz d x+c:=by
  induction ms with
  |nil=>obtain ⟨l,h,_⟩:=ha;simp at h
  |cons l r ih =>
   intro d hl hx
   have hcl:=hc l (List.mem_cons_self ..)
   obtain ⟨m,h1,h2,h3⟩:=ha
   rw [List.foldl_cons]
   have hle:=Le.link d l (by omega)
   rcases List.mem_cons.1 h1 with e|e
   ·subst e
    obtain ⟨a,b,e1,e2,han,hbn⟩:=he m (List.mem_cons_self ..)
    have key:0≤iz (Ye d m) y∧iz (Ye d m) y≤iz d x+c:=by
      unfold Ye
      rw [e1,e2,Int.toNat_natCast,Int.toNat_natCast]
      rcases h3 with ⟨h4,h5⟩|⟨h4,h5⟩
      ·obtain rfl:a=x:=by omega
       obtain rfl:b=y:=by omega
       have p:=cN d a b m.c (by omega) hx (by omega)
       have q:=Le.relax (relax d a b m.c) b a m.c (by omega) b p.1
       omega
      ·obtain rfl:a=y:=by omega
       obtain rfl:b=x:=by omega
       have p:=Le.relax d a b m.c (by omega) b hx
       have q:=cN (relax d a b m.c) b a m.c (by rw [TM];omega) p.1 (by omega)
       omega
    have:=Le.fold r (fun l' h'=>hc l' (List.mem_cons_of_mem _ h')) (Ye d m) y key.1
    omega
   ·have hx':=hle x hx
    have:=ih (fun l' h'=>he l' (List.mem_cons_of_mem _ h')) (fun l' h'=>hc l' (List.mem_cons_of_mem _ h')) ⟨m,e,h2,h3⟩ (Ye d l) (by rw [TV];exact hl) hx'.1
    omega
theorem sH {n f:Nat} {ls:List Lk} (he:Xq n ls) (hc:Ok ls) (hf:f<n) {k v:Nat} {s:Int} (h:Wk ls f k v s):∀r,k≤r→0≤iz (Vi ls (Hi n f) r) v∧iz (Vi ls (Hi n f) r) v≤s:=by
  induction h with
  |nil =>
   intro r _
   have:=((Qj.init hf).rounds ls hc r).zero
   omega
  |@step k x y s c hw ha ih =>
   intro r hr
   obtain ⟨r',rfl⟩:∃r',r=r'+1:=⟨r-1,by omega⟩
   have h1:=ih r' (by omega)
   have:=sG ls he hc ha (Vi ls (Hi n f) r') (by rw [ED,Wq]) h1.1
   show 0≤iz (Qy ls _) y∧iz (Qy ls _) y≤s+c
   unfold Qy
   omega
theorem Ry {n f:Nat} {ls:List Lk} (h:GV n ls) (hf:f<n) {k v:Nat} {s:Int} (hw:Wk ls f k v s):0≤iz (Tb n ls f) v∧iz (Tb n ls f) v≤s:=by
  obtain ⟨k',s',hk',hs',hw'⟩:=Wk.short h.ends h.cheap k hw hf
  have:=sH h.ends h.cheap hf hw' n (by omega)
  unfold Tb
  omega
theorem VM {n f:Nat} {ls:List Lk} (h:GV n ls) (hf:f<n) {v:Nat} (hv:v<n) (hz:0≤iz (Tb n ls f) v):∃k,Wk ls f k v (iz (Tb n ls f) v) :=
  (Mh.rounds h.ends (Wq n f) (Mh.init hf) n) v (by rw [ED,Wq];exact hv) hz
end Go.Proofs.YtjffopopheiinaaGreatDoor
namespace Go.Proofs.YtjffopopheiinaaGreatDoor
open Go.RowKit
def Ba {α:Type} (o:Option α) (Q:α→Prop):Prop:=∃r,o=some r∧Q r
theorem Ba.some {α:Type} {x:α} {Q:α→Prop} (h:Q x):Ba (some x) Q:=⟨x,rfl,h⟩
theorem Ba.mono {α:Type} {o:Option α} {Q R:α→Prop} (h:Ba o Q) (k:∀x,Q x→R x):Ba o R:=by
  obtain ⟨r,h1,h2⟩:=h;exact ⟨r,h1,k r h2⟩
theorem Ba.bind {α β:Type} {o:Option α} {f:α→Option β} {Q:β→Prop} (h:Ba o fun x=>Ba (f x) Q):Ba (o.bind f) Q:=by
  obtain ⟨x,rfl,y,h1,h2⟩:=h;exact ⟨y,h1,h2⟩
theorem Ba.bnd {α β:Type} {o:Option α} {R:α→Prop} {f:α→Option β} {Q:β→Prop} (h:Ba o R) (k:∀x,R x→Ba (f x) Q):Ba (o.bind f) Q:=Ba.bind (h.mono k)
theorem Ba.ite {α:Type} {c:Bool} {a b:Option α} {Q:α→Prop} (h:c=true→Ba a Q) (k:c=false→Ba b Q):Ba (bif c then a else b) Q:=by
  cases c with
  |true=>exact h rfl
  |false=>exact k rfl
theorem Ba.gd {α:Type} {c:Bool} {a b:Option α} {Q:α→Prop} (hc:c=true) (h:Ba a Q):Ba (bif c then a else b) Q:=by subst hc;exact h
theorem Ba.no {α:Type} {c:Bool} {a b:Option α} {Q:α→Prop} (hc:c=false) (h:Ba b Q):Ba (bif c then a else b) Q:=by subst hc;exact h
theorem Ba.out {α:Type} {o:Option α} {x:α} (h:Ba o (·=x)):o=Option.some x:=by obtain ⟨r,h1,h2⟩:=h;rw [h1,h2]
theorem Ba.loop {σ τ:Type} {B:σ→Option (σ⊕τ)} (I:σ→Prop) (μ:σ→Nat) {Q:τ→Prop} (hB:∀s,I s→Ba (B s) fun r=>match r with| .inl s'=>I s'∧μ s'<μ s| .inr x=>Q x):∀(n:Nat) (s:σ),μ s<n→I s→Ba (lp B n s) Q
  |0,_,h,_=>by omega
  |n+1,s,h,hi=>by
   unfold Go.Proofs.YtjffopopheiinaaGreatDoor.lp
   refine Ba.bnd (hB s hi) fun r hr=>?_
   cases r with
   |inl s'=>exact Ba.loop I μ hB n s' (by have:=hr.2;omega) hr.1
   |inr x=>exact .some hr
theorem Ba.count {σ τ:Type} {B:σ→Option (σ⊕τ)} (n:Nat) (I:Nat→σ→Prop) {Q:τ→Prop} (hB:∀k s,k≤n→I k s→Ba (B s) fun r=>match r with| .inl s'=>k<n∧I (k+1) s'| .inr x=>Q x) {m:Nat} {s:σ} {k:Nat} (hk:k≤n) (hm:n-k<m) (h:I k s):Ba (lp B m s) Q:=by
  induction m generalizing s k with
  |zero=>omega
  |succ m ih =>
   unfold Go.Proofs.YtjffopopheiinaaGreatDoor.lp
   refine Ba.bnd (hB k s hk h) fun r hr=>?_
   cases r with
   |inl s'=>exact ih (k:=k+1) (by have:=hr.1;omega) (by omega) hr.2
   |inr x=>exact .some hr
theorem Na {x:Int} (h1: -9223372036854775808≤x) (h2:x≤9223372036854775807):wrap64 x=x:=IntWalk.wrap64_in x (by omega)
theorem wI {x:Int} (h1: -9223372036854775808≤x) (h2:x≤9223372036854775807):Qd .i64 x=x:=Na h1 h2
theorem Ia {z:Int} {n:Nat} (h1:0≤z) (h2:z<n):Ca z n=true:=by simp [Ca,h1,h2]
theorem WM {lo hi:Int} {n:Nat} (h1:0≤lo) (h2:lo≤hi) (h3:hi≤n):Gg lo hi n=true:=by simp [Gg,h1,h2,h3]
end Go.Proofs.YtjffopopheiinaaGreatDoor
namespace Go.Proofs.YtjffopopheiinaaGreatDoor
open Go.RowKit
def Yq (zs:List Int) (n:Int):Prop:=∀i,i<zs.length→0≤iz zs i∧iz zs i<n∧(0<i→iz zs (i-1)<iz zs i)
instance (zs:List Int) (n:Int):Decidable (Yq zs n):=by unfold Yq;infer_instance
def XM (zs:List Int) (n:Int):Bool:=decide (Yq zs n)
theorem Yq.le {zs:List Int} {n:Int} (h:Yq zs n) {i:Nat} (j:Nat) (hj:i+j<zs.length):iz zs i≤iz zs (i+j):=by
  induction j with
  |zero=>exact Int.le_refl _
  |succ j ih =>
   have h1:=(h (i+(j+1)) hj).2.2 (by omega)
   have h2:=ih (by omega)
   rw [show i+(j+1)-1=i+j by omega] at h1
   omega
def bv (n:Int) (ls:List Lk) (bs:List Int):Bool:=gv n ls&&decide (0<bs.length)&&XM bs n
def VV (d bs:List Int) (k:Nat):List Int:=(bs.take k).map fun b=>iz d b.toNat
def cO (n:Int) (ls:List Lk) (bs:List Int) (t:Int):List Int :=
  if bv n ls bs&&Db t 0 (n-1) then VV (Tb n.toNat ls t.toNat) bs bs.length else []
def cP (na:Int) (la:List Lk) (nb:Int) (lb:List Lk) (bs:List Int) (f t:Int):Bool:=(bv na la bs&&Db f 0 (na-1))&&(bv nb lb bs&&Db t 0 (nb-1))
structure cQ (na nb f t:Nat) (la lb:List Lk) (bs:List Int):Prop where
  va:gv na la=true
  vb:gv nb lb=true
  ga:GV na la
  gb:GV nb lb
  aa:Yq bs na
  ab:Yq bs nb
  pos:0<bs.length
  hf:f<na
  ht:t<nb
  one:cO na la bs f=VV (Tb na la f) bs bs.length
  two:cO nb lb bs t=VV (Tb nb lb t) bs bs.length
theorem cQ.ok {na nb f t:Nat} {la lb:List Lk} {bs:List Int} (h:cQ na nb f t la lb bs):cP na la nb lb bs f t=true:=by
  have i1:Db (f:Int) 0 ((na:Int)-1)=true:=Lx (by have:=h.hf;omega)
  have i2:Db (t:Int) 0 ((nb:Int)-1)=true:=Lx (by have:=h.ht;omega)
  simp [cP,bv,h.va,h.vb,i1,i2,h.pos,XM,h.aa,h.ab]
def Of (x y:Int) (l:Lk):Bool:=decide (l.a=x)&&decide (l.b=y)
def Ac (ls:List Lk) (a b:Int):Int:=if ls.findIdx (Of (min a b) (max a b))<ls.length then ls.findIdx (Of (min a b) (max a b)) else -1
theorem Ii {ls:List Lk} {i:Nat} (h:i<ls.length):lk ls i=ls[i]:=by simp [lk,List.getD,List.getElem?_eq_getElem h]
theorem cR {ls:List Lk} {a b:Int} {k:Nat} (hk:k<ls.length) (h1:Of (min a b) (max a b) (lk ls k)=true) (h:∀i,i<k→Of (min a b) (max a b) (lk ls i)=false):Ac ls a b=k:=by
  have e:ls.findIdx (Of (min a b) (max a b))=k:=(List.findIdx_eq hk).2 ⟨by rw [←Ii hk];exact h1,fun j hj=>by rw [←Ii (by omega)];exact h j hj⟩
  unfold Ac
  rw [e,if_pos hk]
theorem cS {ls:List Lk} {a b:Int} (h:∀i,i<ls.length→Of (min a b) (max a b) (lk ls i)=false):Ac ls a b= -1:=by
  have e:ls.findIdx (Of (min a b) (max a b))=ls.length:=List.findIdx_eq_length_of_false fun x hx=>by
    obtain ⟨i,hi,rfl⟩:=List.mem_iff_getElem.1 hx
    rw [←Ii hi];exact h i hi
  unfold Ac
  rw [e,if_neg (by omega)]
theorem sI {x y:Int} {l:Lk} (h:Of x y l=true):l.a=x∧l.b=y:=by simpa [Of] using h
theorem Zq (ls:List Lk) (a b:Int):(Ac ls a b= -1∧∀i,i<ls.length→Of (min a b) (max a b) (lk ls i)=false)∨∃k:Nat,Ac ls a b=k∧k<ls.length∧(lk ls k).a=min a b∧(lk ls k).b=max a b:=by
  by_cases h:ls.findIdx (Of (min a b) (max a b))<ls.length
  ·right
   refine ⟨ls.findIdx (Of (min a b) (max a b)),by unfold Ac;rw [if_pos h],h,?_⟩
   have:=(List.findIdx_getElem (w:=h))
   rw [←Ii h] at this
   exact sI this
  ·left
   refine ⟨by unfold Ac;rw [if_neg h],fun i hi=>?_⟩
   have hle:=List.findIdx_le_length (p:=Of (min a b) (max a b)) (xs:=ls)
   have:=List.not_of_lt_findIdx (p:=Of (min a b) (max a b)) (xs:=ls) (i:=i) (by omega)
   rw [Ii hi]
   simpa using this
theorem cT {x y:Int} {l:Lk} (h:¬(l.a=x∧l.b=y)):Of x y l=false:=by
  unfold Of
  rw [Bool.and_eq_false_iff]
  by_cases h1:l.a=x
  ·right;exact dF fun e=>h ⟨h1,e⟩
  ·left;exact dF h1
theorem XV {x y:Int} {l:Lk} (h1:l.a=x) (h2:l.b=y):Of x y l=true:=by simp [Of,h1,h2]
def Ar (l:Lk) (n:Int):Int:=if n=l.a then l.b else if n=l.b then l.a else 0
def FD (l:Lk) (n:Int):Bool:=decide (n=l.a∨n=l.b)
def Qg (ls:List Lk) (n:Int) (k:Nat):List Int:=((ls.take k).filter (fun l=>FD l n)).map (fun l=>Ar l n)
theorem sJ (ls:List Lk) (n:Int) (k:Nat) (h:k<ls.length):Qg ls n (k+1)=if FD (lk ls k) n then Qg ls n k++[Ar (lk ls k) n] else Qg ls n k:=by
  have e:ls[k]? =some (lk ls k):=QB h
  unfold Qg
  rw [List.take_add_one,e]
  cases hq:FD (lk ls k) n<;>simp [hq]
theorem cU (ls:List Lk) (n:Int) (k:Nat):(Qg ls n k).length≤k:=by
  unfold Qg
  rw [List.length_map]
  exact Nat.le_trans (List.length_filter_le _ _) (List.length_take_le _ _)
def Hc (ls:List Lk) (m:Int) (k:Nat):List Int:=((List.range k).filter (fun x:Nat=>decide (0≤Ac ls m (x:Int)))).map fun x:Nat=>(x:Int)
theorem YV (ls:List Lk) (m:Int) (k:Nat):Hc ls m (k+1)=if 0≤Ac ls m k then Hc ls m k++[(k:Int)] else Hc ls m k:=by
  unfold Hc
  rw [List.range_succ,List.filter_append,List.map_append]
  by_cases h:0≤Ac ls m k<;>simp [h]
theorem Br (ls:List Lk) (m:Int) (k:Nat):(Hc ls m k).length≤k:=by
  unfold Hc
  rw [List.length_map]
  exact Nat.le_trans (List.length_filter_le _ _) (by simp)
def pk (la lb:List Lk) (n m:Int):List Lk :=
  if 0≤Ac la n m∧(Ac lb n m<0∨(lk la (Ac la n m).toNat).c≤(lk lb (Ac lb n m).toNat).c) then [⟨n,m,(lk la (Ac la n m).toNat).c⟩]
  else if 0≤Ac lb n m then [⟨n,m,(lk lb (Ac lb n m).toNat).c⟩] else []
end Go.Proofs.YtjffopopheiinaaGreatDoor
namespace Go.Proofs.YtjffopopheiinaaGreatDoor
open Go.RowKit
def Lg (n:Int) (l:Lk):Prop:=0≤l.a∧l.a<l.b∧l.b<n∧1≤l.c∧l.c≤20
def Se (l m:Lk):Prop:=l.a<m.a∨l.a=m.a∧l.b<m.b
theorem Se.trans {a b c:Lk} (h:Se a b) (k:Se b c):Se a c:=by unfold Se at *;omega
theorem Wi {ls:List Lk} {i:Nat} (h:i<ls.length):lk ls i∈ls:=List.mem_of_getElem? (QB h)
theorem cV {ls:List Lk} {l:Lk} (h:l∈ls):∃i,i<ls.length∧lk ls i=l:=by
  obtain ⟨i,hi,rfl⟩:=List.getElem_of_mem h
  exact ⟨i,hi,Ii hi⟩
theorem cW {n:Int} {ls:List Lk} (h:∀i,i<ls.length→Ch n ls i):∀(d i:Nat),i+d+1<ls.length→Se (lk ls i) (lk ls (i+d+1))
  |0,i,hi=>by
   have:=(h (i+1) hi).2.2.2.2.2 (by omega)
   simpa [Se] using this
  |d+1,i,hi=>by
   have h1:=cW h d i (by omega)
   have h2:=(h (i+(d+1)+1) hi).2.2.2.2.2 (by omega)
   rw [Nat.add_sub_cancel] at h2
   exact h1.trans h2
theorem Gn {n:Int} {ls:List Lk}:GV n ls↔1≤n∧n≤8∧ls.length≤14∧(∀l∈ls,Lg n l)∧ls.Pairwise Se:=by
  constructor
  ·rintro ⟨h1,h2,h3,h⟩
   refine ⟨h1,h2,h3,fun l hl=>?_,List.pairwise_iff_getElem.2 fun i j hi hj hij=>?_⟩
   ·obtain ⟨i,hi,rfl⟩:=cV hl
    have:=h i hi
    unfold Ch at this
    unfold Lg
    omega
   ·have:=cW h (j-i-1) i (by omega)
    rw [show i+(j-i-1)+1=j by omega,Ii hi,Ii hj] at this
    exact this
  ·rintro ⟨h1,h2,h3,h,hp⟩
   refine ⟨h1,h2,h3,fun i hi=>?_⟩
   have h4:=h _ (Wi hi)
   unfold Lg at h4
   refine ⟨h4.1,h4.2.1,h4.2.2.1,h4.2.2.2.1,h4.2.2.2.2,fun h0=>?_⟩
   have:=List.pairwise_iff_getElem.1 hp (i-1) i (by omega) hi (by omega)
   rw [←Ii,←Ii] at this
   exact this
theorem GV.ok {n:Int} {ls:List Lk} (h:GV n ls) {l:Lk} (hl:l∈ls):Lg n l:=(Gn.1 h).2.2.2.1 l hl
theorem ZV:∀{l l':List Lk},l.Pairwise Se→l'.Pairwise Se→(∀x,x∈l↔x∈l')→l=l'
  |[],[],_,_,_=>rfl
  |[],y::s,_,_,h=>by have:=(h y).2 (List.mem_cons_self ..);simp at this
  |x::r,[],_,_,h=>by have:=(h x).1 (List.mem_cons_self ..);simp at this
  |x::r,y::s,h1,h2,h=>by
   have h1:=List.pairwise_cons.1 h1
   have h2:=List.pairwise_cons.1 h2
   have e:x=y:=by
     rcases List.mem_cons.1 ((h x).1 (List.mem_cons_self ..)) with e|hx
     ·exact e
     ·rcases List.mem_cons.1 ((h y).2 (List.mem_cons_self ..)) with e|hy
      ·exact e.symm
      ·have q1:=h1.1 y hy
       have q2:=h2.1 x hx
       unfold Se at q1 q2
       omega
   subst e
   have:r=s:=ZV h1.2 h2.2 fun z=>by
     constructor
     ·intro hz
      rcases List.mem_cons.1 ((h z).1 (List.mem_cons_of_mem _ hz)) with e|hz'
      ·subst e
       have:=h1.1 z hz
       unfold Se at this
       omega
      ·exact hz'
     ·intro hz
      rcases List.mem_cons.1 ((h z).2 (List.mem_cons_of_mem _ hz)) with e|hz'
      ·subst e
       have:=h2.1 z hz
       unfold Se at this
       omega
      ·exact hz'
   rw [this]
theorem GV.ext {n m:Int} {l l':List Lk} (h:GV n l) (h':GV m l') (e:∀x,x∈l↔x∈l'):l=l':=ZV (Gn.1 h).2.2.2.2 (Gn.1 h').2.2.2.2 e
def cell (f:Nat→Nat→Option Int) (a b:Nat):List Lk:=match f a b with|some c=>[⟨a,b,c⟩]|none=>[]
def Te (f:Nat→Nat→Option Int) (a j:Nat):List Lk:=(List.range j).flatMap fun t=>cell f a (a+1+t)
def Ji (f:Nat→Nat→Option Int) (N k:Nat):List Lk:=(List.range k).flatMap fun a=>Te f a (N-1-a)
def Cg (f:Nat→Nat→Option Int) (N:Nat):List Lk:=Ji f N N
theorem GD (f:Nat→Nat→Option Int) (a j:Nat):Te f a (j+1)=Te f a j++cell f a (a+1+j):=by
  unfold Te
  rw [List.range_succ,List.flatMap_append]
  simp
theorem HD (f:Nat→Nat→Option Int) (N k:Nat):Ji f N (k+1)=Ji f N k++Te f k (N-1-k):=by
  unfold Ji
  rw [List.range_succ,List.flatMap_append]
  simp
theorem sK (f:Nat→Nat→Option Int) (a b:Nat):(cell f a b).length≤1:=by
  unfold cell;split<;>simp
theorem AW (f:Nat→Nat→Option Int) (a j:Nat):(Te f a j).length≤j:=by
  induction j with
  |zero=>simp [Te]
  |succ j ih =>
   rw [GD,List.length_append]
   have:=sK f a (a+1+j)
   omega
theorem cX (f:Nat→Nat→Option Int) (N k:Nat):(Ji f N k).length≤k*N:=by
  induction k with
  |zero=>simp [Ji]
  |succ k ih =>
   rw [HD,List.length_append,Nat.succ_mul]
   have:=AW f k (N-1-k)
   omega
theorem YM {f:Nat→Nat→Option Int} {a b:Nat} {l:Lk}:l∈cell f a b↔∃c,f a b=some c∧l=⟨a,b,c⟩:=by
  unfold cell
  split
  ·rename_i c h
   rw [h]
   simp
  ·rename_i h
   rw [h]
   simp
theorem ZM {f:Nat→Nat→Option Int} {a j:Nat} {l:Lk}:l∈Te f a j↔∃b c,a<b∧b≤a+j∧f a b=some c∧l=⟨a,b,c⟩:=by
  unfold Te
  rw [List.mem_flatMap]
  constructor
  ·rintro ⟨t,ht,hl⟩
   obtain ⟨c,h1,h2⟩:=YM.1 hl
   have:=List.mem_range.1 ht
   exact ⟨a+1+t,c,by omega,by omega,h1,h2⟩
  ·rintro ⟨b,c,h1,h2,h3,h4⟩
   refine ⟨b-a-1,List.mem_range.2 (by omega),YM.2 ⟨c,?_,?_⟩⟩
   ·rw [show a+1+(b-a-1)=b by omega];exact h3
   ·rw [show a+1+(b-a-1)=b by omega];exact h4
theorem sL {f:Nat→Nat→Option Int} {N k:Nat} {l:Lk}:l∈Ji f N k↔∃a b c,a<k∧a<b∧b<N∧f a b=some c∧l=⟨a,b,c⟩:=by
  unfold Ji
  rw [List.mem_flatMap]
  constructor
  ·rintro ⟨a,ha,hl⟩
   obtain ⟨b,c,h1,h2,h3,h4⟩:=ZM.1 hl
   have:=List.mem_range.1 ha
   exact ⟨a,b,c,this,h1,by omega,h3,h4⟩
  ·rintro ⟨a,b,c,h1,h2,h3,h4,h5⟩
   exact ⟨a,List.mem_range.2 h1,ZM.2 ⟨b,c,h2,by omega,h4,h5⟩⟩
theorem ID {f:Nat→Nat→Option Int} {N:Nat} {l:Lk}:l∈Cg f N↔∃a b c,a<b∧b<N∧f a b=some c∧l=⟨a,b,c⟩:=by
  unfold Cg
  rw [sL]
  constructor
  ·rintro ⟨a,b,c,h1,h2,h3,h4,h5⟩;exact ⟨a,b,c,h2,h3,h4,h5⟩
  ·rintro ⟨a,b,c,h2,h3,h4,h5⟩;exact ⟨a,b,c,by omega,h2,h3,h4,h5⟩
theorem sM (f:Nat→Nat→Option Int) (a j:Nat):(Te f a j).Pairwise Se:=by
  unfold Te
  rw [List.pairwise_flatMap]
  refine ⟨fun t _=>?_,?_⟩
  ·unfold cell;split<;>simp
  ·refine List.Pairwise.imp ?_ (List.pairwise_lt_range (n:=j))
   intro s t hst x hx y hy
   obtain ⟨c,_,rfl⟩:=YM.1 hx
   obtain ⟨c',_,rfl⟩:=YM.1 hy
   exact .inr ⟨rfl,by simp only [];omega⟩
theorem cY (f:Nat→Nat→Option Int) (N:Nat):(Cg f N).Pairwise Se:=by
  unfold Cg Ji
  rw [List.pairwise_flatMap]
  refine ⟨fun a _=>sM f a _,?_⟩
  refine List.Pairwise.imp ?_ (List.pairwise_lt_range (n:=N))
  intro s t hst x hx y hy
  obtain ⟨b,c,_,_,_,rfl⟩:=ZM.1 hx
  obtain ⟨b',c',_,_,_,rfl⟩:=ZM.1 hy
  exact .inl (by simp only [];omega)
theorem sN {f:Nat→Nat→Option Int} {N:Nat} (h0:1≤N) (h8:N≤8) (hc:∀a b c,a<b→b<N→f a b=some c→1≤c∧c≤20) (hl:(Cg f N).length≤14):GV N (Cg f N):=by
  refine Gn.2 ⟨by omega,by omega,hl,fun l hm=>?_,cY f N⟩
  obtain ⟨a,b,c,h1,h2,h3,rfl⟩:=ID.1 hm
  have:=hc a b c h1 h2 h3
  exact ⟨by simp only [];omega,by simp only [];omega,by simp only [];omega,this.1,this.2⟩
def lc (ls:List Lk) (a b:Int):Option Int:=if 0≤Ac ls a b then some (lk ls (Ac ls a b).toNat).c else none
theorem Cr {ls:List Lk} {a b c:Int} (h:lc ls a b=some c):(⟨min a b,max a b,c⟩:Lk)∈ls:=by
  unfold lc at h
  rcases Zq ls a b with ⟨e,_⟩|⟨k,e,hk,h1,h2⟩
  ·rw [e] at h;simp at h
  ·rw [e] at h
   rw [if_pos (by omega)] at h
   injection h with h
   rw [Int.toNat_natCast] at h
   have:(⟨min a b,max a b,c⟩:Lk)=lk ls k:=by rw [←h1,←h2,←h]
   rw [this]
   exact Wi hk
theorem sO {ls:List Lk} {a b:Int} (h:lc ls a b=none):∀c,(⟨min a b,max a b,c⟩:Lk)∉ls:=by
  intro c hm
  unfold lc at h
  rcases Zq ls a b with ⟨e,hn⟩|⟨k,e,hk,h1,h2⟩
  ·obtain ⟨i,hi,e2⟩:=cV hm
   have:=hn i hi
   rw [e2,show Of (min a b) (max a b) ⟨min a b,max a b,c⟩=true from XV rfl rfl] at this
   cases this
  ·rw [e,if_pos (by omega)] at h
   cases h
theorem sP {ls:List Lk} (h:ls.Pairwise Se) {x y:Lk} (hx:x∈ls) (hy:y∈ls) (ha:x.a=y.a) (hb:x.b=y.b):x=y:=by
  obtain ⟨i,hi,rfl⟩:=List.getElem_of_mem hx
  obtain ⟨j,hj,rfl⟩:=List.getElem_of_mem hy
  rcases Nat.lt_trichotomy i j with h1|h1|h1
  ·have:=List.pairwise_iff_getElem.1 h i j hi hj h1
   unfold Se at this
   omega
  ·subst h1;rfl
  ·have:=List.pairwise_iff_getElem.1 h j i hj hi h1
   unfold Se at this
   omega
theorem GV.pw {n:Int} {ls:List Lk} (h:GV n ls):ls.Pairwise Se:=(Gn.1 h).2.2.2.2
theorem AN {ls:List Lk} (h:ls.Pairwise Se) {a b c:Int}:lc ls a b=some c↔(⟨min a b,max a b,c⟩:Lk)∈ls:=by
  constructor
  ·exact Cr
  ·intro hm
   cases e:lc ls a b with
   |none=>exact absurd hm (sO e c)
   |some c' =>
    have:=sP h (Cr e) hm rfl rfl
    injection this with _ _ e3
    rw [e3]
theorem JD (ls:List Lk) (a b:Int):lc ls a b=lc ls b a:=by
  have:Ac ls a b=Ac ls b a:=by unfold Ac;rw [show min a b=min b a by omega,show max a b=max b a by omega]
  unfold lc
  rw [this]
theorem BW {ls:List Lk} (h:ls.Pairwise Se) {l:Lk} (hl:l∈ls) (hab:l.a≤l.b):lc ls l.a l.b=some l.c:=(AN h).2 (by rw [show min l.a l.b=l.a by omega,show max l.a l.b=l.b by omega];exact hl)
theorem Sy {n:Int} {ls:List Lk} (h:GV n ls) {a b c:Int} (e:lc ls a b=some c):1≤c∧c≤20:=by
  have:=h.ok (Cr e)
  exact ⟨this.2.2.2.1,this.2.2.2.2⟩
theorem KD {ls:List Lk} {a b:Int}:(lc ls a b).isSome=decide (0≤Ac ls a b):=by
  unfold lc
  by_cases h:0≤Ac ls a b<;>simp [h]
theorem Gp {ls:List Lk} {a b c:Int} (e:lc ls a b=some c):0≤Ac ls a b∧Ac ls a b<ls.length∧lk ls (Ac ls a b).toNat=⟨min a b,max a b,c⟩:=by
  unfold lc at e
  rcases Zq ls a b with ⟨e1,hn⟩|⟨k,e1,hk,h1,h2⟩
  ·rw [e1] at e;simp at e
  ·rw [e1,if_pos (by omega),Int.toNat_natCast] at e
   injection e with e
   rw [e1,Int.toNat_natCast]
   exact ⟨by omega,by omega,by rw [←h1,←h2,←e]⟩
theorem cZ {ls:List Lk} {a b:Int} (e:lc ls a b=none):Ac ls a b= -1:=by
  unfold lc at e
  rcases Zq ls a b with ⟨e1,hn⟩|⟨k,e1,hk,h1,h2⟩
  ·exact e1
  ·rw [e1,if_pos (by omega)] at e;cases e
theorem GV.grid {N:Nat} {ls:List Lk} (h:GV N ls):Cg (fun a b=>lc ls a b) N=ls:=by
  refine ZV (cY _ N) h.pw fun l=>?_
  rw [ID]
  constructor
  ·rintro ⟨a,b,c,h1,h2,h3,rfl⟩
   have:=Cr h3
   rwa [show min (a:Int) b=a by omega,show max (a:Int) b=b by omega] at this
  ·intro hl
   have:=h.ok hl
   unfold Lg at this
   refine ⟨l.a.toNat,l.b.toNat,l.c,by omega,by omega,?_,?_⟩
   ·rw [show ((l.a.toNat:Nat):Int)=l.a by omega,show ((l.b.toNat:Nat):Int)=l.b by omega]
    exact BW h.pw hl (by omega)
   ·rw [show ((l.a.toNat:Nat):Int)=l.a by omega,show ((l.b.toNat:Nat):Int)=l.b by omega]
end Go.Proofs.YtjffopopheiinaaGreatDoor
end
namespace Go.Proofs.YtjffopopheiinaaGreatDoor
section
open Go.RowKit
def bl (b:ByteArray):List UInt8:=b.data.toList
def bs (l:List UInt8):ByteArray:=⟨l.toArray⟩
theorem Hp (l:List UInt8):bl (bs l)=l:=by simp [bl,bs]
theorem LD (b:ByteArray):bs (bl b)=b:=by cases b;simp [bl,bs]
theorem BN (b:ByteArray):∃l,b=bs l:=⟨bl b,(LD b).symm⟩
theorem Yb (l:List UInt8):(bs l).size=l.length:=by simp [bs,ByteArray.size]
theorem Zc (a b:List UInt8):Da (bs a) (bs b)=bs (a++b):=by
  unfold Da bs
  exact Go.ByteArray.mk_append_mk a b
theorem Nh (a b:List UInt8):Dc (bs a) (bs b)=decide (a=b):=by
  unfold Dc
  rw [Go.Lib.toList_data,Go.Lib.toList_data]
  show ((bs a).data.toList==(bs b).data.toList)=_
  rw [show (bs a).data.toList=a from Hp a,show (bs b).data.toList=b from Hp b]
  exact Bool.eq_iff_iff.2 (by simp)
theorem sQ (l:List UInt8) (i:Nat):(bs l).get! i=l.getD i 0:=by
  show l.toArray[i]! =_
  simp [List.getD]
  rfl
theorem dA (l:List UInt8) (i j:Nat):(bs l).extract i j=bs ((l.drop i).take (j-i)):=by
  apply ByteArray.ext
  simp [bs,ByteArray.data_extract,List.extract_eq_take_drop]
def Vb (c:UInt8):List UInt8→List (List UInt8)
  |[]=>[[]]
  |x::r=>if x=c then []::Vb c r else match Vb c r with
   |[]=>[[x]]
   |h::t=>(x::h)::t
theorem MD (c:UInt8) (s:List UInt8):Vb c s≠[]:=by
  cases s with
  |nil=>simp [Vb]
  |cons x r =>
   unfold Vb
   split
   ·simp
   ·split<;>simp
theorem Dr (c:UInt8):∀(a b:List UInt8),(∀x∈a,x≠c)→Vb c (a++c::b)=a::Vb c b
  |[],b,_=>by simp [Vb]
  |x::a,b,h=>by
   rw [List.cons_append,Vb,if_neg (h x (List.mem_cons_self ..)),Dr c a b fun y hy=>h y (List.mem_cons_of_mem _ hy)]
theorem Ip (c:UInt8):∀(a:List UInt8),(∀x∈a,x≠c)→Vb c a=[a]
  |[],_=>rfl
  |x::a,h=>by rw [Vb,if_neg (h x (List.mem_cons_self ..)),Ip c a fun y hy=>h y (List.mem_cons_of_mem _ hy)]
theorem ND (c:UInt8):∀(s:List UInt8),(∀x∈s,x≠c)∨∃a b,s=a++c::b∧∀x∈a,x≠c
  |[]=>.inl (by simp)
  |x::r=>by
   by_cases h:x=c
   ·exact .inr ⟨[],r,by simp [h],by simp⟩
   ·rcases ND c r with h1|⟨a,b,rfl,h2⟩
    ·exact .inl fun y hy=>by
       rcases List.mem_cons.1 hy with rfl|hy
       ·exact h
       ·exact h1 y hy
    ·exact .inr ⟨x::a,b,rfl,fun y hy=>by
       rcases List.mem_cons.1 hy with rfl|hy
       ·exact h
       ·exact h2 y hy⟩
theorem CN (c:UInt8) (s t:List UInt8):Vb c (s++c::t)=Vb c s++Vb c t:=by
  generalize hn:s.length=n
  induction n using Nat.strongRecOn generalizing s with
  |ind n ih =>
   rcases ND c s with h|⟨a,b,rfl,h⟩
   ·rw [Dr c s t h,Ip c s h];rfl
   ·rw [List.append_assoc,List.cons_append,Dr c a _ h,Dr c a b h,ih b.length (by rw [←hn];simp;omega) b rfl];rfl
theorem OD (c:UInt8) (s:List UInt8):(Vb c s).length≤s.length+1:=by
  generalize hn:s.length=n
  induction n using Nat.strongRecOn generalizing s with
  |ind n ih =>
   rcases ND c s with h|⟨a,b,rfl,h⟩
   ·rw [Ip c s h];simp
   ·rw [Dr c a b h]
    have:=ih b.length (by rw [←hn];simp;omega) b rfl
    rw [List.length_cons]
    simp at hn
    omega
theorem CW (c:UInt8) (s:List UInt8):∀p∈Vb c s,p.length≤s.length∧∀x∈p,x≠c:=by
  generalize hn:s.length=n
  induction n using Nat.strongRecOn generalizing s with
  |ind n ih =>
   rcases ND c s with h|⟨a,b,rfl,h⟩
   ·rw [Ip c s h]
    intro p hp
    rw [List.mem_singleton.1 hp]
    exact ⟨by omega,h⟩
   ·rw [Dr c a b h]
    simp at hn
    intro p hp
    rcases List.mem_cons.1 hp with rfl|hp
    ·exact ⟨by omega,h⟩
    ·have:=ih b.length (by omega) b rfl p hp
     exact ⟨by omega,this.2⟩
theorem dB (c:UInt8):∀(a b:List UInt8),(∀x∈a,x≠c)→Go.Lib.indexByte (a++c::b) c=(a.length:Int)
  |[],b,_=>by simp [Go.Lib.indexByte]
  |x::a,b,h=>by
   have ih:=dB c a b fun y hy=>h y (List.mem_cons_of_mem _ hy)
   have hx:=h x (List.mem_cons_self ..)
   simp only [List.cons_append,Go.Lib.indexByte]
   simp [hx,ih]
   try omega
theorem sR (c:UInt8) (s:List UInt8):Go.Lib.splitK [c] 0 (s.count c) s=Vb c s:=by
  generalize hn:s.length=n
  induction n using Nat.strongRecOn generalizing s with
  |ind n ih =>
   rcases ND c s with h|⟨a,b,rfl,h⟩
   ·rw [Ip c s h,List.count_eq_zero.2 fun hm=>h c hm rfl];rfl
   ·have:=ih b.length (by rw [←hn];simp;omega) b rfl
    have hc:(a++c::b).count c=b.count c+1:=by rw [List.count_append,List.count_eq_zero.2 fun hm=>h c hm rfl,List.count_cons_self];omega
    have hi:Go.Lib.index (a++c::b) [c]=(a.length:Int):=by rw [Go.Lib.index_one];exact dB c a b h
    rw [Dr c a b h,hc,Go.Lib.splitK,hi,if_neg (by simp)]
    rw [Int.toNat_natCast,Nat.add_zero,List.take_left,List.length_singleton,show (a++c::b).drop (a.length+1)=b by simp,this]
theorem sS (c:UInt8) (s:List UInt8):Go.Lib.splitB (bs [c]) 0 (Go.Lib.countB (bs s) (bs [c])) (bs s)=(Vb c s).map bs:=by
  have h:=Go.Lib.splitB_data (bs [c]) 0 (Go.Lib.countB (bs s) (bs [c])) (bs s)
  have e:Go.Lib.countB (bs s) (bs [c])=s.count c:=by
    show Go.Lib.count (bs s).data.toList (bs [c]).data.toList=_
    rw [show (bs s).data.toList=s from Hp s,show (bs [c]).data.toList=[c] from Hp [c],Go.Lib.count_one]
  rw [e] at h ⊢
  rw [show (bs [c]).data.toList=[c] from Hp [c],show (bs s).data.toList=s from Hp s,sR] at h
  rw [←h,List.map_map]
  have:(bs∘fun x:ByteArray=>x.data.toList)=id:=funext fun x=>LD x
  rw [this,List.map_id]
end
section
open Go.RowKit Go.Shelf Go.Lib
theorem sU:(Tryz.prog.info? 9).map (fun i=>(i.zero,i.size,i.bytes))=some (some (.string ByteArray.empty),1,16):=by kernel_rfl
set_option maxHeartbeats 1000000 in
theorem sV {P:Program} {ρ:Ren} (L:Go.Proofs.Lays.n146 P ρ) (hi9:(P.info? (ρ.t 9)).map (fun i=>(i.zero,i.size,i.bytes))=some (some (.string ByteArray.empty),1,16)) (s:ByteArray) (b:UInt8) (w:World) (hs:s.size<4294967281) :
    Calls P (ρ.f 146) #[.string s,.string ⟨#[b]⟩] w fun e w'=>e=.returned (.slice (some ⟨w.heap.size,0,none⟩) (Go.Lib.countB s ⟨#[b]⟩+1) (Go.Lib.countB s ⟨#[b]⟩+1))∧w'=w.alloc (.cells ((Go.Lib.splitB ⟨#[b]⟩ 0 (Go.Lib.countB s ⟨#[b]⟩) s).map Value.string).toArray (ρ.t 9)):=by
  have h1:1≤(⟨#[b]⟩:ByteArray).size:=Nat.le_refl _
  have hle:=Go.Lib.countB_le ⟨#[b]⟩ h1 s.size s (Nat.le_refl _)
  have hlen:=Go.Lib.splitB_all ⟨#[b]⟩ h1 0 _ s rfl
  have c:=Go.Proofs.Any.strings_genSplit_core { L with } hi9 s ⟨#[b]⟩ 0 (-1) (Go.Lib.countB s ⟨#[b]⟩+1) w hs h1 (Nat.zero_le _)
    (fun x c hx=>(Go.Proofs.Any.strings_Index_one { L with } x b _).mono fun e w' ⟨he,hw⟩=>⟨by
      rw [he]
      show _=Ending.returned (Value.int .i64 (Go.Lib.index x.data.toList [b]))
      rw [Go.Lib.index_one],hw⟩)
    ((Go.Proofs.Any.strings_Count_one { L with } s b w).mono fun e w' ⟨he,hw⟩=>⟨by
      rw [he]
      show _=Ending.returned (Value.int .i64 ((Go.Lib.count s.data.toList [b]:Nat):Int))
      rw [Go.Lib.count_one]
      rfl,hw⟩)
    (by decide) (by decide) (by rw [if_pos (by decide)];omega)
  rw [Nat.add_sub_cancel,hlen] at c
  have e2:Go.Lib.cellsOf (Go.Lib.splitB ⟨#[b]⟩ 0 (Go.Lib.countB s ⟨#[b]⟩) s) (Go.Lib.countB s ⟨#[b]⟩+1)=((Go.Lib.splitB ⟨#[b]⟩ 0 (Go.Lib.countB s ⟨#[b]⟩) s).map Value.string).toArray:=by rw [←hlen];exact Go.Lib.cellsOf_full _
  rw [e2] at c
  have t3:=L.t3;have t9:=L.t9;have t31:=L.t31
  have a3:=L.a3;have a9:=L.a9;have a31:=L.a31
  have z3:=L.z3;have v3:=L.v3;have z9:=L.z9;have v9:=L.v9;have z31:=L.z31;have v31:=L.v31
  have e221:∀args w,(callFunc (ρ.f 221) args).run P w=.ok (.enter (ρ.f 221) args) w:=enters_of L.f221 (by kernel_rfl) rfl
  go_enter L.f146,Body.n146_ntmps ρ
  go_wp2_with (go_at_fn (ρ.f 221);refine c.mono ?_;rintro e w' ⟨rfl,hw⟩;rw [hw])
  go_ret
  exact ⟨rfl,rfl⟩
def DN (b:ByteArray):Option UInt8:=match bl b with
  |[c]=>some c
  |_=>none
def PD (s:ByteArray×ByteArray×Unit):Option (List ByteArray×Unit):=match DN s.2.1 with
  |some c=>bif decide (s.1.size≤1000000) then some ((Vb c (bl s.1)).map bs,()) else none
  |none=>none
def QD:Oa:=⟨⟨[.c (.one (.b .str)),.c (.one (.b .str))],[]⟩,[.str,.str],⟨[.c (.one (.own 0))],[.row 9 .str]⟩,[.ls .str],PD⟩
theorem sW (zs:List ByteArray):Mb .str zs=zs.map fun b=>IV.s (.string b):=by
  induction zs with
  |nil=>rfl
  |cons z r ih=>rw [Po,ih];rfl
theorem sX {w:World} {E X:Nat→Prop} (zs:List ByteArray):F2 (Ri w E X) (Mb .str zs) (zs.map Value.string):=by
  rw [sW]
  refine ⟨by simp,fun i x u hx hu=>?_⟩
  simp only [List.getElem?_map] at hx hu
  obtain ⟨z,hz,rfl⟩:=Option.map_eq_some_iff.1 hx
  rw [hz] at hu
  injection hu with hu
  subst hu
  exact Ri.s _
theorem dC:GC Tryz.prog 26 QD:=by
  intro s r hs ds os hf d h' hr w X β args hX hH hargs _
  obtain ⟨t,sep,_⟩:=s
  change ByteArray at t
  change ByteArray at sep
  have hq:(match DN sep with|some c=>(bif decide (t.size≤1000000) then some ((Vb c (bl t)).map bs,()) else none)|none=>none)=some r:=hs
  clear hs
  split at hq
  case h_2=>cases hq
  rename_i c hv
  obtain rfl:sep=⟨#[c]⟩:=by
    unfold DN at hv
    split at hv
    ·rename_i c' hb
     injection hv with hv;subst hv
     rw [←LD sep,hb];rfl
    ·cases hv
  cases hd:decide (t.size≤1000000) with
  |false=>rw [hd] at hq;cases hq
  |true =>
  rw [hd] at hq
  injection hq with hq
  subst hq
  have hn:t.size≤1000000:=oT hd
  have hf:some ([PV.im (.s (.string t)),PV.im (.s (.string ⟨#[c]⟩))],([]:List Fa))=some (ds,os):=hf
  injection hf with hf
  injection hf with hf1 hf2
  subst hf1 hf2
  have hr:some ([PV.own 0],[Fa.row 9 .str ((Vb c (bl t)).map bs)])=some ([d],h'):=hr
  injection hr with hr
  injection hr with hr1 hr2
  injection hr1 with hr1
  subst hr1 hr2
  obtain ⟨u,_,rfl,hu,hr⟩:=hargs.cons_inv
  obtain ⟨u2,_,rfl,hu2,hnil⟩:=hr.cons_inv
  obtain rfl:=hnil.nil_inv
  obtain rfl:u=.string t:=Rf hu
  obtain rfl:u2=.string ⟨#[c]⟩:=Rf hu2
  have hsp:Go.Lib.splitB ⟨#[c]⟩ 0 (Go.Lib.countB t ⟨#[c]⟩) t=(Vb c (bl t)).map bs:=by
    have:=sS c (bl t)
    rw [LD] at this
    exact this
  have hct:Go.Lib.countB t ⟨#[c]⟩+1=((Vb c (bl t)).map bs).length:=by
    rw [←hsp]
    exact (Go.Lib.splitB_all ⟨#[c]⟩ (Nat.le_refl _) 0 _ t rfl).symm
  have hll:((Vb c (bl t)).map bs).length≤1000001:=by
    rw [List.length_map]
    have h1:=OD c (bl t)
    have h2:(bl t).length=t.size:=by rw [←Yb,LD]
    omega
  have call:=sV (P:=Tryz.prog) Tryz.lays146 sU t c w (by omega)
  rw [hsp,hct] at call
  refine Calls.mono call ?_
  rintro ex w' ⟨rfl,rfl⟩
  generalize (Vb c (bl t)).map bs=ys at *
  have hb:Below w.heap.size w (w.alloc (.cells (ys.map Value.string).toArray 9)):=(Below.refl _ _).alloc (Nat.le_refl _) _
  obtain ⟨q1,q2,q3⟩:=Fn (h:=[]) (β:=β) (e:=9) (τ:=.str) (ys:=ys) (g:=w.heap.size) (c:=ys.length) (A:=some ⟨w.heap.size,0,none⟩) hH hX hb.os hb.tape hb.output hb.size (fun i hi _=>hb.block i hi) (.inr (Nat.le_refl _)) (fun h=>List.length_eq_zero_iff.1 h) (by unfold maxLen;omega)
    (fun _=>⟨ys.map Value.string,[],by rw [List.append_nil];exact heap_alloc_new w _,sX _,by simp [sz]⟩) (fun _=>rfl)
  exact ⟨_,_,rfl,q1,q2,q3⟩
theorem DW:Tryz.prog.globalNamed "internal/strconv.uint64pow10"=some 3:=by kernel_rfl
theorem sY {w:World} {h:List Fa} {β:List (Nat×Nat)} (H:Jf w h β):Go.Lib.TabIs Tryz.prog w "internal/strconv.uint64pow10" .u64 Go.Lib.pow10Tab:=by
  obtain ⟨_,t,z,h2⟩:=H _ _ (List.mem_singleton.2 rfl)
  unfold Go.Lib.TabIs World.var?
  rw [DW]
  simp only [Option.bind_some,h2]
theorem sZ {w:World} (H:Go.Lib.TabIs Tryz.prog w "internal/strconv.uint64pow10" .u64 Go.Lib.pow10Tab):Jf w [] []:=fun g cs hg=>by
  obtain ⟨rfl,rfl⟩:g=3∧cs=(Go.Lib.pow10Tab.map (Value.int .u64)).toArray:=by simpa [R7] using hg
  refine ⟨fun ⟨k,o,c,h,_⟩=>by simp at h,?_⟩
  unfold Go.Lib.TabIs World.var? at H
  rw [DW] at H
  simp only [Option.bind_some] at H
  split at H
  ·rename_i cs t z hc
   injection H with H
   subst H
   exact ⟨t,z,hc⟩
  ·cases H
def Er (s:Int×Unit):Option (ByteArray×Unit):=bif decide (-9223372036854775808≤s.1∧s.1≤9223372036854775807) then some (bs (Go.Lib.itoa s.1),()) else none
def RD:Oa:=⟨⟨[.c (.one (.b (.int .i64)))],[]⟩,[.int],⟨[.c (.one (.b .str))],[]⟩,[.str],Er⟩
theorem dD:GC Tryz.prog 58 RD:=by
  intro s r hs ds os hf d h' hr w X β args hX hH hargs hG
  obtain ⟨n,_⟩:=s
  change Int at n
  have hs:(bif decide (-9223372036854775808≤n∧n≤9223372036854775807) then some (bs (Go.Lib.itoa n),()) else none)=some r:=hs
  cases hd:decide (-9223372036854775808≤n∧n≤9223372036854775807) with
  |false=>rw [hd] at hs;cases hs
  |true =>
  rw [hd] at hs
  injection hs with hs
  subst hs
  have hn:=oT hd
  have hf:some ([PV.im (iI n)],([]:List Fa))=some (ds,os):=hf
  injection hf with hf
  injection hf with hf1 hf2
  subst hf1 hf2
  have hr:some ([PV.im (.s (.string (bs (Go.Lib.itoa n))))],([]:List Fa))=some ([d],h'):=hr
  injection hr with hr
  injection hr with hr1 hr2
  injection hr1 with hr1
  subst hr1 hr2
  obtain ⟨u,_,rfl,hu,hnil⟩:=hargs.cons_inv
  obtain rfl:=hnil.nil_inv
  obtain rfl:u=.int .i64 n:=Rf hu
  refine Calls.mono (Tryz.strconv_Itoa n hn.1 hn.2 w (sY hG)) ?_
  rintro ex w' ⟨rfl,k,os,rfl⟩
  have hb:Below w.heap.size w (Go.Sort.grow (w.drewN k) os):=⟨rfl,rfl,rfl,by show w.heap.size≤(w.heap++os).size;rw [Array.size_append];omega,fun j hj=>Go.Sort.heap_grow_old (w.drewN k) os (k:=j) hj⟩
  have hl:∀b,¬Ka [] β b:=fun b ⟨k,o,c,h,_⟩=>by simp at h
  exact ⟨_,β,rfl,⟨hb.os,hb.tape,hb.output,hb.size,fun b hb' _=>hb.block b hb',fun b _ h=>h,fun k p h=>h,Fd.refl _⟩,⟨hH.len,fun b h=>h,fun b h=>(hl b h).elim,fun k o h=>by simp at h,fun j k o o' b c c' h=>by simp at h⟩,Ri.s _⟩
end
section
open Go.ChangeShapes Go.WideShapes Go.ChangeAt Go.RowKit Go.Deep Go.Joins
theorem tA {H:Type} {enc:TypeId×Value→H} {W:World} {v:Value} {d:DataW H} {p:List MemPlace} {r:Reach} {b0:Nat} (hv:Value.okWide Tryz.prog W r b0 9 v) (h:DataW.Trod enc Tryz.prog W 0 (fun _=>true) true 9 v d p):∃b:ByteArray,v=.string b:=by
  obtain ⟨s,rfl,_⟩:=Go.ChangeMaps.open_string Tryz.underlying9 hv h
  exact ⟨s,rfl⟩
theorem tB (W:World) (b:ByteArray):Dn W (.string b) (.im (.s (.string b))):=Ri.s _
theorem tC {P:Program} {W:World} {name:String} {k:IntKind} {zs:List Int} {g:Nat} {t e:TypeId} {n:Nat} (hg:P.globalNamed name=some g) (hty:(P.globals[g]?).map (·.type)=some t) (ht:P.underlying t=some (.array n e)) (he:P.underlying e=some (.int k)) (hce:P.cellsOf e=1) (hct:P.cellsOf t=n) (h:Go.Lib.VarReads P W name (Go.Lib.tabData k zs)):Go.Lib.TabIs P W name k zs:=by
  obtain ⟨g',t',cs,Ea,p,hg',ht',hvar,hd⟩:=h
  obtain rfl:=Option.some.inj (hg.symm.trans hg')
  obtain rfl:=Option.some.inj (hty.symm.trans ht')
  unfold Go.Lib.TabIs
  rw [hvar,←Go.Lib.cells_of_tab ht he hce hct hd]
theorem Fr {W:World} (h:Go.Lib.VarReads Tryz.prog W "internal/strconv.uint64pow10" (Go.Lib.tabData .u64 Go.Lib.pow10Tab)):Jf W [] []:=sZ (tC (t:=185) (e:=132) (n:=20) DW (by kernel_rfl) (by kernel_rfl) (by kernel_rfl) (by kernel_rfl) (by kernel_rfl) h)
theorem Ir {a b:Bool} (h:a=true) (k:b=true):(a&&b)=true:=by rw [h,k];rfl
theorem Jr:laidOutB Tryz.pinned.checked.prog=true:=by kernel_rfl
theorem Kr:mapsRowed Tryz.pinned.checked.prog=true:=by kernel_rfl
theorem Lr:false=Tryz.pinned.checked.prog.looks []:=by kernel_rfl
end
section
open Go.RowKit
def Rg (zs:List Int):List Int:=zs.mergeSort fun x y=>decide (x≤y)
theorem dE (zs:List Int):(Rg zs).length=zs.length:=List.length_mergeSort zs
theorem EW (zs:List Int):Mb .int zs=zs.map iI:=by
  induction zs with
  |nil=>rfl
  |cons z r ih=>rw [Po,ih];rfl
theorem dG {w:World} {E X:Nat→Prop} {zs:List Int} {us:List Value} (h:F2 (Ri w E X) (Mb .int zs) us):us=zs.map (Value.int .i64):=by
  rw [EW] at h
  refine List.ext_getElem? fun i=>?_
  have hlen:=h.1
  simp only [List.length_map] at hlen
  rcases Nat.lt_or_ge i us.length with hi|hi
  ·have hu:us[i]? =some us[i]:=List.getElem?_eq_getElem hi
   have hz:zs[i]? =some zs[i]:=List.getElem?_eq_getElem (by omega)
   have h1:Ri w E X (iI zs[i]) us[i]:=h.2 i (iI zs[i]) us[i] (by rw [List.getElem?_map,hz];rfl) hu
   rw [hu]
   generalize us[i]=q at *
   cases h1
   simp [hz]
  ·rw [List.getElem?_eq_none hi,List.getElem?_eq_none (by simp;omega)]
def EN (s:List Int×Unit):Option (List Int×Unit):=bif decide (s.1.length≤16777216) then some (Rg s.1,()) else none
def FW:Oa:=⟨⟨[.c (.one (.own 0))],[.row 3 .int]⟩,[.ls .int],⟨[.tup []],[.row 3 .int]⟩,[.ls .int],EN⟩
theorem tD:GC Tryz.prog 125 FW:=by
  intro s r hs ds os hf d h' hr w X β args hX hH hargs _
  obtain ⟨xs,_⟩:=s
  have hs:(bif decide (xs.length≤16777216) then some (Rg xs,()) else none)=some r:=hs
  cases hd:decide (xs.length≤16777216) with
  |false=>rw [hd] at hs;cases hs
  |true =>
  rw [hd] at hs
  injection hs with hs
  subst hs
  have hn:=oT hd
  have hf:some ([PV.own 0],[Fa.row 3 .int xs])=some (ds,os):=hf
  injection hf with hf
  injection hf with hf1 hf2
  subst hf1 hf2
  have hr:some ([PV.tup []],[Fa.row 3 .int (Rg xs)])=some ([d],h'):=hr
  injection hr with hr
  injection hr with hr1 hr2
  injection hr1 with hr1
  subst hr1 hr2
  obtain ⟨u,_,rfl,hu,hnil⟩:=hargs.cons_inv
  obtain rfl:=hnil.nil_inv
  obtain ⟨h0,hv,⟨_,_,_,rfl⟩,h2⟩:=hu
  obtain ⟨b,c,A,hb,hue,hA,hE⟩:=h2 3 .int xs rfl
  obtain ⟨b',c',hb',hc0,hcm,hrow⟩:=hH.ok 0 _ rfl
  rw [hb] at hb'
  injection hb' with hb'
  injection hb' with e1 e2
  subst e1 e2
  rw [hue]
  rcases Nat.eq_zero_or_pos c with hc|hc
  ·obtain rfl:xs=[]:=hc0 hc
   refine (Tryz.slices_Sort_int_none A c w).mono ?_
   rintro ex w' ⟨rfl,rfl⟩
   have e:Rg []=[]:=by simp [Rg]
   rw [e]
   exact ⟨_,β,rfl,Zb.refl _ _ _,hH,[],rfl,F2.nil⟩
  ·obtain ⟨us,junk,hblk,hF,hone,hlen⟩:=hrow hc
   have hus:=dG hF
   subst hus
   have hA:=hA hc
   subst hA
   have hbl:b<w.heap.size:=(Array.getElem?_eq_some_iff.1 hblk).1
   have hlen':xs.length+junk.length=c:=by
     have:((xs.map (Value.int .i64))++junk).length=c*1:=hlen
     simpa using this
   have hold:Go.Sort.Holds (Value.int .i64) w b 0 xs.toArray:=holds_of_blockI (e:=3) hblk (by simp)
   refine (Tryz.slices_Sort_int b 0 c xs w hold hbl (by omega)).mono ?_
   rintro ex w' ⟨rfl,m,os,rfl⟩
   have how:=ownsRow_sortedI (w:=w) (base:=0) (g:=b) (cap:=c) (n:=m) (os:=os) (ss:=xs) (ts:=Rg xs) (e:=3) (dE xs) (Nat.zero_le _) hblk (by omega) hcm (by simp;omega)
   have hgr:=grownBy_sortedI (w:=w) (g:=b) (n:=m) (os:=os) (Rg xs).toArray
   obtain ⟨g2,c2,junk2,hv2,hh2,hl2,hm2,_⟩:=NL how (by intro h;cases h)
   injection hv2 with q1 q2 q3
   injection q1 with q1
   injection q1 with q1
   subst q1 q3
   generalize hw':Go.Sort.grow (Go.Sort.putRow (Value.int .i64) (Go.Sort.ahead w m) b 0 (xs.mergeSort fun x y=>decide (x≤y)).toArray) os=w' at *
   rw [show (xs.mergeSort fun x y=>decide (x≤y))=Rg xs from rfl] at hw'
   rw [hw'] at hh2 hgr how
   have live1:∀b',Ka [Fa.row 3 .int (Rg xs)] β b'→Ka [Fa.row 3 .int xs] β b':=fun b' ⟨k,o,c',h1,h2,h3⟩=>by
     match k,h1 with
     |0,h1 =>
      simp at h1
      subst h1
      exact ⟨0,_,c',rfl,h2,h3⟩
     |k+1,h1=>simp at h1
   have liveB:Ka [Fa.row 3 .int xs] β b:=⟨0,_,c,rfl,hc,hb⟩
   have onlyB:∀b',Ka [Fa.row 3 .int xs] β b'→b'=b:=fun b' ⟨k,o,c',h1,h2,h3⟩=>by
     match k,h1 with
     |0,h1=>rw [hb] at h3;injection h3 with h3;injection h3 with h3;exact h3.symm
     |k+1,h1=>simp at h1
   refine ⟨_,β,rfl,⟨hgr.os,hgr.tape,hgr.output,hgr.size,fun i hi hne=>hgr.block i hi (fun e=>hne (by injection e with e;subst e;exact liveB)),fun i _ h=>live1 i h,fun _ _ h=>h,⟨Nat.le_refl _,fun k t τ ys hk e=>?_,fun k hk e=>?_⟩⟩,⟨hH.len,fun i h=>h,fun i h=>hH.nx i (live1 i h),fun k o hk=>?_,fun j k o o' b1 c1 c2 hj hk _ _ _ _=>?_⟩,[],rfl,F2.nil⟩
   ·cases k with
    |zero =>
     simp at e
     obtain ⟨rfl,e⟩:=e
     obtain ⟨rfl,e⟩:=e
     obtain rfl:=eq_of_heq e
     exact .inl ⟨xs,rfl,(dE xs).symm⟩
    |succ k=>simp at e
   ·match k,e with
    |0,e=>simp [Cc] at e
    |k+1,e=>simp at hk
   ·match k,hk with
    |0,hk =>
     simp at hk
     subst hk
     refine ⟨b,c,hb,fun h=>by omega,hcm,fun _=>⟨(Rg xs).map (Value.int .i64),junk2,hh2,?_,fun u hu=>?_,by simpa [sz] using hl2⟩⟩
     ·rw [EW]
      refine ⟨by simp,fun i x u hx hu=>?_⟩
      simp only [List.getElem?_map] at hx hu
      obtain ⟨z,hz,rfl⟩:=Option.map_eq_some_iff.1 hx
      rw [hz] at hu
      injection hu with hu
      subst hu
      exact Ri.s _
     ·obtain ⟨z,_,rfl⟩:=List.mem_map.1 hu;rfl
    |k+1,hk=>simp at hk
   ·match j,k,hj,hk with
    |0,0,_,_=>rfl
    |0,k+1,_,hk=>simp at hk
    |j+1,_,hj,_=>simp at hj
end
section
open Go.RowKit
theorem tE:(Tryz.prog.info? 3).map (fun i=>(i.zero,i.size,i.bytes))=some (some (.int .i64 0),1,8):=by kernel_rfl
theorem GW (c:Nat) (hc:c≤64) (w:World):Calls Tryz.prog 78 #[.int .u64 1,.int .u64 (c:Int)] w fun e w'=>e=.returned (.tuple #[.int .u64 0,.int .u64 (c:Int)])∧w=w':=by
  refine (Tryz.bits_Mul 1 c (by decide) (by omega) w).mono ?_
  rintro e w' ⟨he,hw⟩
  refine ⟨?_,hw.symm⟩
  rw [he,Nat.one_mul,Nat.div_eq_of_lt (by omega),Nat.mod_eq_of_lt (by omega)]
  rfl
def Td (v z:Value) (n m:Nat):List Value:=List.replicate n v++List.replicate m z
theorem dH (v z:Value) (n m:Nat):(Td v z n m).length=n+m:=by simp [Td]
theorem tF (v z:Value) (n m j:Nat) (h:j<n):(Td v z n m)[j]? =some v:=by simp [Td,List.getElem?_append,h]
theorem FN (v z:Value) (n m k:Nat) (hk:k≤m):Go.splice (Td v z n m) n (List.replicate k v)=Td v z (n+k) (m-k):=by
  simp only [Go.splice,Td,List.length_replicate]
  rw [List.take_left' (by simp),List.drop_append,List.drop_of_length_le (by simp),List.nil_append,List.length_replicate,List.drop_replicate,←List.append_assoc,List.replicate_append_replicate]
  congr 2
  omega
theorem HW (w:World) (v z:Value) (c:Nat) (t:TypeId):(w.alloc (.cells (madeCells #[z] c) t)).heap[w.heap.size]? =some (.cells (Td v z 0 c).toArray t (0,0)):=by
  have h:=heap_alloc_new w (.cells (madeCells #[z] c) t)
  have e:madeCells #[z] c=(Td v z 0 c).toArray:=by
    apply Array.toList_inj.1
    rw [toList_madeCells_one]
    simp [Td]
  rw [←e]
  exact h
theorem dI (w:World) (O:Obj) {b o:Nat} {v:Value} (h:w.cell? ⟨b,o,none⟩=some v):∀j u,[v][j]? =some u→(w.alloc O).cell? ((⟨b,o,none⟩:Addr).add j)=some u:=by
  intro j u hu
  cases j with
  |zero =>
   simp at hu
   subst hu
   rw [Addr.add_lit,Nat.add_zero,World.cell?_alloc_lt w O _ (PB h)]
   exact h
  |succ j=>simp at hu
theorem dJ {w:World} {g n m k:Nat} {v z:Value} {t:TypeId} (h:w.heap[g]? =some (.cells (Td v z n m).toArray t (0,0))) (hk:k≤n):∀j u,(List.replicate k v)[j]? =some u→w.cell? ((⟨g,0,none⟩:Addr).add j)=some u:=by
  intro j u hu
  obtain ⟨hj,rfl⟩:=List.getElem?_eq_some_iff.1 hu
  simp only [List.length_replicate] at hj
  rw [Addr.add_lit,Nat.zero_add,cell_of_row w g j _ t (0,0) h,List.getElem?_toArray,tF _ _ _ _ _ (by omega)]
  simp
set_option maxRecDepth 100000 in
set_option maxHeartbeats 1000000 in
theorem tG (v:Int) (b o cap c:Nat) (hc0:0<c) (hc:c≤64) (w:World) (hcell:w.cell? ⟨b,o,none⟩=some (.int .i64 v)) :
    Calls Tryz.prog 47 #[.slice (some ⟨b,o,none⟩) 1 cap,.int .i64 (c:Int)] w fun e w'=>∃g,e=.returned (.slice (some ⟨g,0,none⟩) c c)∧w.heap.size≤g∧Ie w' g 3 (List.replicate c (.int .i64 v)).toArray∧Below w.heap.size w w':=by
  have hb:=PB hcell
  have hmk:=run_make_row' (P:=Tryz.prog) 31 3 (.int .i64 0) 8 Tryz.underlying31 tE rfl .i64 .i64 c (by omega) (by omega)
  have e1:((0:Int)<0)=False:=by simp
  go_enter Tryz.func47,Tryz.ntmps47
  go_wp2_with (first
    |(go_at_call 78;refine (GW c hc _).mono ?_;rintro e w' ⟨rfl,rfl⟩)
    |(with_reducible show wpList _ _ _ (⟨some 33,_,_,_,_,_⟩::_) _ _
      go_must (refine wpList_copy_splice (o:=⟨some 33,_,_,_,_,_⟩) rfl (.tmp 31) (.tmp 32) 31 31 rfl 3 Tryz.underlying31 (by kernel_rfl) (some ⟨w.heap.size,0,none⟩) (some ⟨b,o,none⟩) c c 1 cap rfl rfl w.heap.size 0 (Td (.int .i64 v) (.int .i64 0) 0 c) 3 (HW _ _ _ _ _) [.int .i64 v] (Nat.min_eq_left hc0).symm (fun _=>⟨rfl,_,rfl,dI _ _ hcell⟩) (by simp [Td];omega) (by simp [Value.oneCell']) w.heap.size w ((Below.refl _ _).alloc (Nat.le_refl _) _) (Nat.le_refl _) ?_)
      intro w1 hg1 hb1))
  rw [show Go.splice (Td (.int .i64 v) (.int .i64 0) 0 c) 0 [.int .i64 v]=Td (.int .i64 v) (.int .i64 0) 1 (c-1) from by have:=FN (.int .i64 v) (.int .i64 0) 0 c 1 (by omega);simpa using this] at hg1
  go_loopw [8] (fun i wr=>∃n:Nat,0<n∧n≤c∧i=.int .i64 n∧Below w.heap.size w wr∧Hid (wr.heap[w.heap.size]? =some (.cells (Td (.int .i64 v) (.int .i64 0) n (c-n)).toArray 3 (0,0)))) (fun i _=>c-(intOf i).toNat)
  case atStart=>exact ⟨1,by omega,by omega,rfl,hb1,hg1⟩
  case round =>
    clear hg1 hb1
    obtain ⟨n,hn0,hn,rfl,hb2,hg2⟩:=hrel
    have Hb:=Lib.hid hb2;clear hb2
    by_cases hlt:n<c
    ·have hne:¬c=n:=by omega
     have hg4:Hid (wr.drew.heap[w.heap.size]? =some (.cells (Td (.int .i64 v) (.int .i64 0) n (c-n)).toArray 3 (0,0))):=hg2
     go_wp2_with fail
     obtain ⟨m,hme,hmn,hmp⟩:∃m,Hid (m=Nat.min n (c-n))∧m≤c-n∧0<m:=⟨_,rfl,Nat.min_le_right _ _,Nat.lt_min.2 ⟨hn0,by omega⟩⟩
     refine P7 9 [(0,true),(1,true),(2,true),(3,true),(4,true),(5,true),(6,true),(7,true),(8,true)] (by kernel_rfl) (by kernel_rfl) ?_
     simp only [Bc,List.filterMap_cons,List.filterMap_nil,List.getElem?_cons_zero,List.getElem?_cons_succ,Option.map_some,List.drop_succ_cons,List.drop_zero]
     repeat (first|refine Mx rfl ?_|(refine VB rfl rfl (fun K hK=>?_);go_big_quiet_op;refine hK _ ?_;clear hK K))
     try refine Zp ?_
     refine OS rfl rfl (fun K hK=>?_)
     refine O7 rfl (step_copy_splice rfl (.tmp 41) (.tmp 44) 31 31 rfl 3 Tryz.underlying31 (by kernel_rfl) (some ⟨w.heap.size,n,none⟩) (some ⟨w.heap.size,0,none⟩) (c-n) (c-n) n c rfl rfl w.heap.size n (Td (.int .i64 v) (.int .i64 0) n (c-n)) 3 hg2.out (List.replicate m (.int .i64 v)) (by rw [List.length_replicate];exact hme.out) (fun _=>⟨rfl,_,rfl,dJ hg2.out (hme.out▸Nat.min_le_left _ _)⟩) (by rw [dH,List.length_replicate];omega) (fun u hu=>by rw [List.eq_of_mem_replicate hu];rfl) w.heap.size w Hb.out.drew (Nat.le_refl _) ?_)
     intro w2 hg3 hb3
     rw [List.length_replicate]
     go_simp
     refine hK _ _ trivial ?_
     clear hK K
     repeat (first|refine Mx rfl ?_|(refine VB rfl rfl (fun K hK=>?_);go_big_quiet_op;refine hK _ ?_;clear hK K))
     try refine Zp ?_
     rw [FN _ _ _ _ _ hmn] at hg3
     go_wp2_with fail
     go_roundw
     case rel =>
       refine ⟨n+m,by omega,by omega,by go_num,hb3,?_⟩
       rw [show c-(n+m)=c-n-m by omega]
       exact hg3
     case measure=>simp [intOf];omega
    ·obtain rfl:n=c:=by omega
     go_wp2_with fail
     go_ret
     refine ⟨w.heap.size,rfl,Nat.le_refl _,?_,Hb.out⟩
     have:=hg2.out
     simpa [Td,Ie] using this
end
section
open Go.RowKit
def IW :List Int→Option Int
  |[v]=>some v
  |_=>none
def SD (s:List Int×Int×Unit):Option (List Int×Unit):=match IW s.1 with
  |some v=>bif decide (0<s.2.1∧s.2.1≤64) then some (List.replicate s.2.1.toNat v,()) else none
  |none=>none
def TD:Oa:=⟨⟨[.c (.one (.b (.sl false .int))),.c (.one (.b (.int .i64)))],[]⟩,[.ls .int,.int],⟨[.c (.one (.own 0))],[.row 3 .int]⟩,[.ls .int],SD⟩
theorem dK:GC Tryz.prog 47 TD:=by
  intro s r hs ds os hf d h' hr w X β args hX hH hargs _
  obtain ⟨xs,n,_⟩:=s
  change Int at n
  change List Int at xs
  have hs:(match IW xs with|some v=>(bif decide (0<n∧n≤64) then some (List.replicate n.toNat v,()) else none)|none=>none)=some r:=hs
  split at hs
  case h_2=>cases hs
  rename_i v hv
  obtain rfl:xs=[v]:=by
    unfold IW at hv
    split at hv
    ·injection hv with hv;subst hv;rfl
    ·cases hv
  have hs:(bif decide (0<n∧n≤64) then some (List.replicate n.toNat v,()) else none)=some r:=hs
  cases hd:decide (0<n∧n≤64) with
  |false=>rw [hd] at hs;cases hs
  |true =>
  rw [hd] at hs
  injection hs with hs
  subst hs
  have hn:0<n∧n≤64:=oT hd
  obtain ⟨c,rfl⟩:∃c:Nat,n=(c:Int):=⟨n.toNat,by omega⟩
  have hf:some ([PV.im (.sl false .int [v]),PV.im (iI (c:Int))],([]:List Fa))=some (ds,os):=hf
  injection hf with hf
  injection hf with hf1 hf2
  subst hf1 hf2
  have hr:some ([PV.own 0],[Fa.row 3 .int (List.replicate (c:Int).toNat v)])=some ([d],h'):=hr
  rw [Int.toNat_natCast] at hr
  injection hr with hr
  injection hr with hr1 hr2
  injection hr1 with hr1
  subst hr1 hr2
  obtain ⟨u,_,rfl,hu,hr⟩:=hargs.cons_inv
  obtain ⟨u2,_,rfl,hu2,hnil⟩:=hr.cons_inv
  obtain rfl:=hnil.nil_inv
  obtain rfl:u2=.int .i64 (c:Int):=Rf hu2
  have hu:Ri w (Ka [] β) X (.sl false .int [v]) u:=hu
  cases hu with
  |sl g τ xs A cap b o us hA hcap hl hc hr =>
  have hus:us=[v].map (Value.int .i64):=dG ⟨hl,hr⟩
  subst hus
  obtain ⟨rfl,hb,_,_⟩:=hA (by simp)
  have hcell:=hc 0 (.int .i64 v) rfl
  refine (tG v b o cap c (by omega) (by omega) w hcell).mono ?_
  rintro ex w' ⟨g,rfl,hg,hblk,hbl⟩
  have hgl:g<w'.heap.size:=(Array.getElem?_eq_some_iff.1 hblk).1
  have hβ:β=[]:=List.length_eq_zero_iff.1 hH.len
  subst hβ
  have hcm:c≤maxLen:=by unfold maxLen;omega
  have liv:∀b',Ka [Fa.row 3 .int (List.replicate c v)] [(g,c)] b'→b'=g:=fun b' ⟨k,o,c',h1,h2,h3⟩=>by
    cases k with
    |zero=>simp at h3;exact h3.1.symm
    |succ k=>simp at h3
  refine ⟨_,[(g,c)],rfl,⟨hbl.os,hbl.tape,hbl.output,hbl.size,fun i hi _=>hbl.block i hi,fun i hi h=>?_,fun k p h=>by simp at h,⟨Nat.zero_le _,fun k t τ ys hk e=>by simp at hk,fun k hk e=>by simp at hk⟩⟩,⟨rfl,fun i h=>h,fun i h hx=>?_,fun k o hk=>?_,fun j k o o' b1 c1 c2 hj hk _ _ _ _=>?_⟩,?_⟩
  ·rw [liv i h] at hi;omega
  ·rw [liv i h] at hx;have:=hX g hx;omega
  ·cases k with
   |succ k=>simp at hk
   |zero =>
    simp at hk
    subst hk
    refine ⟨g,c,rfl,fun h=>by omega,hcm,fun _=>⟨(List.replicate c v).map (Value.int .i64),[],by rw [List.append_nil,List.map_replicate];exact hblk,?_,fun u hu=>?_,by simp [sz]⟩⟩
    ·rw [EW]
     refine ⟨by simp,fun i x u hx hu=>?_⟩
     simp only [List.getElem?_map] at hx hu
     obtain ⟨z,hz,rfl⟩:=Option.map_eq_some_iff.1 hx
     rw [hz] at hu
     injection hu with hu
     subst hu
     exact Ri.s _
    ·obtain ⟨z,_,rfl⟩:=List.mem_map.1 hu;rfl
  ·cases j with
   |succ j=>simp at hj
   |zero=>cases k with
    |zero=>rfl
    |succ k=>simp at hk
  ·refine ⟨by simp,rfl,⟨_,_,_,rfl⟩,fun t τ ys e=>?_⟩
   simp at e
   obtain ⟨rfl,e⟩:=e
   obtain ⟨rfl,e⟩:=e
   obtain rfl:=eq_of_heq e
   exact ⟨g,c,some ⟨g,0,none⟩,rfl,by rw [List.length_replicate],fun _=>rfl,fun h=>by omega⟩
end
section
open Go.RowKit
set_option maxRecDepth 100000 in
set_option maxHeartbeats 1000000 in
theorem tH (n c:Nat) (w:World):Calls Tryz.prog 135 #[.slice none n c] w fun e w'=>e=.returned (.slice none 0 0)∧w'=w:=by
  have q22:∀(w:World) (a:Option Addr) (n c n' c':Nat),(binOp .eql 46 (.slice a n c) (.slice none n' c')).run Tryz.prog w=.ok (.bool a.isNone) w:=fun w a n c n' c'=>Go.Lib.run_eql_slice_nil w _ _ a n c n' c' Tryz.underlying46
  go_enter Tryz.func135,Tryz.ntmps135
  go_wp2
  go_ret
  exact ⟨rfl,rfl⟩
set_option maxRecDepth 100000 in
set_option maxHeartbeats 1000000 in
theorem tI (A:Addr) (n c:Nat) (news:List Value) (w:World) (hl:news.length=n*2) (hn:n≤16777216) (hc:∀j u,news[j]? =some u→w.cell? (A.add j)=some u) (h1:∀u∈news,u.oneCell'=true) :
    Calls Tryz.prog 135 #[.slice (some A) n c] w fun ex w'=>∃v',ex=.returned v'∧w'.ownsRow w.heap.size 93 2 v' n news∧v'≠.slice none 0 0∧Below w.heap.size w w':=by
  have q22:∀(w:World) (a:Option Addr) (n c n' c':Nat),(binOp .eql 46 (.slice a n c) (.slice none n' c')).run Tryz.prog w=.ok (.bool a.isNone) w:=fun w a n c n' c'=>Go.Lib.run_eql_slice_nil w _ _ a n c n' c' Tryz.underlying46
  have A0:Hid (∀j u,news[j]? =some u→w.cell? (A.add j)=some u):=Lib.hid hc
  clear hc
  obtain ⟨i0,hi,hz0,hz1,hz2⟩:=Xe QV
  obtain ⟨AB,AO,AS⟩:=A
  go_enter Tryz.func135,Tryz.ntmps135
  go_wp2_with (at_builtin;refine wpList_append_own _ rfl _ _ 46 rfl w.heap.size 93 i0 _ 2 16 Tryz.underlying46 hi hz0 hz1 hz2 rfl (by decide) _ _ _ rfl (World.ownsRow_made w #[] 0 (Nat.le_refl _) (Nat.zero_le _) (by simp)) ⟨AB,AO,AS⟩ n c news rfl ?qc1 ?qc2 ?qc3 ?qc4 ?qc5 ?qc6 ?_)
  case qc1=>exact hl
  case qc2=>exact fun j u hj=>Go.Lib.cell?_alloc_some _ (A0.out j u hj)
  case qc3=>exact h1
  case qc4=>unfold maxLen;omega
  case qc5=>omega
  case qc6=>simp
  intro v' w1 hown hgrow hnil
  go_wp2
  go_ret
  refine ⟨v',rfl,by simpa using hown,hnil,?_⟩
  exact ((Below.refl _ w).alloc (Nat.le_refl _) _).grown hgrow (by simp) (by intro k hk;simp [Value.ownBlock] at hk;omega)
end
section
open Go.RowKit
theorem dL:(Tryz.prog.info? 4).map (fun i=>(i.zero,i.size,i.bytes))=some (some (.bool false),1,1):=by kernel_rfl
set_option maxRecDepth 100000 in
set_option maxHeartbeats 1000000 in
theorem tJ (v:Bool) (b o cap c:Nat) (hc0:0<c) (hc:c≤64) (w:World) (hcell:w.cell? ⟨b,o,none⟩=some (.bool v)) :
    Calls Tryz.prog 46 #[.slice (some ⟨b,o,none⟩) 1 cap,.int .i64 (c:Int)] w fun e w'=>∃g,e=.returned (.slice (some ⟨g,0,none⟩) c c)∧w.heap.size≤g∧Ie w' g 4 (List.replicate c (.bool v)).toArray∧Below w.heap.size w w':=by
  have hb:=PB hcell
  have hmk:=run_make_row' (P:=Tryz.prog) 30 4 (.bool false) 1 Tryz.underlying30 dL rfl .i64 .i64 c (by omega) (by omega)
  have e1:((0:Int)<0)=False:=by simp
  go_enter Tryz.func46,Tryz.ntmps46
  go_wp2_with (first
    |(go_at_call 78;refine (GW c hc _).mono ?_;rintro e w' ⟨rfl,rfl⟩)
    |(with_reducible show wpList _ _ _ (⟨some 33,_,_,_,_,_⟩::_) _ _
      go_must (refine wpList_copy_splice (o:=⟨some 33,_,_,_,_,_⟩) rfl (.tmp 31) (.tmp 32) 30 30 rfl 4 Tryz.underlying30 (by kernel_rfl) (some ⟨w.heap.size,0,none⟩) (some ⟨b,o,none⟩) c c 1 cap rfl rfl w.heap.size 0 (Td (.bool v) (.bool false) 0 c) 4 (HW _ _ _ _ _) [.bool v] (Nat.min_eq_left hc0).symm (fun _=>⟨rfl,_,rfl,dI _ _ hcell⟩) (by simp [Td];omega) (by simp [Value.oneCell']) w.heap.size w ((Below.refl _ _).alloc (Nat.le_refl _) _) (Nat.le_refl _) ?_)
      intro w1 hg1 hb1))
  rw [show Go.splice (Td (.bool v) (.bool false) 0 c) 0 [.bool v]=Td (.bool v) (.bool false) 1 (c-1) from by have:=FN (.bool v) (.bool false) 0 c 1 (by omega);simpa using this] at hg1
  go_loopw [8] (fun i wr=>∃n:Nat,0<n∧n≤c∧i=.int .i64 n∧Below w.heap.size w wr∧Hid (wr.heap[w.heap.size]? =some (.cells (Td (.bool v) (.bool false) n (c-n)).toArray 4 (0,0)))) (fun i _=>c-(intOf i).toNat)
  case atStart=>exact ⟨1,by omega,by omega,rfl,hb1,hg1⟩
  case round =>
    clear hg1 hb1
    obtain ⟨n,hn0,hn,rfl,hb2,hg2⟩:=hrel
    have Hb:=Lib.hid hb2;clear hb2
    by_cases hlt:n<c
    ·have hne:¬c=n:=by omega
     have hg4:Hid (wr.drew.heap[w.heap.size]? =some (.cells (Td (.bool v) (.bool false) n (c-n)).toArray 4 (0,0))):=hg2
     go_wp2_with fail
     obtain ⟨m,hme,hmn,hmp⟩:∃m,Hid (m=Nat.min n (c-n))∧m≤c-n∧0<m:=⟨_,rfl,Nat.min_le_right _ _,Nat.lt_min.2 ⟨hn0,by omega⟩⟩
     refine P7 9 [(0,true),(1,true),(2,true),(3,true),(4,true),(5,true),(6,true),(7,true),(8,true)] (by kernel_rfl) (by kernel_rfl) ?_
     simp only [Bc,List.filterMap_cons,List.filterMap_nil,List.getElem?_cons_zero,List.getElem?_cons_succ,Option.map_some,List.drop_succ_cons,List.drop_zero]
     repeat (first|refine Mx rfl ?_|(refine VB rfl rfl (fun K hK=>?_);go_big_quiet_op;refine hK _ ?_;clear hK K))
     try refine Zp ?_
     refine OS rfl rfl (fun K hK=>?_)
     refine O7 rfl (step_copy_splice rfl (.tmp 41) (.tmp 44) 30 30 rfl 4 Tryz.underlying30 (by kernel_rfl) (some ⟨w.heap.size,n,none⟩) (some ⟨w.heap.size,0,none⟩) (c-n) (c-n) n c rfl rfl w.heap.size n (Td (.bool v) (.bool false) n (c-n)) 4 hg2.out (List.replicate m (.bool v)) (by rw [List.length_replicate];exact hme.out) (fun _=>⟨rfl,_,rfl,dJ hg2.out (hme.out▸Nat.min_le_left _ _)⟩) (by rw [dH,List.length_replicate];omega) (fun u hu=>by rw [List.eq_of_mem_replicate hu];rfl) w.heap.size w Hb.out.drew (Nat.le_refl _) ?_)
     intro w2 hg3 hb3
     rw [List.length_replicate]
     go_simp
     refine hK _ _ trivial ?_
     clear hK K
     repeat (first|refine Mx rfl ?_|(refine VB rfl rfl (fun K hK=>?_);go_big_quiet_op;refine hK _ ?_;clear hK K))
     try refine Zp ?_
     rw [FN _ _ _ _ _ hmn] at hg3
     go_wp2_with fail
     go_roundw
     case rel =>
       refine ⟨n+m,by omega,by omega,by go_num,hb3,?_⟩
       rw [show c-(n+m)=c-n-m by omega]
       exact hg3
     case measure=>simp [intOf];omega
    ·obtain rfl:n=c:=by omega
     go_wp2_with fail
     go_ret
     refine ⟨w.heap.size,rfl,Nat.le_refl _,?_,Hb.out⟩
     have:=hg2.out
     simpa [Td,Ie] using this
set_option maxRecDepth 100000 in
set_option maxHeartbeats 1000000 in
theorem tK (v:Bool) (b o cap:Nat) (w:World):Calls Tryz.prog 46 #[.slice (some ⟨b,o,none⟩) 1 cap,.int .i64 0] w fun e w'=>e=.returned (.slice (some ⟨w.heap.size,0,none⟩) 0 0)∧Below w.heap.size w w':=by
  have hmk:=run_make_row' (P:=Tryz.prog) 30 4 (.bool false) 1 Tryz.underlying30 dL rfl .i64 .i64 0 (by omega) (by omega)
  have hmk0:∀w,Sem.run Tryz.prog (Instr.makeSlice 30 (.int .i64 0) (.int .i64 0)) w=Result.ok (.slice (some ⟨w.heap.size,0,none⟩) 0 0) (w.alloc (.cells (madeCells #[Value.bool false] 0) 4)):=hmk
  clear hmk
  have hmul:=GW 0 (by omega)
  go_enter Tryz.func46,Tryz.ntmps46
  go_wp2_with (first
    |(go_at_call 78;refine (hmul _).mono ?_;rintro e w' ⟨rfl,rfl⟩)
    |(with_reducible show wpList _ _ _ (⟨some 33,_,_,_,_,_⟩::_) _ _
      go_must (refine wpList_copy_splice (o:=⟨some 33,_,_,_,_,_⟩) rfl (.tmp 31) (.tmp 32) 30 30 rfl 4 Tryz.underlying30 (by kernel_rfl) (some ⟨w.heap.size,0,none⟩) (some ⟨b,o,none⟩) 0 0 1 cap rfl rfl w.heap.size 0 (Td (.bool v) (.bool false) 0 0) 4 (HW _ _ _ _ _) [] rfl (fun h=>by simp at h) (by simp [Td]) (by simp) w.heap.size w ((Below.refl _ _).alloc (Nat.le_refl _) _) (Nat.le_refl _) ?_)
      intro w1 hg1 hb1))
  go_loopw [8] (fun i wr=>i=.int .i64 0∧Below w.heap.size w wr) (fun i _=>0)
  case atStart=>exact ⟨rfl,hb1⟩
  case round =>
    clear hg1 hb1
    obtain ⟨rfl,hb2⟩:=hrel
    go_wp2_with fail
    go_ret
    exact ⟨rfl,hb2⟩
end
section
open Go.RowKit
theorem JW {w:World} {b j:Nat} {cur:Array Value} {t:TypeId} (h:w.heap[b]? =some (.cells cur t (0,0))):w.frozen? ⟨b,j,none⟩=false:=by simp [World.frozen?,h]
theorem tL {w:World} {b j:Nat} {cur:Array Value} {t:TypeId} (h:w.heap[b]? =some (.cells cur t (0,0))) (hj:j<cur.size):(w.cell? ⟨b,j,none⟩).isSome=true:=by simp [World.cell?,h,hj]
theorem Mr {w:World} {b j:Nat} {l:List Value} {t:TypeId} {u:Value} (h:w.heap[b]? =some (.cells l.toArray t (0,0))) (hj:l[j]? =some u):w.cell? ⟨b,j,none⟩=some u:=by
  have:=(List.getElem?_eq_some_iff.1 hj).1
  simp [World.cell?,h,hj]
set_option maxRecDepth 100000 in
set_option maxHeartbeats 4000000 in
theorem tM (b c n i:Nat) (us junk:List Value) (w:World) (hblk:w.heap[b]? =some (.cells (us++junk).toArray 86 (0,0))) (hul:us.length=n*4) (hcl:(us++junk).length=c*4) (hi:i<n) (hn:n≤c) (hm:c≤9223372036854775807) (h1:∀u∈us,u.oneCell'=true):Calls Tryz.prog 85 #[.slice (some ⟨b,0,none⟩) n c,.int .i64 (i:Int),.int .i64 ((i:Int)+1)] w fun e w'=>e=.returned (.slice (some ⟨b,0,none⟩) (n-1) c)∧∃q X,X.length=(us++junk).length-(n-1)*4∧w'=(w.drewN q).setRow b (us.take (i*4)++us.drop ((i+1)*4)++X).toArray:=by
  have hj:((i:Int)+1)=((i+1:Nat):Int):=by omega
  rw [hj]
  obtain ⟨news,hnews⟩:∃news,news=us.drop ((i+1)*4):=⟨_,rfl⟩
  have hlen:news.length=(n-(i+1))*4:=by rw [hnews,List.length_drop,hul,Nat.sub_mul]
  obtain ⟨A,hA,hsrc⟩:∃A:Addr,(if c=i+1 then some (⟨b,0,none⟩:Addr) else some ⟨b,(i+1)*4,none⟩)=some A∧Hid (∀t u,news[t]? =some u→w.drew.cell? (A.add t)=some u):=by
    by_cases h:c=i+1
    ·refine ⟨⟨b,0,none⟩,by simp [h],fun t u hu=>?_⟩
     have h0:news.length=0:=by rw [hlen];omega
     rw [List.length_eq_zero_iff.1 h0] at hu
     simp at hu
    ·refine ⟨⟨b,(i+1)*4,none⟩,by simp [h],fun t u hu=>?_⟩
     rw [hnews,List.getElem?_drop] at hu
     rw [Addr.add_lit]
     have hlt:=(List.getElem?_eq_some_iff.1 hu).1
     exact Mr (w:=w) (l:=us++junk) hblk (by rw [List.getElem?_append_left hlt];exact hu)
  have s1:Hid (news.length=(n-(i+1))*4):=hlen
  have s2:Hid (∀u∈news,u.oneCell'=true):=fun u hu=>h1 u (List.mem_of_mem_drop (by rw [←hnews];exact hu))
  have s3:Hid (∀t,t<news.length→(w.drew.cell? ⟨b,0+i*4+t,none⟩).isSome=true∧w.drew.frozen? ⟨b,0+i*4+t,none⟩=false):=fun t ht=>by
    rw [hlen] at ht
    refine ⟨tL (w:=w.drew) (t:=86) (cur:=(us++junk).toArray) hblk ?_,JW (w:=w.drew) (t:=86) (cur:=(us++junk).toArray) hblk⟩
    have:(us++junk).toArray.size=c*4:=by simpa using hcl
    rw [this];omega
  obtain ⟨W1,hW1⟩:∃W1,W1=w.drew.setCells b (0+i*4) news:=⟨_,rfl⟩
  have hW1':W1=w.drew.setRow b ((us++junk).take (i*4)++news++(us++junk).drop (i*4+news.length)).toArray:=by
    rw [hW1,cD news (0+i*4) (us++junk).toArray w.drew hblk (by simp only [List.size_toArray];rw [hcl,hlen];omega)]
    simp
  have hrow1:W1.heap[b]? =some (.cells ((us++junk).take (i*4)++news++(us++junk).drop (i*4+news.length)).toArray 86 (0,0)):=by rw [hW1'];exact setRow_heap w.drew b _ _ _ _ hblk
  have hsz1:((us++junk).take (i*4)++news++(us++junk).drop (i*4+news.length)).length=c*4:=by
    simp only [List.length_append,List.length_take,List.length_drop] at hcl ⊢
    rw [hlen];omega
  obtain ⟨zs,hzl,hcl0⟩:∃zs:List Value,zs.length=1*4∧∀ty,(Builtin.clear_ #[33] ty #[.slice (some ⟨b,(i+(n-(i+1)))*4,none⟩) (n-(i+(n-(i+1)))) (c-(i+(n-(i+1))))]).run Tryz.prog W1=.ok (.tuple #[]) (W1.setRow b (((us++junk).take (i*4)++news++(us++junk).drop (i*4+news.length)).take ((n-1)*4)++zs++((us++junk).take (i*4)++news++(us++junk).drop (i*4+news.length)).drop ((n-1)*4+zs.length)).toArray):=by
    rw [show i+(n-(i+1))=n-1 by omega,show n-(n-1)=1 by omega]
    obtain ⟨zs,h2,h3⟩:=sB (P:=Tryz.prog) W1 33 86 0 _ Tryz.underlying33 Tryz.zeroValue86 (by simp [Value.cells,Value.oneCell']) b ((n-1)*4) 1 (c-(n-1)) (by omega) _ 86 hrow1 (by simp only [List.size_toArray];rw [hsz1];simp [Value.cells];omega)
    refine ⟨zs,by simpa [Value.cells] using h2,fun ty=>?_⟩
    have:=h3
    simpa [Builtin.clear_] using h3
  have X:Hid (W1=w.drew.setRow b ((us++junk).take (i*4)++news++(us++junk).drop (i*4+news.length)).toArray):=hW1'
  have hW:Hid (W1=w.drew.setCells b (0+i*4) news):=hW1
  have N0:Hid (news=us.drop ((i+1)*4)):=hnews
  have Hr:Hid (W1.heap[b]? =some (.cells ((us++junk).take (i*4)++news++(us++junk).drop (i*4+news.length)).toArray 86 (0,0))):=hrow1
  have Hs:Hid (((us++junk).take (i*4)++news++(us++junk).drop (i*4+news.length)).length=c*4):=hsz1
  have hic:i≤c:=by omega
  have hjc:i+1≤c:=by omega
  have hne:¬(i=i+1):=by omega
  have mixed0:=mixed
  have hp0:(0:Int)≤(i:Int)+1:=by omega
  have hp1:(i:Int)+1≤(n:Int):=by omega
  obtain ⟨i0,hi0,hz0,hz1,hz2⟩:=Xe NV
  clear hW1 hW1' hrow1 hsz1 hnews hlen hj hblk
  go_enter Tryz.func85,Tryz.ntmps85
  go_wp2_with fail
  go_region_law_o (refine step_append_room rfl (.tmp 22) (.tmp 25) 33 rfl 86 i0 4 Tryz.underlying33 hi0 hz1 b 0 i c (by simp [Act.eval,Act.put]) A (n-(i+1)) (c-(i+1)) news (by simp [Act.eval,Act.put]) s1.out hsrc.out s2.out (by omega) s3.out ?_;rw [←hW.out])
  go_wp2
  go_ret
  refine ⟨by rw [show n-1=i+(n-(i+1)) by omega];rfl,1,zs++((us++junk).take (i*4)++news++(us++junk).drop (i*4+news.length)).drop ((n-1)*4+zs.length),?_,?_⟩
  ·rw [List.length_append,List.length_drop,Hs.out,hzl,hcl];omega
  ·rw [X.out,setRow_setRow]
   have hnl:=s1.out
   have e1:((us++junk).take (i*4)++news++(us++junk).drop (i*4+news.length)).take ((n-1)*4)=us.take (i*4)++us.drop ((i+1)*4):=by
     have h0:(us++junk).take (i*4)=us.take (i*4):=List.take_append_of_le_length (by omega)
     have h2:((n-1)*4)=(us.take (i*4)++news).length:=by rw [List.length_append,List.length_take,hnl,hul];omega
     rw [h0,h2,List.take_left,N0.out]
   simp only [List.append_assoc] at e1 ⊢
   rw [e1]
   have hz4:zs.length=4:=by omega
   simp only [List.append_assoc,hz4]
   rfl
end
end Go.Proofs.YtjffopopheiinaaGreatDoor
