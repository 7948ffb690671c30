/- Part 7 of the proof: PuA PuB PuC KD KU KF PuD PuF. -/
import Derived.KernelRfl
import Derived.Test.YtjffopopheiinaaGreatDoorQi6
set_option linter.unusedSimpArgs false
set_option linter.unusedVariables false
set_option maxRecDepth 100000
namespace Go.Proofs.YtjffopopheiinaaGreatDoor
section
open Go.RowKit
open Go.Lib (itoa decDigits)
theorem lL {db:List Ls} {j:Nat} (h:j<db.length):(db.take (j+1)).map (·.s)=(db.take j).map (·.s)++[(Ib db j).s]:=by
  rw [←GR h,List.map_append]
  rfl
theorem IS {db:List Ls} (h:Md db):∀x∈db.map (·.s),NR x:=fun x hx=>by
  obtain ⟨l,hl,rfl⟩:=List.mem_map.1 hx
  have:=(Co.1 h).1 l hl
  have:=this.2.2
  unfold NR
  omega
theorem I6 {db:List Ls} (h:Md db) {k:Nat} (hk:k<1000):(Ad Yp ((k:Int)::db.map (·.s))).length≤300:=by
  have h1:=Cl (l:=(k:Int)::db.map (·.s)) (by
    intro x hx
    rcases List.mem_cons.1 hx with rfl|hx
    ·unfold NR;omega
    ·exact IS h x hx)
  have h2:=h.len
  have h4:Yp.length=4:=rfl
  rw [List.length_cons,List.length_map] at h1
  unfold Ad
  rw [List.length_append,List.length_append,List.length_singleton]
  omega
theorem JS {db:List (List Ls)} (h:∀i,i<db.length→Md (Qa db i)) (hl:db.length≤8):∀k,k≤db.length→(If db k).length≤300*k
  |0,_=>by simp [If]
  |k+1,hk=>by
   have h1:=JS h hl k (by omega)
   have h2:=I6 (h k (by omega)) (k:=k) (by omega)
   rw [U5,List.length_append]
   omega
theorem yBA {out:ByteArray} {db:List (List Ls)} {d:List Ls} (hd:d.length≤8) (k dl:Int):Ba (lp QA Ea (out,dl,k,d,(d.length:Int),(0:Int),[k],db,())) fun r=>match r with| .inl x=>x=(out,dl,k,k::d.map (·.s),db,())| .inr _=>False:=by
  refine Ba.count d.length (fun j s=>s=(out,dl,k,d,(d.length:Int),(j:Int),k::(d.take j).map (·.s),db,())) ?_ (Nat.zero_le _) (Jb (by omega)) (by simp)
  rintro j s hj rfl
  by_cases hlt:j<d.length
  ·have h3:(d.take j).length≤j:=List.length_take_le _ _
   simp (disch:=omega) only [QA,Tg,Wa,Na,List.length_cons,List.length_map,List.length_nil]
   refine Ba.gd (decide_eq_true (by omega)) (Ba.gd (Ia (by omega) (by omega)) (Ba.gd (decide_eq_true (by omega)) (.some ⟨hlt,?_⟩)))
   rw [lL hlt];rfl
  ·obtain rfl:j=d.length:=by omega
   simp only [QA]
   rw [List.take_length]
   exact Ba.no (dF (by omega)) (.some rfl)
theorem yBB {db:List (List Ls)} (h:∀i,i<db.length→Md (Qa db i)) (hl:db.length≤8) {o:List UInt8} (ho:o.length≤4000000000000000000):Ba (lp RA Ea (bs o,(db.length:Int),(0:Int),db,())) fun r=>match r with| .inl x=>x=(bs (o++If db db.length),())| .inr _=>False:=by
  refine Ba.count db.length (fun k s=>s=(bs (o++If db k),(db.length:Int),(k:Int),db,())) ?_ (Nat.zero_le _) (Jb (by omega)) (by simp [If])
  rintro k s hk rfl
  by_cases hlt:k<db.length
  ·have hd:=h k hlt
   have h8:=hd.len
   have h2:=I6 hd (k:=k) (by omega)
   have h3:=JS h hl k (by omega)
   have h4:Yp.length=4:=rfl
   simp (disch:=omega) only [RA,Vg,Wa,Na,Ta]
   refine Ba.gd (decide_eq_true (by omega)) (Ba.gd (Ia (by omega) (by omega)) (Ba.bnd (yBA (db:=db) h8 (k:Int) (db.length:Int)) ?_))
   rintro (x|x) hx
   case inr=>exact hx.elim
   dsimp only at hx
   subst hx
   try dsimp only
   refine La (JK (w:=Yp) (by omega) (by rw [List.length_cons,List.length_map];omega) ?_) ?_
   ·intro x hx
    rcases List.mem_cons.1 hx with rfl|hx
    ·unfold NR;omega
    ·exact IS hd x hx
   ·try dsimp only
    simp only [Zc,Yb,List.length_append]
    refine Ba.gd (decide_eq_true (by omega)) (.some ⟨hlt,?_⟩)
    rw [U5,Na (by omega) (by omega),List.append_assoc];rfl
  ·obtain rfl:k=db.length:=by omega
   simp only [RA]
   exact Ba.no (dF (by omega)) (.some rfl)
theorem yBC {w:Wd} {o:List UInt8} (ho:o.length≤4000000000000000000) {k:Nat} (hk:k<w.db.length) (hd:Md (Qa w.db k)):Ba (lp LA Ea (bs o,(k:Int),(0:Int),w.n,w.ls,w.up,w.sq,w.db,w.net,())) fun r=>match r with| .inl x=>x=(bs (o++blk ((Qa w.db k).map (·.s))),(k:Int),w.n,w.ls,w.up,w.sq,w.db,w.net,())| .inr _=>False:=by
  have h8:=hd.len
  have hr:=IS hd
  refine Ba.count (Qa w.db k).length (fun j s=>s=(bs (o++blk (((Qa w.db k).take j).map (·.s))),(k:Int),(j:Int),w.n,w.ls,w.up,w.sq,w.db,w.net,())) ?_ (Nat.zero_le _) (Jb (by omega)) (by simp [blk])
  rintro j s hj rfl
  by_cases hlt:j<(Qa w.db k).length
  ·have h3:((Qa w.db k).take j).length≤j:=List.length_take_le _ _
   have hm:NR (Ib (Qa w.db k) j).s:=hr _ (List.mem_map.2 ⟨_,Uh hlt,rfl⟩)
   have h1:=Pi hm
   have h2:=Cl (l:=((Qa w.db k).take j).map (·.s)) fun x hx=>by
     obtain ⟨l,hl,rfl⟩:=List.mem_map.1 hx
     exact hr _ (List.mem_map.2 ⟨l,List.mem_of_mem_take hl,rfl⟩)
   rw [List.length_map] at h2
   simp (disch:=omega) only [LA,Vg,Tg,Wa,Na,Ta,Zc,Yb,List.length_append,List.length_cons,List.length_nil]
   refine Ba.gd (Ia (by omega) (by omega)) (Ba.gd (decide_eq_true (by omega)) (Ba.gd (decide_eq_true (by omega)) (Ba.gd (Ia (by omega) (by omega)) (Ba.gd (Ia (by omega) (by omega)) (La (Mo hm) ?_)))))
   simp only [Zc,Yb,List.length_append,List.length_cons,List.length_nil]
   refine Ba.gd (decide_eq_true (by omega)) (.some ⟨hlt,?_⟩)
   rw [lL hlt,kD]
   simp [blk]
  ·obtain rfl:j=(Qa w.db k).length:=by omega
   simp only [LA,Vg,Wa,Ta]
   rw [List.take_length]
   exact Ba.gd (Ia (by omega) (by omega)) (Ba.no (dF (by omega)) (.some rfl))
theorem zFL {w:Wd} (h:WV w Nb):QQ (w.n,w.ls,w.up,w.sq,w.db,w.net,())=some (bs (If w.db w.db.length),()):=by
  have h8:=h.nn
  have hdb:=h.db
  unfold QQ
  refine Ba.out (Ba.bnd (R:=fun r=>r=.inl (bs (If w.db w.db.length),())) ?_ ?_)
  ·refine Ba.count w.db.length (fun k s=>s=(bs (If w.db k),(k:Int),w.n,w.ls,w.up,w.sq,w.db,w.net,())) ?_ (Nat.zero_le _) (Jb (by omega)) (by simp [If])
   rintro k s hk rfl
   by_cases hlt:k<w.db.length
   ·have hd:=h.ok k hlt
    have hd8:=hd.len
    have h2:=I6 hd (k:=k) (by omega)
    have h3:=JS h.ok (by omega) k (by omega)
    have hkr:NR (k:Int):=by unfold NR;omega
    have h4:=Pi hkr
    have h5:=Cl (IS hd)
    rw [List.length_map] at h5
    simp (disch:=omega) only [AJ,Wa,Na,Ta]
    refine Ba.gd (decide_eq_true (by omega)) ?_
    simp only [Zc,Yb,List.length_append,List.length_cons,List.length_nil]
    refine Ba.gd (decide_eq_true (by omega)) (La (Mo hkr) ?_)
    simp only [Zc,Yb,List.length_append,List.length_cons,List.length_nil]
    refine Ba.gd (decide_eq_true (by omega)) (Ba.bnd (yBC (w:=w) (by simp only [List.length_append,List.length_cons,List.length_nil];omega) hlt hd) ?_)
    rintro (x|x) hx
    case inr=>exact hx.elim
    dsimp only at hx
    subst hx
    try dsimp only
    simp only [Zc,Yb,List.length_append,List.length_cons,List.length_nil]
    refine Ba.gd (decide_eq_true (by omega)) (.some ⟨hlt,?_⟩)
    rw [U5,Na (by omega) (by omega)]
    simp [Ad,blk,Yp]
   ·obtain rfl:k=w.db.length:=by omega
    simp only [AJ,Ta]
    exact Ba.no (dF (by omega)) (.some rfl)
  ·rintro _ rfl
   exact .some rfl
def Za (a b:Int):List Int:=match Un (5,Pe,a,b,()) with
  |some x=>x.1
  |none=>[]
def J6 (a b:Int):Bool:=match Un (5,Pe,a,b,()),Tn (5,Pe,a,b,()) with
  |some x,some y=>decide (x.1=y.1)&&(decide (x.1.length≤8)&&x.1.all fun z=>decide (0≤z)&&decide (z≤8))
  |_,_=>false
theorem yBD:((List.range 6).all fun a=>(List.range 5).all fun b=>J6 (a:Int) (b:Int))=true:=by kernel_rfl
theorem lM:gv 5 Pe=true:=decide_eq_true kE
theorem yBE (a b:Int):J6 a b=true∨(Un (5,Pe,a,b,())=some ([],())∧Tn (5,Pe,a,b,())=some ([],())):=by
  have fl:Bb Pe:=by unfold Bb;decide
  by_cases ha:Db a 0 5=true
  ·by_cases hb:Db b 0 4=true
   ·left
    have ha:=He ha
    have hb:=He hb
    obtain ⟨x,rfl⟩:=Int.eq_ofNat_of_zero_le ha.1
    obtain ⟨y,rfl⟩:=Int.eq_ofNat_of_zero_le hb.1
    have h:=List.all_eq_true.1 yBD x (List.mem_range.2 (by omega))
    exact List.all_eq_true.1 h y (List.mem_range.2 (by omega))
   ·right
    have hb:Db b 0 ((5:Int)-1)=false:=by simpa using hb
    constructor
    ·unfold Un Uu
     refine Ba.out (Ba.bnd (R:=fun r=>r=(false,())) (La (B6 5 a fl) ?_) ?_)
     ·rw [lM]
      refine Ba.ite (fun _=>?_) (fun _=>.some rfl)
      refine La (Up 5 0 _ (by decide) (by decide)) (Ba.gd rfl (La (Up 5 b _ (by decide) (by decide)) (.some ?_)))
      rw [hb]
     ·rintro _ rfl
      exact Ba.gd rfl (.some rfl)
    ·unfold Tn
     refine Ba.out (La (Zw _ _ _ fl) ?_)
     try dsimp only
     rw [hb,Bool.and_false]
     exact Ba.gd rfl (.some rfl)
  ·right
   have ha:Db a 0 ((Pe.length:Int)-1)=false:=Bool.eq_false_iff.2 ha
   constructor
   ·unfold Un Uu
    refine Ba.out (Ba.bnd (R:=fun r=>r=(false,())) (La (B6 5 a fl) ?_) ?_)
    ·rw [ha,Bool.and_false]
     exact .some rfl
    ·rintro _ rfl
     exact Ba.gd rfl (.some rfl)
   ·unfold Tn
    refine Ba.out (La (Zw _ _ _ fl) (Ba.ite (fun _=>.some rfl) (fun _=>?_)))
    refine La (lE _ _ fl) ?_
    try dsimp only
    rw [ha,Bool.and_false]
    exact Ba.gd rfl (.some rfl)
theorem K6 (a b:Int):Un (5,Pe,a,b,())=some (Za a b,())∧Tn (5,Pe,a,b,())=some (Za a b,())∧(Za a b).length≤8∧∀x∈Za a b,NR x:=by
  unfold Za
  rcases yBE a b with h|⟨h1,h2⟩
  ·unfold J6 at h
   cases e1:Un (5,Pe,a,b,()) with
   |none=>rw [e1] at h;cases h
   |some x =>
    cases e2:Tn (5,Pe,a,b,()) with
    |none=>rw [e1,e2] at h;cases h
    |some y =>
     rw [e1,e2] at h
     simp only [Bool.and_eq_true,decide_eq_true_eq,List.all_eq_true] at h
     obtain ⟨h1,h2,h3⟩:=h
     refine ⟨rfl,?_,h2,fun z hz=>by have:=h3 z hz;unfold NR;omega⟩
     show some y=some (x.1,())
     rw [h1]
  ·rw [h1,h2]
   exact ⟨rfl,rfl,by simp,by simp⟩
end
section
open Go.RowKit
open Go.Lib (itoa decDigits)
def Ya (a b c:Int):List Lb×Bool:=Ak 5 Pe a b c
theorem L6 (a b c:Int):(Ya a b c).1.length≤5101∧∀x∈(Ya a b c).1,NR x.a:=⟨lF.1,fun x hx=>by have:=lF.2 x hx;unfold NR;omega⟩
theorem KS:Bb Pe:=by unfold Bb;decide
theorem RK (g:Int×List Lk) (a b:Int):(Xh g a b).length≤5101∧∀x∈Xh g a b,NR x:=⟨lC g.1 a b g.2,fun x hx=>by have:=yBr g.1 a b g.2 x hx;unfold NR;omega⟩
theorem M6 {w:List UInt8} {l:List Int} (hw:w.length≤10) (hl:l.length≤6000) (hr:∀x∈l,NR x):(Ad w l).length≤140000:=by
  have:=Cl hr
  unfold Ad
  simp only [List.length_append,List.length_singleton]
  omega
theorem yBF {w:Wd} (h:WV w Nb) (ws:List (List UInt8)):(LB Ya Za w ws).length≤140000:=by
  unfold LB
  try dsimp only
  split
  ·exact M6 (by decide) (by have:=(RK (Cd w (Kb (ws.getD 1 []))) (Kb (ws.getD 1 [])) (Kb (ws.getD 2 []))).1;omega) (RK _ _ _).2
  split
  ·exact M6 (by decide) (by have:=(PK (Cd w (Kb (ws.getD 1 []))).1 (Kb (ws.getD 2 [])) (Cd w (Kb (ws.getD 1 []))).2).1;omega) (PK _ _ _).2
  split
  ·unfold Ex
   split
   ·have h1:=L6 (Kb (ws.getD 1 [])) (Kb (ws.getD 2 [])) (Kb (ws.getD 3 []))
    have h2:=QK h1.2
    have h6:Ej.length=6:=rfl
    simp only [List.length_append,List.length_singleton]
    omega
   ·decide
  split
  ·have:=K6 (Kb (ws.getD 1 [])) (Kb (ws.getD 2 []))
   exact M6 (by decide) (by have:=this.2.2.1;omega) this.2.2.2
  split
  ·have hl:=h.net
   have:=HS (H6 h) (by omega) w.net.length (Nat.le_refl _)
   omega
  ·decide
theorem N6 {w:Wd} (h:WV w Nb) (l:List UInt8):(Dd Ya Za w l).2.length≤140000:=by
  unfold Dd
  try dsimp only
  split
  ·simp
  split
  ·simp
  ·exact yBF h _
theorem yBG {ws:List (List UInt8)} (k:Nat):(ws++[[],[],[]]).getD k []=ws.getD k []:=by
  simp only [List.getD]
  by_cases h:k<ws.length
  ·rw [List.getElem?_append_left h]
  ·rw [List.getElem?_append_right (by omega),List.getElem?_eq_none (l:=ws) (by omega)]
   match k-ws.length with
   |0=>rfl
   |1=>rfl
   |2=>rfl
   |n+3=>rfl
def wl (r:Wd×List UInt8):ByteArray×Int×List Lk×List Bool×List Int×List (List Ls)×List Pk×Unit:=(bs r.2,r.1.n,r.1.ls,r.1.up,r.1.sq,r.1.db,r.1.net,())
theorem zD9 {w:Wd} (F:Yh w) {l:List UInt8} (hl:l.length≤600):VQ (bs l,w.n,w.ls,w.up,w.sq,w.db,w.net,())=some (wl (Dd Ya Za w l)):=by
  have h:=F.ok
  unfold VQ
  refine Ba.out (La (lG 32 (by omega)) ?_)
  have hlen:=OD 32 l
  have hmem:=CW 32 l
  have hne:=MD 32 l
  unfold Dd
  try dsimp only
  generalize Vb 32 l=ws at *
  have e0:ws.map bs++[bs [],bs [],bs []]=(ws++[[],[],[]]).map bs:=by simp
  have h1:1≤ws.length:=List.length_pos_iff.2 hne
  have hw:∀k,(ws.getD k []).length≤1000000:=fun k=>by
    by_cases hk:k<ws.length
    ·have:=(hmem _ (List.mem_of_getElem? (show ws[k]? =some (ws.getD k []) by simp [List.getD,hk]))).1
     omega
    ·simp [List.getD,List.getElem?_eq_none (l:=ws) (i:=k) (by omega)]
  have at0:∀k,k<4→Aa .str ((ws++[[],[],[]]).map bs) k=bs (ws.getD k []):=fun k hk=>by
    rw [Km (by simp;omega),yBG]
  have t1:Int.toNat (1:Int)=1:=rfl
  have t2:Int.toNat (2:Int)=2:=rfl
  have t3:Int.toNat (3:Int)=3:=rfl
  have t0:Int.toNat (0:Int)=0:=rfl
  simp only [e0,t0,t1,t2,t3,at0 0 (by decide),at0 1 (by decide),at0 2 (by decide),at0 3 (by decide),List.length_map,List.length_append,List.length_cons,List.length_nil]
  refine Ba.gd (decide_eq_true (by omega)) (Ba.gd (Ia (by omega) (by omega)) (Ba.gd (Ia (by omega) (by omega)) (Ba.gd (Ia (by omega) (by omega)) (La (Z5 (hw 1)) (La (Z5 (hw 2)) (La (Z5 (hw 3)) (Ba.gd (Ia (by omega) (by omega)) (La (zHz _) ?_))))))))
  try dsimp only
  by_cases c0:0<Fj (ws.getD 0 [])
  ·rw [if_pos c0]
   exact Ba.gd (decide_eq_true c0) (La (jS h _ _) (.some rfl))
  rw [if_neg c0]
  refine Ba.no (dF c0) (Ba.gd (Ia (by omega) (by omega)) ?_)
  simp only [Nh]
  have eCalm:([99,97,108,109]:List UInt8)=KB:=rfl
  have ePath:([112,97,116,104]:List UInt8)=Jo:=rfl
  have eSeen:([115,101,101,110]:List UInt8)=Ko:=rfl
  have eRepair:([114,101,112,97,105,114]:List UInt8)=Ej:=rfl
  have eOrder:([111,114,100,101,114]:List UInt8)=Lo:=rfl
  have eNet:([110,101,116]:List UInt8)=HK:=rfl
  simp only [eCalm,ePath,eSeen,eRepair,eOrder,eNet]
  by_cases c1:ws.getD 0 []=KB
  ·rw [if_pos c1]
   exact Ba.gd (decide_eq_true c1) (La (yAX h) (.some rfl))
  rw [if_neg c1]
  refine Ba.no (dF c1) ?_
  unfold LB
  try dsimp only
  by_cases c2:ws.getD 0 []=Jo
  ·rw [if_pos c2]
   refine Ba.gd (decide_eq_true c2) (La (lH h _) (La (lB _ _ _ (z7 h _)) (La (JK (by decide) ?_ ?_) (.some rfl))))
   ·have:=(RK (Cd w (Kb (ws.getD 1 []))) (Kb (ws.getD 1 [])) (Kb (ws.getD 2 []))).1
    exact Nat.le_trans this (by decide)
   ·exact (RK (Cd w (Kb (ws.getD 1 []))) (Kb (ws.getD 1 [])) (Kb (ws.getD 2 []))).2
  rw [if_neg c2]
  refine Ba.no (dF c2) ?_
  by_cases c3:ws.getD 0 []=Ko
  ·rw [if_pos c3]
   refine Ba.gd (decide_eq_true c3) (La (lH h _) (La (zDM _ _ _ (z7 h _)) (La (JK (by decide) ?_ ?_) (.some rfl))))
   ·have:=(PK (Cd w (Kb (ws.getD 1 []))).1 (Kb (ws.getD 2 [])) (Cd w (Kb (ws.getD 1 []))).2).1
    exact Nat.le_trans this (by decide)
   ·exact (PK (Cd w (Kb (ws.getD 1 []))).1 (Kb (ws.getD 2 [])) (Cd w (Kb (ws.getD 1 []))).2).2
  rw [if_neg c3]
  refine Ba.no (dF c3) ?_
  by_cases c4:ws.getD 0 []=Ej
  ·rw [if_pos c4]
   refine Ba.gd (decide_eq_true c4) ?_
   have eR:=zDS w.n (Kb (ws.getD 1 [])) (Kb (ws.getD 2 [])) (Kb (ws.getD 3 [])) (ls:=w.ls) (by rw [F.ls];exact KS)
   rw [show Ak w.n w.ls (Kb (ws.getD 1 [])) (Kb (ws.getD 2 [])) (Kb (ws.getD 3 []))=Ya (Kb (ws.getD 1 [])) (Kb (ws.getD 2 [])) (Kb (ws.getD 3 [])) by rw [F.n,F.ls];rfl] at eR
   refine La eR ?_
   have hb:=L6 (Kb (ws.getD 1 [])) (Kb (ws.getD 2 [])) (Kb (ws.getD 3 []))
   unfold Ex
   generalize Ya (Kb (ws.getD 1 [])) (Kb (ws.getD 2 [])) (Kb (ws.getD 3 []))=q at *
   try dsimp only
   cases hq:q.2 with
   |false=>rw [if_neg (by simp)];exact Ba.gd rfl (.some rfl)
   |true =>
    rw [if_pos rfl]
    simp only [Ta]
    refine Ba.no rfl (Ba.bnd (zHw (by omega) hb.2 w) ?_)
    rintro (x|x) hx
    case inr=>exact hx.elim
    dsimp only at hx
    subst hx
    try dsimp only
    have h2:=QK hb.2
    have h6:Ej.length=6:=rfl
    simp only [Zc,Yb,List.length_append,List.length_cons,List.length_nil]
    refine Ba.gd (decide_eq_true (by omega)) (.some ?_)
    unfold wl
    rw [List.append_assoc]
  rw [if_neg c4]
  refine Ba.no (dF c4) ?_
  by_cases c5:ws.getD 0 []=Lo
  ·rw [if_pos c5]
   obtain ⟨_,o1,o2,o3⟩:=K6 (Kb (ws.getD 1 [])) (Kb (ws.getD 2 []))
   rw [←F.ls] at o1
   have o1:Tn (w.n,w.ls,Kb (ws.getD 1 []),Kb (ws.getD 2 []),())=some (Za (Kb (ws.getD 1 [])) (Kb (ws.getD 2 [])),()):=by rw [F.n];exact o1
   exact Ba.gd (decide_eq_true c5) (La o1 (La (JK (by decide) (Nat.le_trans o2 (by decide)) o3) (.some rfl)))
  rw [if_neg c5]
  refine Ba.no (dF c5) ?_
  by_cases c6:ws.getD 0 []=HK
  ·rw [if_pos c6]
   simp only [Ta]
   refine Ba.gd (decide_eq_true c6) (Ba.bnd (yBz h) ?_)
   rintro (x|x) hx
   case inr=>exact hx.elim
   dsimp only at hx
   subst hx
   exact .some rfl
  rw [if_neg c6]
  exact Ba.no (dF c6) (.some rfl)
theorem zFD {w:Wd} (F:Yh w) {ws:List (List UInt8)} (hne:ws≠[]) (hl:ws.length≤1000000) (hm:∀x∈ws,x.length≤1000000):RQ (w.n,w.ls,w.up,w.sq,w.db,w.net,ws.map bs,())=some (bs (LB Ya Za w ws),()):=by
  have h:=F.ok
  have h1:1≤ws.length:=List.length_pos_iff.2 hne
  unfold RQ
  have t0:Int.toNat (0:Int)=0:=rfl
  have n1:=DS 1 hl hm
  have n2:=DS 2 hl hm
  have n3:=DS 3 hl hm
  refine Ba.out (La n1 (La n2 ?_))
  simp only [t0,Km (show 0<ws.length by omega),List.length_map,Nh]
  refine Ba.gd (Ia (by omega) (by omega)) ?_
  have ePath:([112,97,116,104]:List UInt8)=Jo:=rfl
  have eSeen:([115,101,101,110]:List UInt8)=Ko:=rfl
  have eRepair:([114,101,112,97,105,114]:List UInt8)=Ej:=rfl
  have eOrder:([111,114,100,101,114]:List UInt8)=Lo:=rfl
  have eNet:([110,101,116]:List UInt8)=HK:=rfl
  simp only [ePath,eSeen,eRepair,eOrder,eNet]
  unfold LB
  try dsimp only
  by_cases c2:ws.getD 0 []=Jo
  ·rw [if_pos c2]
   have hp:=RK ((Cd w (Kb (ws.getD 1 []))).1,(Cd w (Kb (ws.getD 1 []))).2) (Kb (ws.getD 1 [])) (Kb (ws.getD 2 []))
   refine Ba.gd (decide_eq_true c2) (La (lI h _) (La (zGc _ _ _ (z7 h _)) (La (W5 (Nat.le_trans hp.1 (by decide)) hp.2) ?_)))
   have hb:=Cl hp.2
   have h4:Jo.length=4:=rfl
   simp only [Zc,Yb,List.length_append,List.length_cons,List.length_nil]
   refine Ba.gd (decide_eq_true (by omega)) (Ba.gd (decide_eq_true (by omega)) (.some ?_))
   unfold Ad
   rw [List.append_assoc]
  rw [if_neg c2]
  refine Ba.no (dF c2) ?_
  by_cases c3:ws.getD 0 []=Ko
  ·rw [if_pos c3]
   have hp:=PK (Cd w (Kb (ws.getD 1 []))).1 (Kb (ws.getD 2 [])) (Cd w (Kb (ws.getD 1 []))).2
   refine Ba.gd (decide_eq_true c3) (La (lI h _) (La (zF4 _ _ (z7 h _)) (La (W5 (Nat.le_trans hp.1 (by decide)) hp.2) ?_)))
   have hb:=Cl hp.2
   have h4:Ko.length=4:=rfl
   simp only [Zc,Yb,List.length_append,List.length_cons,List.length_nil]
   refine Ba.gd (decide_eq_true (by omega)) (Ba.gd (decide_eq_true (by omega)) (.some ?_))
   unfold Ad
   rw [List.append_assoc]
  rw [if_neg c3]
  refine Ba.no (dF c3) ?_
  by_cases c4:ws.getD 0 []=Ej
  ·rw [if_pos c4]
   refine Ba.gd (decide_eq_true c4) (La (show Ew ()=some (5,Pe,()) from rfl) (La n3 ?_))
   have eR:=zGa 5 (Kb (ws.getD 1 [])) (Kb (ws.getD 2 [])) (Kb (ws.getD 3 [])) KS
   rw [show Ak 5 Pe (Kb (ws.getD 1 [])) (Kb (ws.getD 2 [])) (Kb (ws.getD 3 []))=Ya (Kb (ws.getD 1 [])) (Kb (ws.getD 2 [])) (Kb (ws.getD 3 [])) from rfl] at eR
   refine La eR ?_
   have hb:=L6 (Kb (ws.getD 1 [])) (Kb (ws.getD 2 [])) (Kb (ws.getD 3 []))
   unfold Ex
   generalize Ya (Kb (ws.getD 1 [])) (Kb (ws.getD 2 [])) (Kb (ws.getD 3 []))=q at *
   try dsimp only
   cases hq:q.2 with
   |false=>rw [if_neg (by simp)];exact Ba.gd rfl (.some rfl)
   |true =>
    rw [if_pos rfl]
    refine Ba.no rfl (La (zFK (by omega) hb.2) ?_)
    have h2:=QK hb.2
    have h6:Ej.length=6:=rfl
    simp only [Zc,Yb,List.length_append,List.length_cons,List.length_nil]
    refine Ba.gd (decide_eq_true (by omega)) (Ba.gd (decide_eq_true (by omega)) (.some ?_))
    rw [List.append_assoc]
  rw [if_neg c4]
  refine Ba.no (dF c4) ?_
  by_cases c5:ws.getD 0 []=Lo
  ·rw [if_pos c5]
   obtain ⟨o1,_,o2,o3⟩:=K6 (Kb (ws.getD 1 [])) (Kb (ws.getD 2 []))
   refine Ba.gd (decide_eq_true c5) (La (show Ew ()=some (5,Pe,()) from rfl) (La o1 (La (W5 (Nat.le_trans o2 (by decide)) o3) ?_)))
   have hb:=Cl o3
   have h4:Lo.length=5:=rfl
   simp only [Zc,Yb,List.length_append,List.length_cons,List.length_nil]
   refine Ba.gd (decide_eq_true (by omega)) (Ba.gd (decide_eq_true (by omega)) (.some ?_))
   unfold Ad
   rw [List.append_assoc]
  rw [if_neg c5]
  refine Ba.no (dF c5) ?_
  by_cases c6:ws.getD 0 []=HK
  ·rw [if_pos c6]
   exact Ba.gd (decide_eq_true c6) (La (zFI h) (.some rfl))
  rw [if_neg c6]
  exact Ba.no (dF c6) (.some rfl)
def wlr (r:Wd×List UInt8):Int×List Lk×List Bool×List Int×List (List Ls)×List Pk×ByteArray×Unit:=(r.1.n,r.1.ls,r.1.up,r.1.sq,r.1.db,r.1.net,bs r.2,())
theorem yBH {w:Wd} (h:WV w Nb):SR w=Pf w:=by unfold SR;rw [Bx.2 h];rfl
theorem zFG {w:Wd} (F:Yh w) {l:List UInt8} (hl:l.length≤600):SQ (w.n,w.ls,w.up,w.sq,w.db,w.net,bs l,())=some (wlr (Dd Ya Za w l)):=by
  have h:=F.ok
  unfold SQ
  refine Ba.out (La (kW 32 (by omega)) ?_)
  have hlen:=OD 32 l
  have hmem:=CW 32 l
  have hne:=MD 32 l
  unfold Dd
  try dsimp only
  generalize Vb 32 l=ws at *
  have h1:1≤ws.length:=List.length_pos_iff.2 hne
  have hw:∀x∈ws,x.length≤1000000:=fun x hx=>by have:=(hmem x hx).1;omega
  have t0:Int.toNat (0:Int)=0:=rfl
  simp only [t0,Km (show 0<ws.length by omega),List.length_map,Nh]
  refine Ba.gd (Ia (by omega) (by omega)) (La (zFF _) (La (DS 1 (by omega) hw) ?_))
  try dsimp only
  by_cases c0:0<Fj (ws.getD 0 [])
  ·rw [if_pos c0]
   exact Ba.gd (decide_eq_true c0) (La (zFs h _ _) (.some rfl))
  rw [if_neg c0]
  refine Ba.no (dF c0) (Ba.gd (Ia (by omega) (by omega)) ?_)
  by_cases c1:ws.getD 0 []=KB
  ·rw [if_pos c1]
   refine Ba.gd (decide_eq_true c1) (La (zGd h.sm) (.some ?_))
   rw [yBH h];rfl
  rw [if_neg c1]
  refine Ba.no (dF c1) (La (zFD F hne (by omega) hw) (.some rfl))
end
section
open Go.RowKit
open Go.Lib (itoa decDigits)
theorem O6 {W:Wd} (F:Yh W) (ls:List (List UInt8)):(Pb Ya Za W ls).2.length≤140000*ls.length:=by
  induction ls generalizing W with
  |nil=>simp [Pb]
  |cons l r ih =>
   have h1:=N6 F.ok l
   have h2:=ih (T5 Ya Za F l)
   show ((Dd Ya Za W l).2++(Pb Ya Za (Dd Ya Za W l).1 r).2).length≤_
   rw [List.length_append,List.length_cons]
   omega
theorem lN {ls:List (List UInt8)} {k:Nat} (h:k<ls.length):Pb Ya Za W0 (ls.take (k+1))=((Dd Ya Za (Pb Ya Za W0 (ls.take k)).1 (ls.getD k [])).1,(Pb Ya Za W0 (ls.take k)).2++(Dd Ya Za (Pb Ya Za W0 (ls.take k)).1 (ls.getD k [])).2):=by
  have e:ls.take (k+1)=ls.take k++[ls.getD k []]:=by rw [List.take_add_one];simp [List.getD,h]
  show Pb Ya Za W0 (ls.take (k+1))=_
  rw [e,kF,kG]
theorem P6 {t:List UInt8} (ht:t.length≤600):(Vb 10 t).length≤601∧(Gc t).length+1=(Vb 10 t).length∧(∀k,((Gc t).getD k []).length≤600)∧∀k,k<(Gc t).length→(Vb 10 t).getD k []=(Gc t).getD k []:=by
  have h1:=OD 10 t
  have h2:=MD 10 t
  have h3:=CW 10 t
  have h4:1≤(Vb 10 t).length:=List.length_pos_iff.2 h2
  have h5:(Gc t).length=(Vb 10 t).length-1:=by unfold Gc;rw [List.length_dropLast]
  refine ⟨by omega,by omega,fun k=>?_,fun k hk=>?_⟩
  ·by_cases hk:k<(Gc t).length
   ·have hm:(Gc t).getD k []∈Gc t:=List.mem_of_getElem? (show (Gc t)[k]? =some ((Gc t).getD k []) by simp [List.getD,hk])
    have:=(h3 _ ((List.dropLast_sublist (Vb 10 t)).subset (show _∈(Vb 10 t).dropLast from hm))).1
    omega
   ·simp [List.getD,List.getElem?_eq_none (l:=Gc t) (i:=k) (by omega)]
  ·unfold Gc at hk ⊢
   simp only [List.getD]
   rw [List.getElem?_dropLast,if_pos (by rw [List.length_dropLast] at hk;omega)]
theorem lO:GB 5 Pe=W0:=by unfold GB W0;rw [lM];rfl
theorem yBI {ls:List (List UInt8)} (hl:ls.length≤600) (hm:∀k,(ls.getD k []).length≤600):Ba (lp PA Ea (bs [],ls.map bs,(ls.length:Int),(0:Int),W0.n,W0.ls,W0.up,W0.sq,W0.db,W0.net,())) fun r=>match r with| .inl x=>x=wl (Pb Ya Za W0 ls)| .inr _=>False:=by
  refine Ba.count ls.length (fun k s=>s=(bs (Pb Ya Za W0 (ls.take k)).2,ls.map bs,(ls.length:Int),(k:Int),(Pb Ya Za W0 (ls.take k)).1.n,(Pb Ya Za W0 (ls.take k)).1.ls,(Pb Ya Za W0 (ls.take k)).1.up,(Pb Ya Za W0 (ls.take k)).1.sq,(Pb Ya Za W0 (ls.take k)).1.db,(Pb Ya Za W0 (ls.take k)).1.net,())) ?_ (Nat.zero_le _) (Jb (by omega)) rfl
  rintro k s hk rfl
  have F:=IK Ya Za Jm (ls.take k)
  by_cases hlt:k<ls.length
  ·have h1:=O6 Jm (ls.take k)
   have h2:(ls.take k).length≤k:=List.length_take_le _ _
   have h3:=N6 F.ok (ls.getD k [])
   unfold PA
   simp only [Wa,Km hlt,List.length_map]
   refine Ba.gd (decide_eq_true (by omega)) (Ba.gd (Ia (by omega) (by omega)) (La (zD9 F (hm k)) ?_))
   unfold wl
   simp only [Zc,Yb]
   refine Ba.gd (decide_eq_true (by show (Pb Ya Za W0 (ls.take k)).2.length+_≤_;have h1:(Pb Ya Za W0 (ls.take k)).2.length≤140000*(ls.take k).length:=h1;omega)) (.some ⟨hlt,?_⟩)
   rw [lN hlt,Na (by omega) (by omega)];rfl
  ·obtain rfl:k=ls.length:=by omega
   unfold PA
   try dsimp only
   rw [List.take_length]
   exact Ba.no (dF (by omega)) (.some rfl)
theorem yBJ {ws ls:List (List UInt8)} (hw:ls.length+1=ws.length) (he:∀k,k<ls.length→ws.getD k []=ls.getD k []) (hl:ls.length≤600) (hm:∀k,(ls.getD k []).length≤600):Ba (lp MA Ea (bs [],(0:Int),W0.n,W0.ls,W0.up,W0.sq,W0.db,W0.net,ws.map bs,())) fun r=>match r with| .inl x=>x=wl (Pb Ya Za W0 ls)| .inr _=>False:=by
  refine Ba.count ls.length (fun k s=>s=(bs (Pb Ya Za W0 (ls.take k)).2,(k:Int),(Pb Ya Za W0 (ls.take k)).1.n,(Pb Ya Za W0 (ls.take k)).1.ls,(Pb Ya Za W0 (ls.take k)).1.up,(Pb Ya Za W0 (ls.take k)).1.sq,(Pb Ya Za W0 (ls.take k)).1.db,(Pb Ya Za W0 (ls.take k)).1.net,ws.map bs,())) ?_ (Nat.zero_le _) (Jb (by omega)) rfl
  rintro k s hk rfl
  have F:=IK Ya Za Jm (ls.take k)
  by_cases hlt:k<ls.length
  ·have h1:=O6 Jm (ls.take k)
   have h2:(ls.take k).length≤k:=List.length_take_le _ _
   have h3:=N6 F.ok (ls.getD k [])
   have hkw:k<ws.length:=by omega
   unfold MA TQ
   simp only [Wa,Km hkw,List.length_map,Ta,he k hlt]
   rw [Na (by omega) (by omega)]
   refine Ba.gd (decide_eq_true (by omega)) ?_
   have eL:=zFG F (hm k)
   refine Ba.bnd (R:=fun r=>r=.inl (bs (Pb Ya Za W0 (ls.take k)).2,(k:Int),bs (Dd Ya Za (Pb Ya Za W0 (ls.take k)).1 (ls.getD k [])).2,(Pb Ya Za W0 (ls.take k)).1.n,(Pb Ya Za W0 (ls.take k)).1.ls,(Pb Ya Za W0 (ls.take k)).1.up,(Pb Ya Za W0 (ls.take k)).1.sq,(Pb Ya Za W0 (ls.take k)).1.db,(Pb Ya Za W0 (ls.take k)).1.net,ws.map bs,(Dd Ya Za (Pb Ya Za W0 (ls.take k)).1 (ls.getD k [])).1.n,(Dd Ya Za (Pb Ya Za W0 (ls.take k)).1 (ls.getD k [])).1.ls,(Dd Ya Za (Pb Ya Za W0 (ls.take k)).1 (ls.getD k [])).1.up,(Dd Ya Za (Pb Ya Za W0 (ls.take k)).1 (ls.getD k [])).1.sq,(Dd Ya Za (Pb Ya Za W0 (ls.take k)).1 (ls.getD k [])).1.db,(Dd Ya Za (Pb Ya Za W0 (ls.take k)).1 (ls.getD k [])).1.net,())) (Ba.gd (Ia (by omega) (by omega)) (La eL (.some rfl))) ?_
   rintro _ rfl
   try dsimp only
   simp only [Zc,Yb]
   refine Ba.gd (decide_eq_true (by show (Pb Ya Za W0 (ls.take k)).2.length+_≤_;have h1:(Pb Ya Za W0 (ls.take k)).2.length≤140000*(ls.take k).length:=h1;omega)) (.some ⟨hlt,?_⟩)
   rw [lN hlt,Na (by omega) (by omega)];rfl
  ·obtain rfl:k=ls.length:=by omega
   unfold MA
   simp only [List.length_map,Ta]
   rw [Na (by omega) (by omega),List.take_length]
   exact Ba.no (dF (by omega)) (.some rfl)
theorem Q6 {t:List UInt8} (ht:t.length≤600):(Pb Ya Za W0 (Gc t)).2.length≤84000000∧(If (Pb Ya Za W0 (Gc t)).1.db (Pb Ya Za W0 (Gc t)).1.db.length).length≤1500:=by
  obtain ⟨b1,b2,b3,b4⟩:=P6 ht
  have F:=IK Ya Za Jm (Gc t)
  have h1:=O6 Jm (Gc t)
  have h5:=ZR F
  have h2:=JS F.ok.ok (by omega) _ (Nat.le_refl _)
  constructor
  ·have h1:(Pb Ya Za W0 (Gc t)).2.length≤140000*(Gc t).length:=h1
   show (Pb Ya Za W0 (Gc t)).2.length≤_
   omega
  ·have h2:(If (Pb Ya Za W0 (Gc t)).1.db (Pb Ya Za W0 (Gc t)).1.db.length).length≤300*(Pb Ya Za W0 (Gc t)).1.db.length:=h2
   show (If (Pb Ya Za W0 (Gc t)).1.db (Pb Ya Za W0 (Gc t)).1.db.length).length≤_
   omega
theorem Fl (t:List UInt8) (ht:t.length≤4000000000000000000):Ef (bs t,())=some (bs (Vd Ya Za t),()):=by
  unfold Ef
  simp only [Yb,Ta]
  refine Ba.out (Ba.ite (fun h=>?_) (fun h=>?_))
  ·have h:=oT h
   refine .some ?_
   show _=(bs (Vd Ya Za t),())
   unfold Vd
   rw [if_pos (by omega)];rfl
  ·have h:=oF h
   have h6:t.length≤600:=by omega
   obtain ⟨b1,b2,b3,b4⟩:=P6 h6
   have F:=IK Ya Za Jm (Gc t)
   have hN:=zDW 5 Pe KS
   rw [lO] at hN
   refine La (show Z2 ()=some (5,Pe,()) from rfl) (La hN (La (lG 10 (by omega)) ?_))
   try dsimp only
   have e1:List.take (Int.toNat (wrap64 (((List.map bs (Vb 10 t)).length:Int)-1))-Int.toNat (0:Int)) (List.drop (Int.toNat (0:Int)) (List.map bs (Vb 10 t)))=(Gc t).map bs:=by
     rw [List.length_map,Na (by omega) (by omega)]
     have:Int.toNat (((Vb 10 t).length:Int)-1)-Int.toNat (0:Int)=(Vb 10 t).length-1:=by omega
     rw [this]
     show List.take ((Vb 10 t).length-1) (List.map bs (Vb 10 t))=_
     rw [←List.map_take,←List.dropLast_eq_take];rfl
   rw [e1,List.length_map,List.length_map]
   refine Ba.gd (WM (by omega) (by rw [Na (by omega) (by omega)];omega) (by rw [Na (by omega) (by omega)];omega)) (Ba.bnd (yBI (by omega) b3) ?_)
   rintro (x|x) hx
   case inr=>exact hx.elim
   dsimp only at hx
   subst hx
   unfold wl
   try dsimp only
   have hf:=Q6 h6
   have h5:(Pb Ya Za W0 (Gc t)).1.db.length=5:=ZR F
   refine Ba.bnd (yBB F.ok.ok (by have:=ZR F;omega) (o:=(Pb Ya Za W0 (Gc t)).2) (by omega)) ?_
   rintro (x|x) hx
   case inr=>exact hx.elim
   dsimp only at hx
   subst hx
   refine .some ?_
   show _=(bs (Vd Ya Za t),())
   unfold Vd
   rw [if_neg (by omega)]
theorem Hx (t:List UInt8) (ht:t.length≤4000000000000000000):Dm (bs t,())=some (bs (Vd Ya Za t),()):=by
  unfold Dm
  simp only [Yb,Ta]
  refine Ba.out (Ba.ite (fun h=>?_) (fun h=>?_))
  ·have h:=oT h
   refine .some ?_
   show _=(bs (Vd Ya Za t),())
   unfold Vd
   rw [if_pos (by omega)];rfl
  ·have h:=oF h
   have h6:t.length≤600:=by omega
   obtain ⟨b1,b2,b3,b4⟩:=P6 h6
   have F:=IK Ya Za Jm (Gc t)
   have hN:=zGe 5 Pe KS
   rw [lO] at hN
   refine La (show Ew ()=some (5,Pe,()) from rfl) (La hN (La (kW 10 (by omega)) ?_))
   try dsimp only
   refine Ba.bnd (yBJ b2 b4 (by omega) b3) ?_
   rintro (x|x) hx
   case inr=>exact hx.elim
   dsimp only at hx
   subst hx
   unfold wl
   try dsimp only
   have hf:=Q6 h6
   refine La (zFL F.ok) ?_
   simp only [Zc,Yb]
   refine Ba.gd (decide_eq_true (by have h1:=hf.1;have h2:=hf.2;omega)) (.some ?_)
   show _=(bs (Vd Ya Za t),())
   unfold Vd
   rw [if_neg (by omega)]
theorem yBK (b:ByteArray):C3 (b,())=some (true,()):=by
  obtain ⟨t,rfl⟩:=BN b
  unfold C3
  simp only [Yb,Ta]
  refine Ba.out (Ba.ite (fun _=>.some rfl) (fun h=>?_))
  have h:=oF h
  refine La (Hx t (by omega)) (La (Fl t (by omega)) ?_)
  try dsimp only
  rw [Nh,decide_eq_true rfl]
  exact Ba.no rfl (.some rfl)
end
section
open Go.RowKit
def R6:Oa:=⟨⟨[.c (.one (.b (.sl true .u8)))],[]⟩,[.ls .u8],⟨[.c (.one (.ptr 0 0))],[.box 88 [(.b (.sl true .u8)),zi]]⟩,[.ls .u8,.int],UR⟩
def S6:Ma:=Sa tab [] 11 0 [] []
theorem zSi:Pa Tryz.prog S6.Γ:=Ra (l:=[]) trivial
theorem zNO:GC Tryz.prog 29 R6:=Ua (G:=S6) (c:=Tryz.f29.body.getD .skip) Ga Ha zSi mixed Tryz.func29 (by kernel_rfl) Tryz.ntmps29 (Ja (G:=S6) (n:=0) (by kernel_rfl) (by kernel_rfl) trivial (by kernel_rfl)) (fun s=>by kernel_rfl)
def Ix:Oa:=⟨⟨[.c (.one (.ptr 0 0)),zc],[.box 88 [(.b (.sl true .u8)),zi]]⟩,[.int,.ls .u8,.int],⟨[zc],[.box 88 [(.b (.sl true .u8)),zi]]⟩,[.int,.ls .u8,.int],Zk⟩
def T6:Ma:=Sa tab [] 99 1 [(7,44,tk 44,[])] []
theorem zSk:Pa Tryz.prog T6.Γ:=Ra (l:=[]) trivial
theorem U6:GC Tryz.prog 30 Ix:=Ua (G:=T6) (c:=Tryz.f30.body.getD .skip) Ga Ha zSk mixed Tryz.func30 (by kernel_rfl) Tryz.ntmps30 (Ja (G:=T6) (n:=0) (by kernel_rfl) (by kernel_rfl) trivial (by kernel_rfl)) (fun s=>by kernel_rfl)
end
section
open Go.RowKit
def Jx:Xa:=⟨⟨[0,1,5],⟨[.c (.one (.b .str)),zc,.c (.one (.b .str))],[]⟩,[.str,.int,.str]⟩,0,⟨[5],⟨[.c (.one (.b .str))],[]⟩,[.str]⟩,zx,lp WR Ea⟩
def V6:Oa:=⟨⟨[.c (.one (.b .str)),zc],[]⟩,[.str,.int],⟨[.c (.one (.b .str))],[]⟩,[.str],XR⟩
def SK:Ma:=Sa tab [] 20 0 [] [(2,Jx)]
theorem lP:Pa Tryz.prog SK.Γ:=Ra (l:=[]) trivial
theorem zLA:Cb Tryz.prog 0 20 (Va (Tryz.f32.body.getD .skip) 0) Jx:=Fb (G:=SK) (F:=Jx.F) (eid:=Jx.eid) (FX:=Jx.FX) (FR:=Jx.FR) (B:=WR) (n:=Ea) Ga Ha lP mixed (Ja (G:=SK) (n:=0) (by kernel_rfl) (by kernel_rfl) trivial (by kernel_rfl)) (fun s=>by kernel_rfl)
theorem zNN:GC Tryz.prog 32 V6:=Ua (G:=SK) (c:=Tryz.f32.body.getD .skip) Ga Ha lP mixed Tryz.func32 (by kernel_rfl) Tryz.ntmps32 (Ja (G:=SK) (n:=1) (by kernel_rfl) (by kernel_rfl) ⟨trivial,Gb (id:=2) (L0:=Jx) (by kernel_rfl) (by kernel_rfl) zLA⟩ (by kernel_rfl)) (fun s=>by kernel_rfl)
def W6:Oa:=⟨⟨[.c (.one (.ptr 0 0)),.c (.one (.b (.sl false .str)))],[.box 88 [(.b (.sl true .u8)),zi]]⟩,[.ls .str,.ls .u8,.int],⟨[.c (.one (.b .str))],[.box 88 [(.b (.sl true .u8)),zi]]⟩,[.str,.ls .u8,.int],Pc⟩
def X6:Ma:=Sa tab [(30,[],Ix)] 12 1 [] []
theorem zSj:Pa Tryz.prog X6.Γ:=Ra (l:=[(30,[],Ix)]) ⟨⟨U6,Tryz.call30⟩,trivial⟩
theorem zNP:GC Tryz.prog 60 W6:=Ua (G:=X6) (c:=Tryz.f60.body.getD .skip) Ga Ha zSj mixed Tryz.func60 (by kernel_rfl) Tryz.ntmps60 (Ja (G:=X6) (n:=0) (by kernel_rfl) (by kernel_rfl) trivial (by kernel_rfl)) (fun s=>by kernel_rfl)
def Z6:Oa:=⟨⟨[.c (.one (.ptr 0 0))],[.box 88 [(.b (.sl true .u8)),zi]]⟩,[.ls .u8,.int],⟨[.c (.one (.b .str))],[.box 88 [(.b (.sl true .u8)),zi]]⟩,[.str,.ls .u8,.int],JB⟩
def A7:Ma:=Sa tab [(30,[],Ix),(60,[],W6)] 82 1 [] []
theorem zSl:Pa Tryz.prog A7.Γ:=Ra (l:=[(30,[],Ix),(60,[],W6)]) ⟨⟨U6,Tryz.call30⟩,⟨⟨zNP,Tryz.call60⟩,trivial⟩⟩
theorem zNR:GC Tryz.prog 31 Z6:=Ua (G:=A7) (c:=Tryz.f31.body.getD .skip) Ga Ha zSl mixed Tryz.func31 (by kernel_rfl) Tryz.ntmps31 (Ja (G:=A7) (n:=0) (by kernel_rfl) (by kernel_rfl) trivial (by kernel_rfl)) (fun s=>by kernel_rfl)
def Kx:Xa:=⟨⟨[3,4,5,6],⟨[.c (.one (.ptr 0 0)),.c (.one (.b .str)),zc,zc],[.box 88 [(.b (.sl true .u8)),zi]]⟩,[.str,.int,.int,.ls .u8,.int]⟩,0,⟨[3,4],⟨[.c (.one (.ptr 0 0)),.c (.one (.b .str))],[.box 88 [(.b (.sl true .u8)),zi]]⟩,[.str,.ls .u8,.int]⟩,zx,lp GK Ea⟩
def Gj:Oa:=⟨⟨[.c (.one (.b (.sl true .u8)))],[]⟩,[.ls .u8],⟨[.c (.one (.b .str))],[]⟩,[.str],Io⟩
def TK:Ma:=Sa tab [(29,[],R6),(30,[],Ix),(32,[],V6),(31,[],Z6)] 38 0 [] [(5,Kx)]
theorem lQ:Pa Tryz.prog TK.Γ:=Ra (l:=[(29,[],R6),(30,[],Ix),(32,[],V6),(31,[],Z6)]) ⟨⟨zNO,Tryz.call29⟩,⟨⟨U6,Tryz.call30⟩,⟨⟨zNN,Tryz.call32⟩,⟨⟨zNR,Tryz.call31⟩,trivial⟩⟩⟩⟩
theorem zKF:Cb Tryz.prog 0 38 (Va (Tryz.f16.body.getD .skip) 0) Kx:=Fb (G:=TK) (F:=Kx.F) (eid:=Kx.eid) (FX:=Kx.FX) (FR:=Kx.FR) (B:=GK) (n:=Ea) Ga Ha lQ mixed (Ja (G:=TK) (n:=0) (by kernel_rfl) (by kernel_rfl) trivial (by kernel_rfl)) (fun s=>by kernel_rfl)
theorem NB:GC Tryz.prog 16 Gj:=Ua (G:=TK) (c:=Tryz.f16.body.getD .skip) Ga Ha lQ mixed Tryz.func16 (by kernel_rfl) Tryz.ntmps16 (Ja (G:=TK) (n:=1) (by kernel_rfl) (by kernel_rfl) ⟨trivial,Gb (id:=5) (L0:=Kx) (by kernel_rfl) (by kernel_rfl) zKF⟩ (by kernel_rfl)) (fun s=>by kernel_rfl)
end
section
open Go.RowKit
def zFP:Oa:=⟨⟨[.c (.one (.b (.sl true .u8)))],[]⟩,[.ls .u8],⟨[.c (.one (.b .bool))],[]⟩,[.bool],M5⟩
def B7:Ma:=Sa tab [(16,[],Gj),(14,[],Qh),(15,[],Rh)] 23 0 [] []
theorem zQ8:Pa Tryz.prog B7.Γ:=Ra (l:=[(16,[],Gj),(14,[],Qh),(15,[],Rh)]) ⟨⟨NB,Tryz.call16⟩,⟨⟨Qw,Tryz.call14⟩,⟨⟨Xw,Tryz.call15⟩,trivial⟩⟩⟩
theorem zMw:GC Tryz.prog 4 zFP:=Ua (G:=B7) (c:=Tryz.f4.body.getD .skip) Ga Ha zQ8 mixed Tryz.func4 (by kernel_rfl) Tryz.ntmps4 (Ja (G:=B7) (n:=0) (by kernel_rfl) (by kernel_rfl) trivial (by kernel_rfl)) (fun s=>by kernel_rfl)
def zFR:Oa:=⟨⟨[.c (.one (.b (.sl true .u8)))],[]⟩,[.ls .u8],⟨[.c (.one (.b .bool))],[]⟩,[.bool],N5⟩
def C7:Ma:=Sa tab [(16,[],Gj),(14,[],Qh),(15,[],Rh)] 25 0 [] []
theorem zRa:Pa Tryz.prog C7.Γ:=Ra (l:=[(16,[],Gj),(14,[],Qh),(15,[],Rh)]) ⟨⟨NB,Tryz.call16⟩,⟨⟨Qw,Tryz.call14⟩,⟨⟨Xw,Tryz.call15⟩,trivial⟩⟩⟩
theorem zMy:GC Tryz.prog 9 zFR:=Ua (G:=C7) (c:=Tryz.f9.body.getD .skip) Ga Ha zRa mixed Tryz.func9 (by kernel_rfl) Tryz.ntmps9 (Ja (G:=C7) (n:=0) (by kernel_rfl) (by kernel_rfl) trivial (by kernel_rfl)) (fun s=>by kernel_rfl)
def zFO:Oa:=⟨⟨[.c (.one (.b (.sl true .u8)))],[]⟩,[.ls .u8],⟨[.c (.one (.b .bool))],[]⟩,[.bool],O5⟩
def D7:Ma:=Sa tab [(16,[],Gj),(14,[],Qh),(15,[],Rh)] 23 0 [] []
theorem zQ7:Pa Tryz.prog D7.Γ:=Ra (l:=[(16,[],Gj),(14,[],Qh),(15,[],Rh)]) ⟨⟨NB,Tryz.call16⟩,⟨⟨Qw,Tryz.call14⟩,⟨⟨Xw,Tryz.call15⟩,trivial⟩⟩⟩
theorem zMv:GC Tryz.prog 12 zFO:=Ua (G:=D7) (c:=Tryz.f12.body.getD .skip) Ga Ha zQ7 mixed Tryz.func12 (by kernel_rfl) Tryz.ntmps12 (Ja (G:=D7) (n:=0) (by kernel_rfl) (by kernel_rfl) trivial (by kernel_rfl)) (fun s=>by kernel_rfl)
def zFS:Oa:=⟨⟨[.c (.one (.b (.sl true .u8)))],[]⟩,[.ls .u8],⟨[.c (.one (.b .bool))],[]⟩,[.bool],P5⟩
def E7:Ma:=Sa tab [(16,[],Gj),(14,[],Qh),(15,[],Rh)] 25 0 [] []
theorem zRb:Pa Tryz.prog E7.Γ:=Ra (l:=[(16,[],Gj),(14,[],Qh),(15,[],Rh)]) ⟨⟨NB,Tryz.call16⟩,⟨⟨Qw,Tryz.call14⟩,⟨⟨Xw,Tryz.call15⟩,trivial⟩⟩⟩
theorem zMz:GC Tryz.prog 10 zFS:=Ua (G:=E7) (c:=Tryz.f10.body.getD .skip) Ga Ha zRb mixed Tryz.func10 (by kernel_rfl) Tryz.ntmps10 (Ja (G:=E7) (n:=0) (by kernel_rfl) (by kernel_rfl) trivial (by kernel_rfl)) (fun s=>by kernel_rfl)
def zFQ:Oa:=⟨⟨[.c (.one (.b (.sl true .u8)))],[]⟩,[.ls .u8],⟨[.c (.one (.b .bool))],[]⟩,[.bool],Q5⟩
def F7:Ma:=Sa tab [(16,[],Gj),(14,[],Qh),(15,[],Rh)] 25 0 [] []
theorem zQ9:Pa Tryz.prog F7.Γ:=Ra (l:=[(16,[],Gj),(14,[],Qh),(15,[],Rh)]) ⟨⟨NB,Tryz.call16⟩,⟨⟨Qw,Tryz.call14⟩,⟨⟨Xw,Tryz.call15⟩,trivial⟩⟩⟩
theorem zMx:GC Tryz.prog 11 zFQ:=Ua (G:=F7) (c:=Tryz.f11.body.getD .skip) Ga Ha zQ9 mixed Tryz.func11 (by kernel_rfl) Tryz.ntmps11 (Ja (G:=F7) (n:=0) (by kernel_rfl) (by kernel_rfl) trivial (by kernel_rfl)) (fun s=>by kernel_rfl)
def zFT:Oa:=⟨⟨[.c (.one (.b (.sl true .u8)))],[]⟩,[.ls .u8],⟨[.c (.one (.b .bool))],[]⟩,[.bool],R5⟩
def G7:Ma:=Sa tab [(16,[],Gj),(14,[],Qh),(15,[],Rh)] 25 0 [] []
theorem zRc:Pa Tryz.prog G7.Γ:=Ra (l:=[(16,[],Gj),(14,[],Qh),(15,[],Rh)]) ⟨⟨NB,Tryz.call16⟩,⟨⟨Qw,Tryz.call14⟩,⟨⟨Xw,Tryz.call15⟩,trivial⟩⟩⟩
theorem zMA:GC Tryz.prog 13 zFT:=Ua (G:=G7) (c:=Tryz.f13.body.getD .skip) Ga Ha zRc mixed Tryz.func13 (by kernel_rfl) Tryz.ntmps13 (Ja (G:=G7) (n:=0) (by kernel_rfl) (by kernel_rfl) trivial (by kernel_rfl)) (fun s=>by kernel_rfl)
end
section
open Go.RowKit
theorem Hj (a b:ByteArray):(Da a b).size=a.size+b.size:=by
  obtain ⟨x,rfl⟩:=BN a
  obtain ⟨y,rfl⟩:=BN b
  rw [Zc,Yb,Yb,Yb,List.length_append]
theorem Ba.of {β:Type} {b:List Int} {p:Int} {zs:List ByteArray} {f:ByteArray×List Int×Int×Unit→Option β} {Q:β→Prop} (hB:IB b) (h0:0≤p) (h1:p≤1000000000) (hn:1≤zs.length∧zs.length≤100) (hz:∀z∈zs,z.size≤10) (k:∀z:ByteArray,z.size≤10→Ba (f (z,b,p+1,())) Q):Ba ((Pc (zs,b,p,())).bind f) Q:=by
  obtain ⟨x,e,q1,q2,q3⟩:=jZ (n:=(zs.length:Int)) hB h0 h1
  have q2:=q2 (by omega)
  obtain ⟨i,rfl⟩:=Int.eq_ofNat_of_zero_le q1
  have hi:i<zs.length:=by omega
  have h2:=Qx .str zs i hi
  refine La (r:=(Aa .str zs i,b,p+1,())) ?_ (k _ (hz _ (List.mem_of_getElem? h2)))
  unfold Pc
  simp only [Ta]
  refine Ba.out (La e ?_)
  exact Ba.gd (Ia (by omega) (by omega)) (.some rfl)
set_option maxHeartbeats 4000000 in
theorem H7 {b:List Int} (hB:IB b) {p:Int} (h0:0≤p) (h1:p≤10000000):Ba (JB (b,p,())) fun r=>∃(z:ByteArray) (p':Int),r=(z,b,p',())∧z.size≤60∧p≤p'∧p'≤p+8:=by
  unfold JB
  try dsimp only
  refine Ba.of hB (by omega) (by omega) (by decide) (by decide) (fun z0 hz0=>?_)
  try dsimp only
  refine Ba.of hB (by omega) (by omega) (by decide) (by decide) (fun z1 hz1=>?_)
  try dsimp only
  refine Ba.pick hB (by omega) (by omega) (fun x _ _ _=>?_)
  try dsimp only
  repeat' (first
    |(exfalso;omega)
    |refine Ba.some ?_
    |(refine Ba.of hB (by omega) (by omega) (by decide) (by decide) (fun z hz=>?_);try dsimp only)
    |(refine Ba.gd (decide_eq_true (by simp only [Hj,Yb,List.length_cons,List.length_nil];omega)) ?_)
    |(refine Ba.ite (fun h=>?_) (fun h=>?_)<;>simp only [decide_eq_true_eq,decide_eq_false_iff_not] at h))
  all_goals try dsimp only
  all_goals exact ⟨_,_,rfl,by (try simp only [Hj,Yb,List.length_cons,List.length_nil]);omega,by omega,by omega⟩
theorem yBY {z:ByteArray} {k:Int} (hz:z.size≤10) (h0:0≤k) (h1:k≤127):Ba (XR (z,k,())) fun r=>∃o:ByteArray,r=(o,())∧o.size≤1270:=by
  unfold XR
  refine Ba.bnd (R:=fun r=>match r with| .inl x=>∃o:ByteArray,x=(o,())∧o.size≤1270| .inr _=>False) ?_ ?_
  ·refine Ba.loop (fun s=>∃(z:ByteArray) (k:Nat) (o:ByteArray),s=(z,(k:Int),o,())∧k≤127∧o.size+z.size*k≤1270) (fun s=>s.2.1.toNat) ?_ Ea _ ?_ ?_
   ·rintro s ⟨z,k,o,rfl,hk,hb⟩
    unfold WR
    try dsimp only
    have e1:Int.tdiv (k:Int) 2=((k / 2:Nat):Int):=by rw [Int.tdiv_eq_ediv_of_nonneg (by omega)];omega
    have e2:Int.tmod (k:Int) 2=((k % 2:Nat):Int):=by rw [Int.tmod_eq_emod_of_nonneg (by omega)];omega
    refine Ba.ite (fun h=>?_) (fun h=>?_)
    ·have h:=oT h
     have hz:z.size≤z.size*k:=Nat.le_mul_of_pos_right _ (by omega)
     rw [e1,e2,Na (by omega) (by omega)]
     have hd:=Nat.div_add_mod k 2
     have key:z.size*k=(z.size+z.size)*(k / 2)+z.size*(k % 2):=by
       rw [←Nat.two_mul,Nat.mul_comm 2 z.size,Nat.mul_assoc,←Nat.mul_add,hd]
     refine Ba.ite (fun h2=>?_) (fun h2=>?_)
     ·have h2:=oT h2
      have h3:k % 2=1:=by omega
      rw [h3,Nat.mul_one] at key
      refine Ba.gd (decide_eq_true (by omega)) (Ba.gd (decide_eq_true (by omega)) (.some ⟨⟨_,_,_,rfl,by omega,?_⟩,?_⟩))
      ·rw [Hj,Hj];omega
      ·dsimp only;omega
     ·have h2:=oF h2
      have h3:k % 2=0:=by omega
      rw [h3,Nat.mul_zero] at key
      refine Ba.gd (decide_eq_true (by omega)) (.some ⟨⟨_,_,_,rfl,by omega,?_⟩,?_⟩)
      ·rw [Hj];omega
      ·dsimp only;omega
    ·exact .some ⟨_,rfl,by omega⟩
   ·show Int.toNat k<Ea
    have:=Jb (n:=k.toNat) (by omega)
    exact this
   ·refine ⟨z,k.toNat,_,by rw [show ((k.toNat:Nat):Int)=k by omega],by omega,?_⟩
    have h3:z.size*k.toNat≤10*127:=Nat.mul_le_mul hz (by omega)
    rw [Yb,List.length_nil]
    omega
  ·rintro (x|x) hx
   case inr=>exact hx.elim
   obtain ⟨o,rfl,ho⟩:=hx
   exact .some ⟨o,rfl,ho⟩
theorem yBZ {b:List Int} (hB:IB b) {n:Int} (hn:0≤n) (hn1:n<30) {p:Int} (h0:0≤p) (h1:p≤1000000):Ba (lp GK Ea (bs [],n,0,b,p,())) fun r=>match r with| .inl x=>∃(z:ByteArray) (p':Int),x=(z,b,p',())∧z.size≤3000∧p≤p'∧p'≤p+1000| .inr _=>False:=by
  refine Ba.count n.toNat (fun k s=>∃(z:ByteArray) (p':Int),s=(z,n,(k:Int),b,p',())∧z.size≤61*k∧p≤p'∧p'≤p+8*k) ?_ (Nat.zero_le _) (Jb (by omega)) ⟨_,p,rfl,by rw [Yb];simp,by omega,by omega⟩
  rintro k s hk ⟨z,p',rfl,hz,q1,q2⟩
  unfold GK
  try dsimp only
  refine Ba.ite (fun h=>?_) (fun h=>?_)
  ·have h:=oT h
   refine Ba.bnd (H7 hB (by omega) (by omega)) ?_
   rintro _ ⟨y,p2,rfl,hy,r1,r2⟩
   try dsimp only
   rw [Hj,Yb]
   refine Ba.gd (decide_eq_true (by omega)) (Ba.gd (decide_eq_true (by simp only [List.length_cons,List.length_nil];omega)) (.some ⟨by omega,_,_,by rw [Na (by omega) (by omega)];rfl,?_,by omega,by omega⟩))
   rw [Hj,Hj,Yb]
   simp only [List.length_cons,List.length_nil]
   omega
  ·exact .some ⟨z,p',rfl,by omega,by omega,by omega⟩
theorem OB {c:List Int} (hz:∀z∈c,0≤z∧z<256) (hl:Bb c):Ba (Io (c,())) fun r=>∃t:List UInt8,r=(bs t,())∧t.length≤6000:=by
  obtain ⟨b,e,hB⟩:=yA1 hz hl
  have Hd:∀{z:ByteArray},z.size≤6000→∃t:List UInt8,(z,())=(bs t,())∧t.length≤6000:=fun {z} h=>by
    obtain ⟨t,rfl⟩:=BN z
    exact ⟨t,rfl,by rwa [Yb] at h⟩
  unfold Io
  refine La e ?_
  try dsimp only
  refine Ba.pick hB (by omega) (by omega) (fun n n0 n1 _=>?_)
  have n1:=n1 (by omega)
  try dsimp only
  refine Ba.bnd (yBZ hB n0 n1 (by omega) (by omega)) ?_
  rintro (x|x) hx
  case inr=>exact hx.elim
  obtain ⟨z,p',rfl,hz,q1,q2⟩:=hx
  try dsimp only
  refine Ba.pick hB (by omega) (by omega) (fun x4 _ _ _=>?_)
  try dsimp only
  refine Ba.ite (fun _=>?_) (fun _=>?_)
  ·refine Ba.pick hB (by omega) (by omega) (fun x5 y5 z5 _=>?_)
   have z5:=z5 (by omega)
   try dsimp only
   rw [Na (by omega) (by omega)]
   refine Ba.bnd (yBY (by rw [Yb];decide) (by omega) (by omega)) ?_
   rintro _ ⟨o,rfl,ho⟩
   try dsimp only
   refine Ba.gd (decide_eq_true (by omega)) (Ba.pick hB (by omega) (by omega) (fun x7 _ _ _=>?_))
   try dsimp only
   refine Ba.ite (fun _=>?_) (fun _=>?_)
   ·refine Ba.bnd (H7 hB (by omega) (by omega)) ?_
    rintro _ ⟨y,p2,rfl,hy,_,_⟩
    try dsimp only
    rw [Hj]
    exact Ba.gd (decide_eq_true (by omega)) (.some (Hd (by rw [Hj,Hj];omega)))
   ·exact .some (Hd (by rw [Hj];omega))
  ·refine Ba.pick hB (by omega) (by omega) (fun x9 _ _ _=>?_)
   try dsimp only
   refine Ba.ite (fun _=>?_) (fun _=>?_)
   ·refine Ba.bnd (H7 hB (by omega) (by omega)) ?_
    rintro _ ⟨y,p2,rfl,hy,_,_⟩
    try dsimp only
    exact Ba.gd (decide_eq_true (by omega)) (.some (Hd (by rw [Hj];omega)))
   ·exact .some (Hd (by omega))
end
section
open Go.RowKit
open Go.Lib (itoa decDigits)
def UK:Nat→Nat→List UInt8
  |0,_=>[]
  |f+1,u=>if u<10 then [UInt8.ofNat (48+u)] else UK f (u / 10)++[UInt8.ofNat (48+u % 10)]
theorem I7:∀f u,u<f→decDigits u=UK f u
  |0,u,h=>by omega
  |f+1,u,h=>by
   rw [YR,UK]
   split
   ·rfl
   ·rw [I7 f (u / 10) (by omega)]
def J7 (n:Int):List UInt8:=if n<0 then 45::UK (n.natAbs+1) n.natAbs else UK (n.toNat+1) n.toNat
theorem lR:itoa=J7:=by
  funext n
  unfold itoa J7
  rw [I7 _ _ (Nat.lt_succ_self n.natAbs),I7 _ _ (Nat.lt_succ_self n.toNat)]
def lS (l:List Int):List UInt8:=l.flatMap fun n=>32::J7 n
theorem VK:blk=lS:=by
  funext l
  unfold blk lS
  rw [lR]
theorem yB0:If W0.db 5=[110,111,100,101,32,48,32,49,32,49,32,49,32,49,32,49,10,110,111,100,101,32,49,32,49,32,49,32,49,32,49,32,49,10,110,111,100,101,32,50,32,49,32,49,32,49,32,49,32,49,10,110,111,100,101,32,51,32,49,32,49,32,49,32,49,32,49,10,110,111,100,101,32,52,32,49,32,49,32,49,32,49,32,49,10]:=by
  unfold If Ad
  rw [VK]
  kernel_rfl
theorem WK:Vd Ya Za []=If W0.db 5:=by
  unfold Vd
  rw [if_neg (by decide)]
  rfl
theorem LS {s:List UInt8} (hs:∀x∈s,x≠10) (hl:s.length≤500):Vd Ya Za (s++[10])=(Dd Ya Za W0 s).2++If (Dd Ya Za W0 s).1.db 5:=by
  have:=kL Ya Za (t:=[]) (c:=[]) (s:=s) ⟨by simp,.inl ⟨rfl,rfl⟩⟩ hs (by simp;omega) (W:=W0) (o:=[]) rfl Jm
  simpa using this
theorem yB1:Vd Ya Za [112,97,116,104,32,48,32,51,10]=[112,97,116,104,32,48,32,49,32,50,32,51,10]++Vd Ya Za []:=by
  have h:=LS (s:=[112,97,116,104,32,48,32,51]) (by decide) (by decide)
  have e:Dd Ya Za W0 [112,97,116,104,32,48,32,51]=(W0,Ad Jo (Xh (Cd W0 0) 0 3)):=by kernel_rfl
  have e2:Xh (Cd W0 0) 0 3=[0,1,2,3]:=by kernel_rfl
  have e3:Ad Jo [0,1,2,3]=[112,97,116,104,32,48,32,49,32,50,32,51,10]:=by unfold Ad;rw [VK];kernel_rfl
  rw [e,e2,e3] at h
  rw [WK]
  exact h
theorem yB2:Vd Ya Za [114,101,112,97,105,114,32,48,32,48,32,49,10]=[114,101,112,97,105,114,32,110,52,32,108,51,10]++Vd Ya Za []:=by
  have h:=LS (s:=[114,101,112,97,105,114,32,48,32,48,32,49]) (by decide) (by decide)
  have e:Dd Ya Za W0 [114,101,112,97,105,114,32,48,32,48,32,49]=(W0,Ex Ya 0 0 1):=by kernel_rfl
  have e2:Ya 0 0 1=([⟨1,4⟩,⟨2,3⟩],true):=by kernel_rfl
  have e3:Ex Ya 0 0 1=[114,101,112,97,105,114,32,110,52,32,108,51,10]:=by unfold Ex;rw [e2];unfold Wg;rw [lR];kernel_rfl
  rw [e,e3] at h
  rw [WK]
  exact h
theorem yB3:Vd Ya Za [111,114,100,101,114,32,48,32,49,10]=[111,114,100,101,114,32,52,32,48,10]++Vd Ya Za []:=by
  have h:=LS (s:=[111,114,100,101,114,32,48,32,49]) (by decide) (by decide)
  have e:Dd Ya Za W0 [111,114,100,101,114,32,48,32,49]=(W0,Ad Lo (Za 0 1)):=by kernel_rfl
  have e2:Za 0 1=[4,0]:=by kernel_rfl
  have e3:Ad Lo [4,0]=[111,114,100,101,114,32,52,32,48,10]:=by unfold Ad;rw [VK];kernel_rfl
  rw [e,e2,e3] at h
  rw [WK]
  exact h
theorem yB4:Vd Ya Za [115,101,101,110,32,50,32,48,10]=[115,101,101,110,32,48,32,50,32,52,32,54,32,51,10]++Vd Ya Za []:=by
  have h:=LS (s:=[115,101,101,110,32,50,32,48]) (by decide) (by decide)
  have e:Dd Ya Za W0 [115,101,101,110,32,50,32,48]=(W0,Ad Ko (Gm (Cd W0 2).1 (Cd W0 2).2 0)):=by kernel_rfl
  have e2:Gm (Cd W0 2).1 (Cd W0 2).2 0=[0,2,4,6,3]:=by kernel_rfl
  have e3:Ad Ko [0,2,4,6,3]=[115,101,101,110,32,48,32,50,32,52,32,54,32,51,10]:=by unfold Ad;rw [VK];kernel_rfl
  rw [e,e2,e3] at h
  rw [WK]
  exact h
theorem yB5:Vd Ya Za [100,111,119,110,32,48,10,99,97,108,109,10]=[110,111,100,101,32,48,32,50,32,50,32,49,32,49,32,49,10,110,111,100,101,32,49,32,50,32,50,32,49,32,49,32,49,10,110,111,100,101,32,50,32,50,32,50,32,49,32,49,32,49,10,110,111,100,101,32,51,32,50,32,50,32,49,32,49,32,49,10,110,111,100,101,32,52,32,50,32,50,32,49,32,49,32,49,10]:=by
  have h:=kL Ya Za (t:=[100,111,119,110,32,48,10]) (c:=[100,111,119,110,32,48,10]) (s:=KB) ⟨Nat.le_refl _,.inr ⟨[100,111,119,110,32,48],rfl,by decide⟩⟩ (by decide) (by decide) (W:=Uc W0 1 0) (o:=[]) (by kernel_rfl) (kI Jm 1 0)
  have e:Dd Ya Za (Uc W0 1 0) KB=(Pf (Uc W0 1 0),[]):=by kernel_rfl
  have e2:(List.range 5).map (fun n=>(Qa (Pf (Uc W0 1 0)).db n).map (·.s))=List.replicate 5 [2,2,1,1,1]:=by kernel_rfl
  rw [e] at h
  refine h.trans ?_
  have e3:If (Pf (Uc W0 1 0)).db 5=(List.zip (List.range 5) ((List.range 5).map (fun n=>(Qa (Pf (Uc W0 1 0)).db n).map (·.s)))).flatMap fun x=>Ad Yp ((x.1:Int)::x.2):=rfl
  rw [e3,e2]
  unfold Ad
  rw [VK]
  show @Eq (List UInt8) _ _
  kernel_rfl
theorem yB6 (t:List UInt8):(Vd Ya Za t).length≤84002000:=by
  by_cases h:600<t.length
  ·unfold Vd
   rw [if_pos h];decide
  ·have:=Q6 (t:=t) (by omega)
   unfold Vd
   rw [if_neg h,List.length_append]
   omega
theorem yB7 {c:List Int} (hz:∀z∈c,0≤z∧z<256):M5 (c,())=some (true,()):=by
  unfold M5
  refine Ba.out (Ba.ite (fun _=>.some rfl) (fun h=>?_))
  have h:=oF h
  dsimp only at h
  rw [Ta] at h
  have hf:Bb c:=by unfold Bb;omega
  refine Ba.bnd (OB hz hf) ?_
  rintro _ ⟨t,rfl,ht⟩
  refine La (Fl t (by omega)) (La (Hx t (by omega)) ?_)
  try dsimp only
  rw [Nh,decide_eq_true rfl]
  refine Ba.no rfl ?_
  refine La (Fl [] (by decide)) (.some ?_)
  rw [Nh,WK,yB0]
  rfl
theorem yB8 {c:List Int} (hz:∀z∈c,0≤z∧z<256):O5 (c,())=some (true,()):=by
  unfold O5
  refine Ba.out (Ba.ite (fun _=>.some rfl) (fun h=>?_))
  have h:=oF h
  dsimp only at h
  rw [Ta] at h
  have hf:Bb c:=by unfold Bb;omega
  refine Ba.bnd (OB hz hf) ?_
  rintro _ ⟨t,rfl,ht⟩
  refine La (Fl t (by omega)) (La (Hx t (by omega)) ?_)
  try dsimp only
  rw [Nh,decide_eq_true rfl]
  refine Ba.no rfl ?_
  refine La (Fl _ (by decide)) (.some ?_)
  rw [Nh,yB5]
  rfl
theorem MS {s lit:List UInt8} (hs:s.length≤600) (hl:lit.length≤600) (hx:Vd Ya Za s=lit++Vd Ya Za []):Ba ((Ef (bs s,())).bind fun r3=>(Ef (bs [],())).bind fun r4=>(bif decide (ByteArray.size (bs lit)+ByteArray.size r4.1≤(9223372036854775807:Nat)) then some (Dc r3.1 (Da (bs lit) r4.1),()) else none)) (·=(true,())):=by
  refine La (Fl s (by omega)) (La (Fl [] (by decide)) ?_)
  try dsimp only
  have h2:=yB6 []
  rw [Yb,Yb,Zc,Nh,decide_eq_true hx]
  exact Ba.gd (decide_eq_true (by omega)) (.some rfl)
theorem yB9 {c:List Int} (hz:∀z∈c,0≤z∧z<256):N5 (c,())=some (true,()):=by
  unfold N5
  refine Ba.out (Ba.ite (fun _=>.some rfl) (fun h=>?_))
  have h:=oF h
  dsimp only at h
  rw [Ta] at h
  have hf:Bb c:=by unfold Bb;omega
  refine Ba.bnd (OB hz hf) ?_
  rintro _ ⟨t,rfl,ht⟩
  refine La (Fl t (by omega)) (La (Hx t (by omega)) ?_)
  try dsimp only
  rw [Nh,decide_eq_true rfl]
  refine Ba.no rfl ?_
  exact MS (by decide) (by decide) yB1
theorem yCa {c:List Int} (hz:∀z∈c,0≤z∧z<256):P5 (c,())=some (true,()):=by
  unfold P5
  refine Ba.out (Ba.ite (fun _=>.some rfl) (fun h=>?_))
  have h:=oF h
  dsimp only at h
  rw [Ta] at h
  have hf:Bb c:=by unfold Bb;omega
  refine Ba.bnd (OB hz hf) ?_
  rintro _ ⟨t,rfl,ht⟩
  refine La (Fl t (by omega)) (La (Hx t (by omega)) ?_)
  try dsimp only
  rw [Nh,decide_eq_true rfl]
  refine Ba.no rfl ?_
  exact MS (by decide) (by decide) yB2
theorem yCb {c:List Int} (hz:∀z∈c,0≤z∧z<256):Q5 (c,())=some (true,()):=by
  unfold Q5
  refine Ba.out (Ba.ite (fun _=>.some rfl) (fun h=>?_))
  have h:=oF h
  dsimp only at h
  rw [Ta] at h
  have hf:Bb c:=by unfold Bb;omega
  refine Ba.bnd (OB hz hf) ?_
  rintro _ ⟨t,rfl,ht⟩
  refine La (Fl t (by omega)) (La (Hx t (by omega)) ?_)
  try dsimp only
  rw [Nh,decide_eq_true rfl]
  refine Ba.no rfl ?_
  exact MS (by decide) (by decide) yB3
theorem yCc {c:List Int} (hz:∀z∈c,0≤z∧z<256):R5 (c,())=some (true,()):=by
  unfold R5
  refine Ba.out (Ba.ite (fun _=>.some rfl) (fun h=>?_))
  have h:=oF h
  dsimp only at h
  rw [Ta] at h
  have hf:Bb c:=by unfold Bb;omega
  refine Ba.bnd (OB hz hf) ?_
  rintro _ ⟨t,rfl,ht⟩
  refine La (Fl t (by omega)) (La (Hx t (by omega)) ?_)
  try dsimp only
  rw [Nh,decide_eq_true rfl]
  refine Ba.no rfl ?_
  exact MS (by decide) (by decide) yB4
end
end Go.Proofs.YtjffopopheiinaaGreatDoor
