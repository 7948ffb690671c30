/- Part 6 of the proof: KA KC KW KV PeA UG PeB Pc UO UQ Pk6 UR. -/
import Derived.Test.YtknkhdjhongklaaGreatQz5
set_option linter.unusedSimpArgs false
set_option linter.unusedVariables false
set_option maxRecDepth 100000
namespace Go.Proofs.YtknkhdjhongklaaGreat
section
open Go.RowKit
def ZQ:Pa:=⟨⟨[.c (.agg [zi,zi,zi]),zc],[]⟩,[.int,.int,.int,.int],⟨[.tup [(.one zi),(.one (.b .bool))]],[]⟩,[.int,.bool],VE⟩
def AR:La:=Ta tab [] 19 0 [] []
theorem rJ:Na Tryz.prog AR.Γ:=Sa (l:=[]) trivial
theorem rK:GC Tryz.prog 157 ZQ:=Ua (G:=AR) (c:=Tryz.f157.body.getD .skip) Ga Ja rJ mixed Tryz.func157 (by kernel_rfl) Tryz.ntmps157 (Ia (G:=AR) (n:=0) (by kernel_rfl) (by kernel_rfl) trivial (by kernel_rfl)) (fun s=>by kernel_rfl)
def EA:Pa:=⟨⟨[zc,zc,zc],[]⟩,[.int,.int,.int],⟨[.c (.one (.b .bool))],[]⟩,[.bool],Ap⟩
def BR:La:=Ta tab [] 15 0 [] []
theorem rL:Na Tryz.prog BR.Γ:=Sa (l:=[]) trivial
theorem G6:GC Tryz.prog 58 EA:=Ua (G:=BR) (c:=Tryz.f58.body.getD .skip) Ga Ja rL mixed Tryz.func58 (by kernel_rfl) Tryz.ntmps58 (Ia (G:=BR) (n:=0) (by kernel_rfl) (by kernel_rfl) trivial (by kernel_rfl)) (fun s=>by kernel_rfl)
def Iq:Pa:=⟨⟨[zc,zc,zc],[]⟩,[.int,.int,.int],⟨[.c (.one (.b .bool))],[]⟩,[.bool],Fj⟩
def CR:La:=Ta tab [] 15 0 [] []
theorem rM:Na Tryz.prog CR.Γ:=Sa (l:=[]) trivial
theorem DR:GC Tryz.prog 82 Iq:=Ua (G:=CR) (c:=Tryz.f82.body.getD .skip) Ga Ja rM mixed Tryz.func82 (by kernel_rfl) Tryz.ntmps82 (Ia (G:=CR) (n:=0) (by kernel_rfl) (by kernel_rfl) trivial (by kernel_rfl)) (fun s=>by kernel_rfl)
def Jq:Cb:=⟨⟨[1,2,3,7],⟨[zc,zc,.c (.one (.ptr 0 0)),zc],[.box 34 [zi,(.b (.sl false .lk))]]⟩,[.int,.int,.int,.int,.ls .lk]⟩,0,⟨[],⟨[],[]⟩,[]⟩,⟨[6],⟨[zc],[]⟩,[.int]⟩,lp WE Fa⟩
def FA:Pa:=⟨⟨[.c (.agg [zi,(.b (.sl false .lk))]),zc,zc],[]⟩,[.int,.ls .lk,.int,.int],⟨[zc],[]⟩,[.int],Pw⟩
def GA:La:=Ta tab [] 38 0 [] [(2,Jq)]
theorem I6:Na Tryz.prog GA.Γ:=Sa (l:=[]) trivial
theorem rN:Kb Tryz.prog 0 38 (Gb (Tryz.f130.body.getD .skip) 0) Jq:=Qb (G:=GA) (F:=Jq.F) (eid:=Jq.eid) (FX:=Jq.FX) (FR:=Jq.FR) (B:=WE) (n:=Fa) Ga Ja I6 mixed (Ia (G:=GA) (n:=0) (by kernel_rfl) (by kernel_rfl) trivial (by kernel_rfl)) (fun s=>by kernel_rfl)
theorem J6:GC Tryz.prog 130 FA:=Ua (G:=GA) (c:=Tryz.f130.body.getD .skip) Ga Ja I6 mixed Tryz.func130 (by kernel_rfl) Tryz.ntmps130 (Ia (G:=GA) (n:=1) (by kernel_rfl) (by kernel_rfl) ⟨trivial,Rb (id:=2) (L0:=Jq) (by kernel_rfl) (by kernel_rfl) rN⟩ (by kernel_rfl)) (fun s=>by kernel_rfl)
def Kq:Cb:=⟨⟨[1,3],⟨[.c (.one (.ptr 0 0)),zc],[.box 34 [zi,(.b (.sl false .lk))]]⟩,[.int,.int,.ls .lk]⟩,0,⟨[1],⟨[.c (.one (.ptr 0 0))],[.box 34 [zi,(.b (.sl false .lk))]]⟩,[.int,.ls .lk]⟩,⟨[2],⟨[.c (.one (.b .bool))],[]⟩,[.bool]⟩,lp XE Fa⟩
def IA:Pa:=⟨⟨[.c (.agg [zi,(.b (.sl false .lk))])],[]⟩,[.int,.ls .lk],⟨[.c (.one (.b .bool))],[]⟩,[.bool],Qw⟩
def JA:La:=Ta tab [(82,[],Iq)] 89 0 [(7,34,tk 34,[])] [(2,Kq)]
theorem K6:Na Tryz.prog JA.Γ:=Sa (l:=[(82,[],Iq)]) ⟨⟨DR,Tryz.call82⟩,trivial⟩
theorem rO:Kb Tryz.prog 0 89 (Gb (Tryz.f101.body.getD .skip) 0) Kq:=Qb (G:=JA) (F:=Kq.F) (eid:=Kq.eid) (FX:=Kq.FX) (FR:=Kq.FR) (B:=XE) (n:=Fa) Ga Ja K6 mixed (Ia (G:=JA) (n:=0) (by kernel_rfl) (by kernel_rfl) trivial (by kernel_rfl)) (fun s=>by kernel_rfl)
theorem L6:GC Tryz.prog 101 IA:=Ua (G:=JA) (c:=Tryz.f101.body.getD .skip) Ga Ja K6 mixed Tryz.func101 (by kernel_rfl) Tryz.ntmps101 (Ia (G:=JA) (n:=1) (by kernel_rfl) (by kernel_rfl) ⟨trivial,Rb (id:=2) (L0:=Kq) (by kernel_rfl) (by kernel_rfl) rO⟩ (by kernel_rfl)) (fun s=>by kernel_rfl)
def Lq:Cb:=⟨⟨[1,16,17,18],⟨[.c (.one (.ptr 0 0)),.c (.one (.b (.sl false .lk))),zc,zc],[.box 34 [zi,(.b (.sl false .lk))]]⟩,[.ls .lk,.int,.int,.int,.ls .lk]⟩,0,⟨[],⟨[],[]⟩,[]⟩,⟨[2],⟨[.c (.one (.b .bool))],[]⟩,[.bool]⟩,lp YE Fa⟩
def ER:Pa:=⟨⟨[.c (.agg [zi,(.b (.sl false .lk))])],[]⟩,[.int,.ls .lk],⟨[.c (.one (.b .bool))],[]⟩,[.bool],ZE⟩
def KA:La:=Ta tab [(58,[],EA)] 85 0 [(8,34,tk 34,[])] [(4,Lq)]
theorem M6:Na Tryz.prog KA.Γ:=Sa (l:=[(58,[],EA)]) ⟨⟨G6,Tryz.call58⟩,trivial⟩
theorem rP:Kb Tryz.prog 0 85 (Gb (Tryz.f85.body.getD .skip) 0) Lq:=Qb (G:=KA) (F:=Lq.F) (eid:=Lq.eid) (FX:=Lq.FX) (FR:=Lq.FR) (B:=YE) (n:=Fa) Ga Ja M6 mixed (Ia (G:=KA) (n:=0) (by kernel_rfl) (by kernel_rfl) trivial (by kernel_rfl)) (fun s=>by kernel_rfl)
theorem rQ:GC Tryz.prog 85 ER:=Ua (G:=KA) (c:=Tryz.f85.body.getD .skip) Ga Ja M6 mixed Tryz.func85 (by kernel_rfl) Tryz.ntmps85 (Ia (G:=KA) (n:=1) (by kernel_rfl) (by kernel_rfl) ⟨trivial,Rb (id:=4) (L0:=Lq) (by kernel_rfl) (by kernel_rfl) rP⟩ (by kernel_rfl)) (fun s=>by kernel_rfl)
def Mq:Cb:=⟨⟨[1,5,12,13,14],⟨[zc,.c (.one (.own 0)),.c (.one (.b (.sl false .lk))),zc,zc],[.row 3 .int]⟩,[.int,.ls .lk,.int,.int,.ls .int]⟩,0,⟨[5],⟨[.c (.one (.own 0))],[.row 3 .int]⟩,[.ls .int]⟩,zx,lp AF Fa⟩
def LA:Pa:=⟨⟨[.c (.agg [zi,(.b (.sl false .lk))]),zc],[]⟩,[.int,.ls .lk,.int],⟨[.c (.one (.own 0))],[.row 3 .int]⟩,[.ls .int],Ft⟩
def MA:La:=Ta tab [(158,[],OM),(157,[],ZQ)] 33 0 [] [(3,Mq)]
theorem N6:Na Tryz.prog MA.Γ:=Sa (l:=[(158,[],OM),(157,[],ZQ)]) ⟨⟨jC,Tryz.call158⟩,⟨⟨rK,Tryz.call157⟩,trivial⟩⟩
theorem rR:Kb Tryz.prog 0 33 (Gb (Tryz.f144.body.getD .skip) 0) Mq:=Qb (G:=MA) (F:=Mq.F) (eid:=Mq.eid) (FX:=Mq.FX) (FR:=Mq.FR) (B:=AF) (n:=Fa) Ga Ja N6 mixed (Ia (G:=MA) (n:=0) (by kernel_rfl) (by kernel_rfl) trivial (by kernel_rfl)) (fun s=>by kernel_rfl)
theorem O6:GC Tryz.prog 144 LA:=Ua (G:=MA) (c:=Tryz.f144.body.getD .skip) Ga Ja N6 mixed Tryz.func144 (by kernel_rfl) Tryz.ntmps144 (Ia (G:=MA) (n:=1) (by kernel_rfl) (by kernel_rfl) ⟨trivial,Rb (id:=3) (L0:=Mq) (by kernel_rfl) (by kernel_rfl) rR⟩ (by kernel_rfl)) (fun s=>by kernel_rfl)
def Nq:Cb:=⟨⟨[1,2,5,6],⟨[zc,.c (.one (.ptr 0 0)),.c (.one (.own 1)),zc],[.box 34 [zi,(.b (.sl false .lk))],.row 3 .int]⟩,[.int,.int,.int,.ls .lk,.ls .int]⟩,0,⟨[5],⟨[.c (.one (.own 0))],[.row 3 .int]⟩,[.ls .int]⟩,zx,lp Sw Fa⟩
def GR:Pa:=⟨⟨[.c (.agg [zi,(.b (.sl false .lk))]),zc],[]⟩,[.int,.ls .lk,.int],⟨[.c (.one (.own 0))],[.row 3 .int]⟩,[.ls .int],Tw⟩
def NA:La:=Ta tab [(130,[],FA),(101,[],IA)] 26 0 [] [(3,Nq)]
theorem P6:Na Tryz.prog NA.Γ:=Sa (l:=[(130,[],FA),(101,[],IA)]) ⟨⟨J6,Tryz.call130⟩,⟨⟨L6,Tryz.call101⟩,trivial⟩⟩
theorem rS:Kb Tryz.prog 0 26 (Gb (Tryz.f163.body.getD .skip) 0) Nq:=Qb (G:=NA) (F:=Nq.F) (eid:=Nq.eid) (FX:=Nq.FX) (FR:=Nq.FR) (B:=Sw) (n:=Fa) Ga Ja P6 mixed (Ia (G:=NA) (n:=0) (by kernel_rfl) (by kernel_rfl) trivial (by kernel_rfl)) (fun s=>by kernel_rfl)
theorem rT:GC Tryz.prog 163 GR:=Ua (G:=NA) (c:=Tryz.f163.body.getD .skip) Ga Ja P6 mixed Tryz.func163 (by kernel_rfl) Tryz.ntmps163 (Ia (G:=NA) (n:=1) (by kernel_rfl) (by kernel_rfl) ⟨trivial,Rb (id:=3) (L0:=Nq) (by kernel_rfl) (by kernel_rfl) rS⟩ (by kernel_rfl)) (fun s=>by kernel_rfl)
def OA:Pa:=⟨⟨[.c (.agg [zi,zi,zi]),.c (.one (.at_ [(.int .i64)] 0)),.c (.one (.at_ [(.int .i64)] 0))],[]⟩,[.int,.int,.int,.int,.int],⟨[.c (.one (.b .bool))],[]⟩,[.bool],BF⟩
def HR:La:=Ta tab [] 19 0 [] []
theorem rU:Na Tryz.prog HR.Γ:=Sa (l:=[]) trivial
theorem Q6:GC Tryz.prog 152 OA:=Ua (G:=HR) (c:=Tryz.f152.body.getD .skip) Ga Ja rU mixed Tryz.func152 (by kernel_rfl) Tryz.ntmps152 (Ia (G:=HR) (n:=0) (by kernel_rfl) (by kernel_rfl) trivial (by kernel_rfl)) (fun s=>by kernel_rfl)
def Oq:Cb:=⟨⟨[0,1,7,8],⟨[.c (.one (.b (.sl false .lk))),.c (.fn 152 [(.at_ [(.int .i64)] 0),(.at_ [(.int .i64)] 0)]),zc,zc],[]⟩,[.ls .lk,.int,.int,.int,.int]⟩,0,⟨[],⟨[],[]⟩,[]⟩,⟨[4],⟨[zc],[]⟩,[.int]⟩,lp DF Fa⟩
def IR:Pa:=⟨⟨[.c (.one (.b (.sl false .lk))),.c (.fn 152 [(.at_ [(.int .i64)] 0),(.at_ [(.int .i64)] 0)])],[]⟩,[.ls .lk,.int,.int],⟨[zc],[]⟩,[.int],GN⟩
def PA:La:=Ta tab [(152,[],OA)] 19 0 [] [(2,Oq)]
theorem R6:Na Tryz.prog PA.Γ:=Sa (l:=[(152,[],OA)]) ⟨⟨Q6,Tryz.call152⟩,trivial⟩
theorem rV:Kb Tryz.prog 0 19 (Gb (Tryz.f151.body.getD .skip) 0) Oq:=Qb (G:=PA) (F:=Oq.F) (eid:=Oq.eid) (FX:=Oq.FX) (FR:=Oq.FR) (B:=DF) (n:=Fa) Ga Ja R6 mixed (Ia (G:=PA) (n:=0) (by kernel_rfl) (by kernel_rfl) trivial (by kernel_rfl)) (fun s=>by kernel_rfl)
theorem rW:GC Tryz.prog 151 IR:=Ua (G:=PA) (c:=Tryz.f151.body.getD .skip) Ga Ja R6 mixed Tryz.func151 (by kernel_rfl) Tryz.ntmps151 (Ia (G:=PA) (n:=1) (by kernel_rfl) (by kernel_rfl) ⟨trivial,Rb (id:=2) (L0:=Oq) (by kernel_rfl) (by kernel_rfl) rV⟩ (by kernel_rfl)) (fun s=>by kernel_rfl)
def JR:Pa:=⟨⟨[.c (.agg [zi,(.b (.sl false .lk))]),zc,zc],[]⟩,[.int,.ls .lk,.int,.int],⟨[zc],[]⟩,[.int],EF⟩
def KR:La:=Ta tab [(152,[],OA),(151,[152],IR)] 11 0 [] []
theorem rX:Na Tryz.prog KR.Γ:=Sa (l:=[(152,[],OA),(151,[152],IR)]) ⟨⟨Q6,Tryz.call152⟩,⟨⟨rW,Tryz.call151⟩,trivial⟩⟩
theorem rY:GC Tryz.prog 136 JR:=Ua (G:=KR) (c:=Tryz.f136.body.getD .skip) Ga Ja rX mixed Tryz.func136 (by kernel_rfl) Tryz.ntmps136 (Ia (G:=KR) (n:=0) (by kernel_rfl) (by kernel_rfl) trivial (by kernel_rfl)) (fun s=>by kernel_rfl)
end
section
open Go.RowKit
def LR:Pa:=⟨⟨[zc],[]⟩,[.int],⟨[.c (.one (.b .bool))],[]⟩,[.bool],Uw⟩
def NR:La:=Ta tab [] 6 0 [] []
theorem rZ:Na Tryz.prog NR.Γ:=Sa (l:=[]) trivial
theorem sA:GC Tryz.prog 150 LR:=Ua (G:=NR) (c:=Tryz.f150.body.getD .skip) Ga Ja rZ mixed Tryz.func150 (by kernel_rfl) Tryz.ntmps150 (Ia (G:=NR) (n:=0) (by kernel_rfl) (by kernel_rfl) trivial (by kernel_rfl)) (fun s=>by kernel_rfl)
def OR:Pa:=⟨⟨[zc,zc],[]⟩,[.int,.int],⟨[zc],[]⟩,[.int],GF⟩
def PR:La:=Ta tab [(150,[],LR)] 20 0 [] []
theorem sB:Na Tryz.prog PR.Γ:=Sa (l:=[(150,[],LR)]) ⟨⟨sA,Tryz.call150⟩,trivial⟩
theorem sC:GC Tryz.prog 135 OR:=Ua (G:=PR) (c:=Tryz.f135.body.getD .skip) Ga Ja sB mixed Tryz.func135 (by kernel_rfl) Tryz.ntmps135 (Ia (G:=PR) (n:=0) (by kernel_rfl) (by kernel_rfl) trivial (by kernel_rfl)) (fun s=>by kernel_rfl)
def Pq:Cb:=⟨⟨[0,1,4,6],⟨[.c (.one (.b (.sl false .ls))),zc,.c (.one (.ptr 0 0)),zc],[.box 108 [zi,zi,(.b (.sl true .en))]]⟩,[.ls .ls,.int,.int,.int,.int,.ls .en]⟩,0,⟨[4],⟨[.c (.one (.ptr 0 0))],[.box 108 [zi,zi,(.b (.sl true .en))]]⟩,[.int,.int,.ls .en]⟩,⟨[4,5],⟨[.c (.one (.ptr 0 0)),.c (.one (.b .bool))],[.box 108 [zi,zi,(.b (.sl true .en))]]⟩,[.bool,.int,.int,.ls .en]⟩,lp HF Fa⟩
def QR:Pa:=⟨⟨[.c (.one (.b (.sl false .ls))),zc],[]⟩,[.ls .ls,.int],⟨[.tup [(.agg [zi,zi,(.b (.sl true .en))]),(.one (.b .bool))]],[]⟩,[.int,.int,.ls .en,.bool],IF⟩
def QA:La:=Ta tab [] 25 0 [] [(2,Pq)]
theorem S6:Na Tryz.prog QA.Γ:=Sa (l:=[]) trivial
theorem sD:Kb Tryz.prog 0 25 (Gb (Tryz.f81.body.getD .skip) 0) Pq:=Qb (G:=QA) (F:=Pq.F) (eid:=Pq.eid) (FX:=Pq.FX) (FR:=Pq.FR) (B:=HF) (n:=Fa) Ga Ja S6 mixed (Ia (G:=QA) (n:=0) (by kernel_rfl) (by kernel_rfl) trivial (by kernel_rfl)) (fun s=>by kernel_rfl)
theorem sE:GC Tryz.prog 81 QR:=Ua (G:=QA) (c:=Tryz.f81.body.getD .skip) Ga Ja S6 mixed Tryz.func81 (by kernel_rfl) Tryz.ntmps81 (Ia (G:=QA) (n:=1) (by kernel_rfl) (by kernel_rfl) ⟨trivial,Rb (id:=2) (L0:=Pq) (by kernel_rfl) (by kernel_rfl) sD⟩ (by kernel_rfl)) (fun s=>by kernel_rfl)
def Qq:Cb:=⟨⟨[1,3,6,7,8],⟨[zc,.c (.one (.ptr 0 0)),.c (.one (.ptr 1 0)),.c (.one (.ptr 2 0)),zc],[.box 34 [zi,(.b (.sl false .lk))],.box 108 [zi,zi,(.b (.sl true .en))],.box 108 [zi,zi,(.own 3)],.row 153 .en]⟩,[.int,.int,.int,.ls .lk,.int,.int,.ls .en,.int,.int,.ls .en]⟩,0,⟨[6,7],⟨[.c (.one (.ptr 0 0)),.c (.one (.ptr 1 0))],[.box 108 [zi,zi,(.b (.sl true .en))],.box 108 [zi,zi,(.own 2)],.row 153 .en]⟩,[.int,.int,.ls .en,.int,.int,.ls .en]⟩,zx,lp JF Fa⟩
def RA:Pa:=⟨⟨[.c (.agg [zi,(.b (.sl false .lk))]),zc,zc],[]⟩,[.int,.ls .lk,.int,.int],⟨[.c (.agg [zi,zi,(.own 0)])],[.row 153 .en]⟩,[.int,.int,.ls .en],Gt⟩
def SA:La:=Ta tab [(130,[],FA)] 40 0 [(7,11,[(0,true),(1,true),(2,true),(3,true),(4,true),(5,true),(6,true),(7,true),(8,true),(9,true),(10,false)],[])] [(3,Qq)]
theorem T6:Na Tryz.prog SA.Γ:=Sa (l:=[(130,[],FA)]) ⟨⟨J6,Tryz.call130⟩,trivial⟩
theorem sF:Kb Tryz.prog 0 40 (Gb (Tryz.f103.body.getD .skip) 0) Qq:=Qb (G:=SA) (F:=Qq.F) (eid:=Qq.eid) (FX:=Qq.FX) (FR:=Qq.FR) (B:=JF) (n:=Fa) Ga Ja T6 mixed (Ia (G:=SA) (n:=0) (by kernel_rfl) (by kernel_rfl) trivial (by kernel_rfl)) (fun s=>by kernel_rfl)
theorem U6:GC Tryz.prog 103 RA:=Ua (G:=SA) (c:=Tryz.f103.body.getD .skip) Ga Ja T6 mixed Tryz.func103 (by kernel_rfl) Tryz.ntmps103 (Ia (G:=SA) (n:=1) (by kernel_rfl) (by kernel_rfl) ⟨trivial,Rb (id:=3) (L0:=Qq) (by kernel_rfl) (by kernel_rfl) sF⟩ (by kernel_rfl)) (fun s=>by kernel_rfl)
def TA:Pa:=⟨⟨[.c (.agg [zi,zi,(.b (.sl false .en))]),zc],[]⟩,[.int,.int,.ls .en,.int],⟨[zc],[]⟩,[.int],Vw⟩
def SR:La:=Ta tab [(135,[],OR)] 9 0 [] []
theorem sG:Na Tryz.prog SR.Γ:=Sa (l:=[(135,[],OR)]) ⟨⟨sC,Tryz.call135⟩,trivial⟩
theorem V6:GC Tryz.prog 134 TA:=Ua (G:=SR) (c:=Tryz.f134.body.getD .skip) Ga Ja sG mixed Tryz.func134 (by kernel_rfl) Tryz.ntmps134 (Ia (G:=SR) (n:=0) (by kernel_rfl) (by kernel_rfl) trivial (by kernel_rfl)) (fun s=>by kernel_rfl)
def Rq:Cb:=⟨⟨[0,1,2,8,9,10],⟨[.c (.one (.b (.sl false .ls))),zc,.c (.fn 134 []),zc,zc,zc],[]⟩,[.ls .ls,.int,.int,.int,.int]⟩,0,⟨[0,1,2,8,9],⟨[.c (.one (.b (.sl false .ls))),zc,.c (.fn 134 []),zc,zc],[]⟩,[.ls .ls,.int,.int,.int]⟩,zx,lp KF Fa⟩
def TR:Pa:=⟨⟨[.c (.one (.b (.sl false .ls))),zc,.c (.fn 134 [])],[]⟩,[.ls .ls,.int],⟨[.tup [(.one zi),(.one (.b .bool))]],[]⟩,[.int,.bool],JN⟩
def UA:La:=Ta tab [(134,[],TA)] 49 0 [] [(3,Rq)]
theorem W6:Na Tryz.prog UA.Γ:=Sa (l:=[(134,[],TA)]) ⟨⟨V6,Tryz.call134⟩,trivial⟩
theorem sH:Kb Tryz.prog 0 49 (Gb (Tryz.f133.body.getD .skip) 0) Rq:=Qb (G:=UA) (F:=Rq.F) (eid:=Rq.eid) (FX:=Rq.FX) (FR:=Rq.FR) (B:=KF) (n:=Fa) Ga Ja W6 mixed (Ia (G:=UA) (n:=0) (by kernel_rfl) (by kernel_rfl) trivial (by kernel_rfl)) (fun s=>by kernel_rfl)
theorem sI:GC Tryz.prog 133 TR:=Ua (G:=UA) (c:=Tryz.f133.body.getD .skip) Ga Ja W6 mixed Tryz.func133 (by kernel_rfl) Tryz.ntmps133 (Ia (G:=UA) (n:=1) (by kernel_rfl) (by kernel_rfl) ⟨trivial,Rb (id:=3) (L0:=Rq) (by kernel_rfl) (by kernel_rfl) sH⟩ (by kernel_rfl)) (fun s=>by kernel_rfl)
def VR:Pa:=⟨⟨[.c (.one (.b (.sl false .ls))),zc],[]⟩,[.ls .ls,.int],⟨[.tup [(.one zi),(.one (.b .bool))]],[]⟩,[.int,.bool],Ww⟩
def WR:La:=Ta tab [(134,[],TA),(133,[134],TR)] 11 0 [] []
theorem sJ:Na Tryz.prog WR.Γ:=Sa (l:=[(134,[],TA),(133,[134],TR)]) ⟨⟨V6,Tryz.call134⟩,⟨⟨sI,Tryz.call133⟩,trivial⟩⟩
theorem sK:GC Tryz.prog 87 VR:=Ua (G:=WR) (c:=Tryz.f87.body.getD .skip) Ga Ja sJ mixed Tryz.func87 (by kernel_rfl) Tryz.ntmps87 (Ia (G:=WR) (n:=0) (by kernel_rfl) (by kernel_rfl) trivial (by kernel_rfl)) (fun s=>by kernel_rfl)
def Sq:Cb:=⟨⟨[1,3,6,7,15,16,17],⟨[zc,.c (.one (.ptr 0 0)),.c (.one (.ptr 1 0)),.c (.one (.ptr 2 0)),.c (.one (.own 3)),zc,zc],[.box 34 [zi,(.b (.sl false .lk))],.box 108 [zi,zi,(.own 4)],.box 108 [zi,zi,(.own 5)],.row 3 .int,.row 153 .en,.row 153 .en]⟩,[.int,.int,.int,.int,.ls .lk,.int,.int,.int,.int,.ls .int,.ls .en,.ls .en]⟩,0,⟨[6,7],⟨[.c (.one (.ptr 0 0)),.c (.one (.ptr 1 0))],[.box 108 [zi,zi,(.own 2)],.box 108 [zi,zi,(.own 3)],.row 153 .en,.row 153 .en]⟩,[.int,.int,.int,.int,.ls .en,.ls .en]⟩,zx,lp Xw Fa⟩
def VA:Pa:=⟨⟨[.c (.agg [zi,(.b (.sl false .lk))]),zc,zc],[]⟩,[.int,.ls .lk,.int,.int],⟨[.c (.agg [zi,zi,(.own 0)])],[.row 153 .en]⟩,[.int,.int,.ls .en],Ht⟩
def WA:La:=Ta tab [(144,[],LA),(136,[],JR)] 39 0 [(5,14,[(0,true),(1,true),(2,true),(3,true),(4,true),(5,true),(6,true),(7,true),(8,false),(9,true),(10,true),(11,false),(12,true),(13,false)],[])] [(3,Sq)]
theorem X6:Na Tryz.prog WA.Γ:=Sa (l:=[(144,[],LA),(136,[],JR)]) ⟨⟨O6,Tryz.call144⟩,⟨⟨rY,Tryz.call136⟩,trivial⟩⟩
theorem sL:Kb Tryz.prog 0 39 (Gb (Tryz.f112.body.getD .skip) 0) Sq:=Qb (G:=WA) (F:=Sq.F) (eid:=Sq.eid) (FX:=Sq.FX) (FR:=Sq.FR) (B:=Xw) (n:=Fa) Ga Ja X6 mixed (Ia (G:=WA) (n:=0) (by kernel_rfl) (by kernel_rfl) trivial (by kernel_rfl)) (fun s=>by kernel_rfl)
theorem Z6:GC Tryz.prog 112 VA:=Ua (G:=WA) (c:=Tryz.f112.body.getD .skip) Ga Ja X6 mixed Tryz.func112 (by kernel_rfl) Tryz.ntmps112 (Ia (G:=WA) (n:=1) (by kernel_rfl) (by kernel_rfl) ⟨trivial,Rb (id:=3) (L0:=Sq) (by kernel_rfl) (by kernel_rfl) sL⟩ (by kernel_rfl)) (fun s=>by kernel_rfl)
end
section
open Go.RowKit
def XA:Pa:=⟨⟨[.c (.agg [zi,(.b (.sl false .lk))])],[]⟩,[.int,.ls .lk],⟨[.c (.agg [zi,(.own 0)])],[.row 114 .lk]⟩,[.int,.ls .lk],Ay⟩
def XR:La:=Ta tab [] 9 0 [] []
theorem sM:Na Tryz.prog XR.Γ:=Sa (l:=[]) trivial
theorem A7:GC Tryz.prog 102 XA:=Ua (G:=XR) (c:=Tryz.f102.body.getD .skip) Ga Ja sM mixed Tryz.func102 (by kernel_rfl) Tryz.ntmps102 (Ia (G:=XR) (n:=0) (by kernel_rfl) (by kernel_rfl) trivial (by kernel_rfl)) (fun s=>by kernel_rfl)
def Am:Pa:=⟨⟨[.c (.agg [zi,zi,(.b (.sl false .en))])],[]⟩,[.int,.int,.ls .en],⟨[.c (.agg [zi,zi,(.own 0)])],[.row 153 .en]⟩,[.int,.int,.ls .en],Xh⟩
def YR:La:=Ta tab [] 9 0 [] []
theorem sN:Na Tryz.prog YR.Γ:=Sa (l:=[]) trivial
theorem NH:GC Tryz.prog 107 Am:=Ua (G:=YR) (c:=Tryz.f107.body.getD .skip) Ga Ja sN mixed Tryz.func107 (by kernel_rfl) Tryz.ntmps107 (Ia (G:=YR) (n:=0) (by kernel_rfl) (by kernel_rfl) trivial (by kernel_rfl)) (fun s=>by kernel_rfl)
def Tq:Cb:=⟨⟨[1,2,3,4],⟨[.c (.one (.ptr 0 0)),.c (.one (.ptr 1 0)),.c (.one (.ptr 2 0)),zc],[.box 39 [zi,(.b (.sl false .lk)),(.b (.sl false .bool)),(.b (.sl false .int)),(.b (.sl false .db)),(.b (.sl false .pk))],.box 34 [zi,(.b (.sl true .lk))],.box 34 [zi,(.own 3)],.row 114 .lk]⟩,[.int,.int,.ls .lk,.ls .bool,.ls .int,.ls .db,.ls .pk,.int,.ls .lk,.int,.ls .lk]⟩,0,⟨[2,3],⟨[.c (.one (.ptr 0 0)),.c (.one (.ptr 1 0))],[.box 34 [zi,(.b (.sl true .lk))],.box 34 [zi,(.own 2)],.row 114 .lk]⟩,[.int,.ls .lk,.int,.ls .lk]⟩,zx,lp NG Fa⟩
def YA:Pa:=⟨⟨[.c (.agg [zi,(.b (.sl false .lk)),(.b (.sl false .bool)),(.b (.sl false .int)),(.b (.sl false .db)),(.b (.sl false .pk))])],[]⟩,[.int,.ls .lk,.ls .bool,.ls .int,.ls .db,.ls .pk],⟨[.c (.agg [zi,(.own 0)])],[.row 114 .lk]⟩,[.int,.ls .lk],By⟩
def ZA:La:=Ta tab [] 34 0 [(6,9,[(0,true),(1,true),(2,true),(3,true),(4,true),(5,true),(6,true),(7,true),(8,false)],[])] [(3,Tq)]
theorem B7:Na Tryz.prog ZA.Γ:=Sa (l:=[]) trivial
theorem sO:Kb Tryz.prog 0 34 (Gb (Tryz.f38.body.getD .skip) 0) Tq:=Qb (G:=ZA) (F:=Tq.F) (eid:=Tq.eid) (FX:=Tq.FX) (FR:=Tq.FR) (B:=NG) (n:=Fa) Ga Ja B7 mixed (Ia (G:=ZA) (n:=0) (by kernel_rfl) (by kernel_rfl) trivial (by kernel_rfl)) (fun s=>by kernel_rfl)
theorem C7:GC Tryz.prog 38 YA:=Ua (G:=ZA) (c:=Tryz.f38.body.getD .skip) Ga Ja B7 mixed Tryz.func38 (by kernel_rfl) Tryz.ntmps38 (Ia (G:=ZA) (n:=1) (by kernel_rfl) (by kernel_rfl) ⟨trivial,Rb (id:=3) (L0:=Tq) (by kernel_rfl) (by kernel_rfl) sO⟩ (by kernel_rfl)) (fun s=>by kernel_rfl)
def Uq:Cb:=⟨⟨[0,3,4],⟨[.c (.one (.b (.sl false .ls))),.c (.one (.own 0)),zc],[.row 108 .ls]⟩,[.ls .ls,.int,.ls .ls]⟩,0,⟨[3],⟨[.c (.one (.own 0))],[.row 108 .ls]⟩,[.ls .ls]⟩,zx,lp Cy Fa⟩
def Ij:Pa:=⟨⟨[.c (.one (.b (.sl false .ls)))],[]⟩,[.ls .ls],⟨[.c (.one (.own 0))],[.row 108 .ls]⟩,[.ls .ls],Ck⟩
def BB:La:=Ta tab [(107,[],Am)] 21 0 [] [(3,Uq)]
theorem D7:Na Tryz.prog BB.Γ:=Sa (l:=[(107,[],Am)]) ⟨⟨NH,Tryz.call107⟩,trivial⟩
theorem sP:Kb Tryz.prog 0 21 (Gb (Tryz.f104.body.getD .skip) 0) Uq:=Qb (G:=BB) (F:=Uq.F) (eid:=Uq.eid) (FX:=Uq.FX) (FR:=Uq.FR) (B:=Cy) (n:=Fa) Ga Ja D7 mixed (Ia (G:=BB) (n:=0) (by kernel_rfl) (by kernel_rfl) trivial (by kernel_rfl)) (fun s=>by kernel_rfl)
theorem CB:GC Tryz.prog 104 Ij:=Ua (G:=BB) (c:=Tryz.f104.body.getD .skip) Ga Ja D7 mixed Tryz.func104 (by kernel_rfl) Tryz.ntmps104 (Ia (G:=BB) (n:=1) (by kernel_rfl) (by kernel_rfl) ⟨trivial,Rb (id:=3) (L0:=Uq) (by kernel_rfl) (by kernel_rfl) sP⟩ (by kernel_rfl)) (fun s=>by kernel_rfl)
def Bm:Pa:=⟨⟨[.c (.agg [zi,zi,(.b (.sl false .en))])],[]⟩,[.int,.int,.ls .en],⟨[.c (.agg [zi,zi,(.own 0)])],[.row 153 .en]⟩,[.int,.int,.ls .en],Lh⟩
def ZR:La:=Ta Dj [(146,[],YM)] 8 0 [] []
theorem sQ:Na Tryz.prog ZR.Γ:=Sa (l:=[(146,[],YM)]) ⟨⟨jV,Tryz.call146⟩,trivial⟩
theorem OH:GC Tryz.prog 117 Bm:=Ua (G:=ZR) (c:=Tryz.f117.body.getD .skip) Ga De sQ mixed Tryz.func117 (by kernel_rfl) Tryz.ntmps117 (Ia (G:=ZR) (n:=0) (by kernel_rfl) (by kernel_rfl) trivial (by kernel_rfl)) (fun s=>by kernel_rfl)
def Vq:Cb:=⟨⟨[3,7,8,9],⟨[.c (.one (.own 0)),.c (.one (.b (.sl false .ls))),zc,zc],[.row 108 .uls]⟩,[.ls .ls,.int,.int,.ls .uls]⟩,0,⟨[3],⟨[.c (.one (.own 0))],[.row 108 .uls]⟩,[.ls .uls]⟩,zx,lp Dy Fa⟩
def Wq:Pa:=⟨⟨[.c (.one (.b (.sl false .ls)))],[]⟩,[.ls .ls],⟨[.c (.one (.own 0))],[.row 108 .uls]⟩,[.ls .uls],Lt⟩
def DB:La:=Ta Dj [(117,[],Bm)] 20 0 [] [(3,Vq)]
theorem E7:Na Tryz.prog DB.Γ:=Sa (l:=[(117,[],Bm)]) ⟨⟨OH,Tryz.call117⟩,trivial⟩
theorem sR:Kb Tryz.prog 0 20 (Gb (Tryz.f119.body.getD .skip) 0) Vq:=Qb (G:=DB) (F:=Vq.F) (eid:=Vq.eid) (FX:=Vq.FX) (FR:=Vq.FR) (B:=Dy) (n:=Fa) Ga De E7 mixed (Ia (G:=DB) (n:=0) (by kernel_rfl) (by kernel_rfl) trivial (by kernel_rfl)) (fun s=>by kernel_rfl)
theorem BS:GC Tryz.prog 119 Wq:=Ua (G:=DB) (c:=Tryz.f119.body.getD .skip) Ga De E7 mixed Tryz.func119 (by kernel_rfl) Tryz.ntmps119 (Ia (G:=DB) (n:=1) (by kernel_rfl) (by kernel_rfl) ⟨trivial,Rb (id:=3) (L0:=Vq) (by kernel_rfl) (by kernel_rfl) sR⟩ (by kernel_rfl)) (fun s=>by kernel_rfl)
def EB:Pa:=⟨⟨[zc,.c (.agg [zi,zi,zi])],[]⟩,[.int,.int,.int,.int],⟨[.c (.one (.b .bool))],[]⟩,[.bool],LO⟩
def CS:La:=Ta tab [] 5 0 [] []
theorem sS:Na Tryz.prog CS.Γ:=Sa (l:=[]) trivial
theorem F7:GC Tryz.prog 109 EB:=Ua (G:=CS) (c:=Tryz.f109.body.getD .skip) Ga Ja sS mixed Tryz.func109 (by kernel_rfl) Tryz.ntmps109 (Ia (G:=CS) (n:=0) (by kernel_rfl) (by kernel_rfl) trivial (by kernel_rfl)) (fun s=>by kernel_rfl)
def DS:Pa:=⟨⟨[zc,.c (.agg [zi,zi,zi])],[]⟩,[.int,.int,.int,.int],⟨[.c (.one (.b .bool))],[]⟩,[.bool],B4⟩
def ES:La:=Ta tab [] 5 0 [] []
theorem sV:Na Tryz.prog ES.Γ:=Sa (l:=[]) trivial
theorem sW:GC Tryz.prog 123 DS:=Ua (G:=ES) (c:=Tryz.f123.body.getD .skip) Ga Ja sV mixed Tryz.func123 (by kernel_rfl) Tryz.ntmps123 (Ia (G:=ES) (n:=0) (by kernel_rfl) (by kernel_rfl) trivial (by kernel_rfl)) (fun s=>by kernel_rfl)
def Tt:Cb:=⟨⟨[1,2],⟨[.c (.one (.ptr 0 0)),.c (.one (.ptr 1 0))],[.box 39 [zi,(.b (.sl false .lk)),(.b (.sl false .bool)),(.b (.sl false .int)),(.b (.sl false .db)),(.b (.sl false .pk))],.box 39 [zi,(.b (.sl true .lk)),(.b (.sl true .bool)),(.b (.sl true .int)),(.b (.sl true .db)),(.b (.sl true .pk))]]⟩,[.int,.ls .lk,.ls .bool,.ls .int,.ls .db,.ls .pk,.int,.ls .lk,.ls .bool,.ls .int,.ls .db,.ls .pk]⟩,0,⟨[1,2,3],⟨[.c (.one (.ptr 0 0)),.c (.one (.ptr 1 0)),.c (.one (.ptr 2 0))],[.box 39 [zi,(.b (.sl false .lk)),(.b (.sl false .bool)),(.b (.sl false .int)),(.b (.sl false .db)),(.b (.sl false .pk))],.box 39 [zi,(.b (.sl true .lk)),(.b (.sl true .bool)),(.b (.sl true .int)),(.b (.sl true .db)),(.b (.sl true .pk))],.box 39 [zi,(.own 3),(.own 4),(.own 5),(.own 6),(.own 7)],.row 114 .lk,.row 4 .bool,.row 3 .int,.row 86 .db,.row 112 .pk]⟩,[.int,.ls .lk,.ls .bool,.ls .int,.ls .db,.ls .pk,.int,.ls .lk,.ls .bool,.ls .int,.ls .db,.ls .pk,.int,.ls .lk,.ls .bool,.ls .int,.ls .db,.ls .pk]⟩,zx,Ey⟩
def Xq:Cb:=⟨⟨[1,2,3,4],⟨[.c (.one (.ptr 0 0)),.c (.one (.ptr 1 0)),.c (.one (.ptr 2 0)),zc],[.box 39 [zi,(.b (.sl false .lk)),(.b (.sl false .bool)),(.b (.sl false .int)),(.b (.sl false .db)),(.b (.sl false .pk))],.box 39 [zi,(.b (.sl true .lk)),(.b (.sl true .bool)),(.b (.sl true .int)),(.b (.sl true .db)),(.b (.sl true .pk))],.box 39 [zi,(.own 3),(.own 4),(.own 5),(.own 6),(.own 7)],.row 114 .lk,.row 4 .bool,.row 3 .int,.row 86 .db,.row 112 .pk]⟩,[.int,.int,.ls .lk,.ls .bool,.ls .int,.ls .db,.ls .pk,.int,.ls .lk,.ls .bool,.ls .int,.ls .db,.ls .pk,.int,.ls .lk,.ls .bool,.ls .int,.ls .db,.ls .pk]⟩,0,⟨[1,2,3],⟨[.c (.one (.ptr 0 0)),.c (.one (.ptr 1 0)),.c (.one (.ptr 2 0))],[.box 39 [zi,(.b (.sl false .lk)),(.b (.sl false .bool)),(.b (.sl false .int)),(.b (.sl false .db)),(.b (.sl false .pk))],.box 39 [zi,(.b (.sl true .lk)),(.b (.sl true .bool)),(.b (.sl true .int)),(.b (.sl true .db)),(.b (.sl true .pk))],.box 39 [zi,(.own 3),(.own 4),(.own 5),(.own 6),(.own 7)],.row 114 .lk,.row 4 .bool,.row 3 .int,.row 86 .db,.row 112 .pk]⟩,[.int,.ls .lk,.ls .bool,.ls .int,.ls .db,.ls .pk,.int,.ls .lk,.ls .bool,.ls .int,.ls .db,.ls .pk,.int,.ls .lk,.ls .bool,.ls .int,.ls .db,.ls .pk]⟩,zx,lp Fy Fa⟩
def Yq:Cb:=⟨⟨[1,2,3,5],⟨[.c (.one (.ptr 0 0)),.c (.one (.ptr 1 0)),.c (.one (.ptr 2 0)),zc],[.box 39 [zi,(.b (.sl false .lk)),(.b (.sl false .bool)),(.b (.sl false .int)),(.b (.sl false .db)),(.b (.sl false .pk))],.box 39 [zi,(.b (.sl true .lk)),(.b (.sl true .bool)),(.b (.sl true .int)),(.b (.sl true .db)),(.b (.sl true .pk))],.box 39 [zi,(.own 3),(.own 4),(.own 5),(.own 6),(.own 7)],.row 114 .lk,.row 4 .bool,.row 3 .int,.row 86 .db,.row 112 .pk]⟩,[.int,.int,.ls .lk,.ls .bool,.ls .int,.ls .db,.ls .pk,.int,.ls .lk,.ls .bool,.ls .int,.ls .db,.ls .pk,.int,.ls .lk,.ls .bool,.ls .int,.ls .db,.ls .pk]⟩,2,⟨[2,3],⟨[.c (.one (.ptr 0 0)),.c (.one (.ptr 1 0))],[.box 39 [zi,(.b (.sl true .lk)),(.b (.sl true .bool)),(.b (.sl true .int)),(.b (.sl true .db)),(.b (.sl true .pk))],.box 39 [zi,(.own 2),(.own 3),(.own 4),(.own 5),(.own 6)],.row 114 .lk,.row 4 .bool,.row 3 .int,.row 86 .db,.row 112 .pk]⟩,[.int,.ls .lk,.ls .bool,.ls .int,.ls .db,.ls .pk,.int,.ls .lk,.ls .bool,.ls .int,.ls .db,.ls .pk]⟩,zx,lp Gy Fa⟩
def Cm:Pa:=⟨⟨[.c (.agg [zi,(.b (.sl false .lk)),(.b (.sl false .bool)),(.b (.sl false .int)),(.b (.sl false .db)),(.b (.sl false .pk))])],[]⟩,[.int,.ls .lk,.ls .bool,.ls .int,.ls .db,.ls .pk],⟨[.c (.agg [zi,(.own 0),(.own 1),(.own 2),(.own 3),(.own 4)])],[.row 114 .lk,.row 4 .bool,.row 3 .int,.row 86 .db,.row 112 .pk]⟩,[.int,.ls .lk,.ls .bool,.ls .int,.ls .db,.ls .pk],Bp⟩
def Jk:La:=Ta tab [(102,[],XA),(107,[],Am),(104,[],Ij)] 65 0 [(5,9,[(0,true),(1,true),(2,true),(3,true),(4,true),(5,true),(6,true),(7,false),(8,false)],[]),(9,17,[(0,true),(1,true),(2,true),(3,true),(4,true),(5,true),(6,true),(7,true),(8,true),(9,true),(10,true),(11,true),(12,true),(13,true),(14,false),(15,true),(16,false)],[])] [(1,Tt),(3,Xq),(7,Yq)]
theorem PH:Na Tryz.prog Jk.Γ:=Sa (l:=[(102,[],XA),(107,[],Am),(104,[],Ij)]) ⟨⟨A7,Tryz.call102⟩,⟨⟨NH,Tryz.call107⟩,⟨⟨CB,Tryz.call104⟩,trivial⟩⟩⟩
theorem sX:Ze Tryz.prog 0 65 (Ld Jk.plan (Tryz.f63.body.getD .skip) 0).1 (Ld Jk.plan (Tryz.f63.body.getD .skip) 0).2 Tt:=bW (G:=Jk) (D:=[(3,9),(7,13),(11,17),(12,18)]) (ks:=[]) (t:=(.val 0 (.val 1 (.val 4 (.val 5 (.val 8 (.val 9 (.alt 2 (.alt 6 (.alt 10 (.alt 13 (.one 14 (.one 15 .done)) (.one 14 (.one 13 (.one 15 .done)))) (.one 14 (.one 10 (.one 13 (.one 15 .done))))) (.one 14 (.one 6 (.one 10 (.one 13 (.one 15 .done)))))) (.one 14 (.one 2 (.one 6 (.one 10 (.one 13 (.one 15 .done)))))))))))))) (F:=Tt.F) (eid:=0) (FX:=Tt.FX) (FR:=Tt.FR) (sh:=Ey) Ga Ja PH mixed (by kernel_rfl) (by kernel_rfl) ⟨fun s=>by kernel_rfl,fun s=>by kernel_rfl,fun s=>by kernel_rfl,fun s=>by kernel_rfl,fun s=>by kernel_rfl,trivial⟩
theorem sY:Kb Tryz.prog 0 65 (Gb (Tryz.f63.body.getD .skip) 0) Xq:=Qb (G:=Jk) (F:=Xq.F) (eid:=Xq.eid) (FX:=Xq.FX) (FR:=Xq.FR) (B:=Fy) (n:=Fa) Ga Ja PH mixed (Ia (G:=Jk) (n:=0) (by kernel_rfl) (by kernel_rfl) trivial (by kernel_rfl)) (fun s=>by kernel_rfl)
theorem sZ:Kb Tryz.prog 0 65 (Gb (Tryz.f63.body.getD .skip) 1) Yq:=Qb (G:=Jk) (F:=Yq.F) (eid:=Yq.eid) (FX:=Yq.FX) (FR:=Yq.FR) (B:=Gy) (n:=Fa) Ga Ja PH mixed (Ia (G:=Jk) (n:=0) (by kernel_rfl) (by kernel_rfl) trivial (by kernel_rfl)) (fun s=>by kernel_rfl)
theorem QH:GC Tryz.prog 63 Cm:=Ua (G:=Jk) (c:=Tryz.f63.body.getD .skip) Ga Ja PH mixed Tryz.func63 (by kernel_rfl) Tryz.ntmps63 (Hl (G:=Jk) (n:=2) (m:=1) (by kernel_rfl) (by kernel_rfl) ⟨⟨trivial,Rb (id:=3) (L0:=Xq) (by kernel_rfl) (by kernel_rfl) sY⟩,Rb (id:=7) (L0:=Yq) (by kernel_rfl) (by kernel_rfl) sZ⟩ (by kernel_rfl) ⟨trivial,Ei (L0:=Tt) (by kernel_rfl) sX⟩) (fun s=>by kernel_rfl)
def Zq:Cb:=⟨⟨[1,4,5,12,13,14],⟨[.c (.fn 109 []),.c (.one (.ptr 0 0)),.c (.one (.ptr 1 0)),.c (.one (.b (.sl false .lk))),zc,zc],[.box 34 [zi,(.own 2)],.box 34 [zi,(.own 3)],.row 114 .lk,.row 114 .lk]⟩,[.ls .lk,.int,.int,.int,.int,.ls .lk,.ls .lk]⟩,0,⟨[4,5],⟨[.c (.one (.ptr 0 0)),.c (.one (.ptr 1 0))],[.box 34 [zi,(.own 2)],.box 34 [zi,(.own 3)],.row 114 .lk,.row 114 .lk]⟩,[.int,.int,.ls .lk,.ls .lk]⟩,zx,lp OG Fa⟩
def FB:Pa:=⟨⟨[.c (.agg [zi,(.b (.sl false .lk))]),.c (.fn 109 [])],[]⟩,[.int,.ls .lk],⟨[.c (.agg [zi,(.own 0)])],[.row 114 .lk]⟩,[.int,.ls .lk],PG⟩
def GB:La:=Ta tab [(109,[],EB)] 31 0 [] [(3,Zq)]
theorem G7:Na Tryz.prog GB.Γ:=Sa (l:=[(109,[],EB)]) ⟨⟨F7,Tryz.call109⟩,trivial⟩
theorem tA:Kb Tryz.prog 0 31 (Gb (Tryz.f92.body.getD .skip) 0) Zq:=Qb (G:=GB) (F:=Zq.F) (eid:=Zq.eid) (FX:=Zq.FX) (FR:=Zq.FR) (B:=OG) (n:=Fa) Ga Ja G7 mixed (Ia (G:=GB) (n:=0) (by kernel_rfl) (by kernel_rfl) trivial (by kernel_rfl)) (fun s=>by kernel_rfl)
theorem I7:GC Tryz.prog 92 FB:=Ua (G:=GB) (c:=Tryz.f92.body.getD .skip) Ga Ja G7 mixed Tryz.func92 (by kernel_rfl) Tryz.ntmps92 (Ia (G:=GB) (n:=1) (by kernel_rfl) (by kernel_rfl) ⟨trivial,Rb (id:=3) (L0:=Zq) (by kernel_rfl) (by kernel_rfl) tA⟩ (by kernel_rfl)) (fun s=>by kernel_rfl)
def IB:Pa:=⟨⟨[zc,.c (.agg [zi,zi,zi]),.c (.one (.at_ [(.int .i64),(.sl false .lk),(.sl false .bool),(.sl false .int),(.sl false .db),(.sl false .pk)] 0))],[]⟩,[.int,.int,.int,.int,.int,.ls .lk,.ls .bool,.ls .int,.ls .db,.ls .pk],⟨[.c (.one (.b .bool))],[]⟩,[.bool],MO⟩
def zB:La:=Ta tab [] 11 0 [] []
theorem tB:Na Tryz.prog zB.Γ:=Sa (l:=[]) trivial
theorem J7:GC Tryz.prog 93 IB:=Ua (G:=zB) (c:=Tryz.f93.body.getD .skip) Ga Ja tB mixed Tryz.func93 (by kernel_rfl) Tryz.ntmps93 (Ia (G:=zB) (n:=0) (by kernel_rfl) (by kernel_rfl) trivial (by kernel_rfl)) (fun s=>by kernel_rfl)
def Ar:Cb:=⟨⟨[1,4,5,12,13,14],⟨[.c (.fn 123 []),.c (.one (.ptr 0 0)),.c (.one (.ptr 1 0)),.c (.one (.b (.sl false .lk))),zc,zc],[.box 34 [zi,(.own 2)],.box 34 [zi,(.own 3)],.row 114 .lk,.row 114 .lk]⟩,[.ls .lk,.int,.int,.int,.int,.ls .lk,.ls .lk]⟩,0,⟨[4,5],⟨[.c (.one (.ptr 0 0)),.c (.one (.ptr 1 0))],[.box 34 [zi,(.own 2)],.box 34 [zi,(.own 3)],.row 114 .lk,.row 114 .lk]⟩,[.int,.int,.ls .lk,.ls .lk]⟩,zx,lp NO Fa⟩
def JB:Pa:=⟨⟨[.c (.agg [zi,(.b (.sl false .lk))]),.c (.fn 123 [])],[]⟩,[.int,.ls .lk],⟨[.c (.agg [zi,(.own 0)])],[.row 114 .lk]⟩,[.int,.ls .lk],lV⟩
def KB:La:=Ta tab [(123,[],DS)] 31 0 [] [(3,Ar)]
theorem K7:Na Tryz.prog KB.Γ:=Sa (l:=[(123,[],DS)]) ⟨⟨sW,Tryz.call123⟩,trivial⟩
theorem tC:Kb Tryz.prog 0 31 (Gb (Tryz.f92.body.getD .skip) 0) Ar:=Qb (G:=KB) (F:=Ar.F) (eid:=Ar.eid) (FX:=Ar.FX) (FR:=Ar.FR) (B:=NO) (n:=Fa) Ga Ja K7 mixed (Ia (G:=KB) (n:=0) (by kernel_rfl) (by kernel_rfl) trivial (by kernel_rfl)) (fun s=>by kernel_rfl)
theorem L7:GC Tryz.prog 92 JB:=Ua (G:=KB) (c:=Tryz.f92.body.getD .skip) Ga Ja K7 mixed Tryz.func92 (by kernel_rfl) Tryz.ntmps92 (Ia (G:=KB) (n:=1) (by kernel_rfl) (by kernel_rfl) ⟨trivial,Rb (id:=3) (L0:=Ar) (by kernel_rfl) (by kernel_rfl) tC⟩ (by kernel_rfl)) (fun s=>by kernel_rfl)
def Br:Cb:=⟨⟨[1,4,5,12,13,14],⟨[.c (.fn 93 [(.at_ [(.int .i64),(.sl false .lk),(.sl false .bool),(.sl false .int),(.sl false .db),(.sl false .pk)] 0)]),.c (.one (.ptr 0 0)),.c (.one (.ptr 1 0)),.c (.one (.b (.sl false .lk))),zc,zc],[.box 34 [zi,(.own 2)],.box 34 [zi,(.own 3)],.row 114 .lk,.row 114 .lk]⟩,[.int,.ls .lk,.ls .bool,.ls .int,.ls .db,.ls .pk,.ls .lk,.int,.int,.int,.int,.ls .lk,.ls .lk]⟩,0,⟨[4,5],⟨[.c (.one (.ptr 0 0)),.c (.one (.ptr 1 0))],[.box 34 [zi,(.own 2)],.box 34 [zi,(.own 3)],.row 114 .lk,.row 114 .lk]⟩,[.int,.int,.ls .lk,.ls .lk]⟩,zx,lp QG Fa⟩
def GS:Pa:=⟨⟨[.c (.agg [zi,(.b (.sl false .lk))]),.c (.fn 93 [(.at_ [(.int .i64),(.sl false .lk),(.sl false .bool),(.sl false .int),(.sl false .db),(.sl false .pk)] 0)])],[]⟩,[.int,.ls .lk,.int,.ls .lk,.ls .bool,.ls .int,.ls .db,.ls .pk],⟨[.c (.agg [zi,(.own 0)])],[.row 114 .lk]⟩,[.int,.ls .lk],OO⟩
def LB:La:=Ta tab [(93,[],IB)] 31 0 [] [(3,Br)]
theorem M7:Na Tryz.prog LB.Γ:=Sa (l:=[(93,[],IB)]) ⟨⟨J7,Tryz.call93⟩,trivial⟩
theorem tD:Kb Tryz.prog 0 31 (Gb (Tryz.f92.body.getD .skip) 0) Br:=Qb (G:=LB) (F:=Br.F) (eid:=Br.eid) (FX:=Br.FX) (FR:=Br.FR) (B:=QG) (n:=Fa) Ga Ja M7 mixed (Ia (G:=LB) (n:=0) (by kernel_rfl) (by kernel_rfl) trivial (by kernel_rfl)) (fun s=>by kernel_rfl)
theorem tE:GC Tryz.prog 92 GS:=Ua (G:=LB) (c:=Tryz.f92.body.getD .skip) Ga Ja M7 mixed Tryz.func92 (by kernel_rfl) Tryz.ntmps92 (Ia (G:=LB) (n:=1) (by kernel_rfl) (by kernel_rfl) ⟨trivial,Rb (id:=3) (L0:=Br) (by kernel_rfl) (by kernel_rfl) tD⟩ (by kernel_rfl)) (fun s=>by kernel_rfl)
def MB:Pa:=⟨⟨[.c (.agg [zi,(.b (.sl false .lk)),(.b (.sl false .bool)),(.b (.sl false .int)),(.b (.sl false .db)),(.b (.sl false .pk))])],[]⟩,[.int,.ls .lk,.ls .bool,.ls .int,.ls .db,.ls .pk],⟨[.c (.agg [zi,(.own 0)])],[.row 114 .lk]⟩,[.int,.ls .lk],Hy⟩
def HS:La:=Ta tab [(92,[109],FB),(93,[],IB),(92,[123],JB),(92,[93],GS)] 7 0 [] []
theorem tF:Na Tryz.prog HS.Γ:=Sa (l:=[(92,[109],FB),(93,[],IB),(92,[123],JB),(92,[93],GS)]) ⟨⟨I7,Tryz.call92⟩,⟨⟨J7,Tryz.call93⟩,⟨⟨L7,Tryz.call92⟩,⟨⟨tE,Tryz.call92⟩,trivial⟩⟩⟩⟩
theorem N7:GC Tryz.prog 44 MB:=Ua (G:=HS) (c:=Tryz.f44.body.getD .skip) Ga Ja tF mixed Tryz.func44 (by kernel_rfl) Tryz.ntmps44 (Ia (G:=HS) (n:=0) (by kernel_rfl) (by kernel_rfl) trivial (by kernel_rfl)) (fun s=>by kernel_rfl)
def Ut:Cb:=⟨⟨[1,2],⟨[.c (.one (.ptr 0 0)),.c (.one (.ptr 1 0))],[.box 34 [zi,(.b (.sl false .lk))],.box 39 [zi,(.b (.sl true .lk)),(.b (.sl true .bool)),(.b (.sl true .int)),(.b (.sl true .db)),(.b (.sl true .pk))]]⟩,[.int,.ls .lk,.int,.ls .lk,.ls .bool,.ls .int,.ls .db,.ls .pk]⟩,0,⟨[1,2,4],⟨[.c (.one (.ptr 0 0)),.c (.one (.ptr 1 0)),.c (.one (.ptr 2 0))],[.box 34 [zi,(.b (.sl false .lk))],.box 39 [zi,(.b (.sl true .lk)),(.b (.sl true .bool)),(.b (.sl true .int)),(.b (.sl true .db)),(.b (.sl true .pk))],.box 39 [zi,(.own 3),(.own 4),(.own 5),(.own 6),(.own 7)],.row 114 .lk,.row 4 .bool,.row 3 .int,.row 86 .udb,.row 112 .upk]⟩,[.int,.ls .lk,.int,.ls .lk,.ls .bool,.ls .int,.ls .db,.ls .pk,.int,.ls .lk,.ls .bool,.ls .int,.ls .udb,.ls .upk]⟩,zx,Iy⟩
def Cr:Cb:=⟨⟨[1,2,4,5,24,25,29,30],⟨[.c (.one (.ptr 0 0)),.c (.one (.ptr 1 0)),.c (.one (.ptr 2 0)),.c (.one (.own 3)),zc,zc,zc,zc],[.box 34 [zi,(.b (.sl false .lk))],.box 39 [zi,(.b (.sl true .lk)),(.b (.sl true .bool)),(.b (.sl true .int)),(.b (.sl true .db)),(.b (.sl true .pk))],.box 39 [zi,(.own 4),(.own 5),(.own 6),(.own 7),(.own 8)],.row 108 .uls,.row 114 .lk,.row 4 .bool,.row 3 .int,.row 86 .udb,.row 112 .upk]⟩,[.int,.int,.int,.int,.int,.ls .lk,.int,.ls .lk,.ls .bool,.ls .int,.ls .db,.ls .pk,.int,.ls .uls,.ls .lk,.ls .bool,.ls .int,.ls .udb,.ls .upk]⟩,2,⟨[1,2,4,5,24,25],⟨[.c (.one (.ptr 0 0)),.c (.one (.ptr 1 0)),.c (.one (.ptr 2 0)),.c (.one (.own 3)),zc,zc],[.box 34 [zi,(.b (.sl false .lk))],.box 39 [zi,(.b (.sl true .lk)),(.b (.sl true .bool)),(.b (.sl true .int)),(.b (.sl true .db)),(.b (.sl true .pk))],.box 39 [zi,(.own 4),(.own 5),(.own 6),(.own 7),(.own 8)],.row 108 .uls,.row 114 .lk,.row 4 .bool,.row 3 .int,.row 86 .udb,.row 112 .upk]⟩,[.int,.int,.int,.ls .lk,.int,.ls .lk,.ls .bool,.ls .int,.ls .db,.ls .pk,.int,.ls .uls,.ls .lk,.ls .bool,.ls .int,.ls .udb,.ls .upk]⟩,zx,lp Jy Fa⟩
def Dr:Cb:=⟨⟨[1,2,4,24,25],⟨[.c (.one (.ptr 0 0)),.c (.one (.ptr 1 0)),.c (.one (.ptr 2 0)),zc,zc],[.box 34 [zi,(.b (.sl false .lk))],.box 39 [zi,(.b (.sl true .lk)),(.b (.sl true .bool)),(.b (.sl true .int)),(.b (.sl true .db)),(.b (.sl true .pk))],.box 39 [zi,(.own 3),(.own 4),(.own 5),(.own 6),(.own 7)],.row 114 .lk,.row 4 .bool,.row 3 .int,.row 86 .udb,.row 112 .upk]⟩,[.int,.int,.int,.ls .lk,.int,.ls .lk,.ls .bool,.ls .int,.ls .db,.ls .pk,.int,.ls .lk,.ls .bool,.ls .int,.ls .udb,.ls .upk]⟩,0,⟨[2,4],⟨[.c (.one (.ptr 0 0)),.c (.one (.ptr 1 0))],[.box 39 [zi,(.b (.sl true .lk)),(.b (.sl true .bool)),(.b (.sl true .int)),(.b (.sl true .db)),(.b (.sl true .pk))],.box 39 [zi,(.own 2),(.own 3),(.own 4),(.own 5),(.own 6)],.row 114 .lk,.row 4 .bool,.row 3 .int,.row 86 .udb,.row 112 .upk]⟩,[.int,.ls .lk,.ls .bool,.ls .int,.ls .db,.ls .pk,.int,.ls .lk,.ls .bool,.ls .int,.ls .udb,.ls .upk]⟩,zx,lp Ky Fa⟩
def IS:Pa:=⟨⟨[.c (.agg [zi,(.b (.sl false .lk))])],[]⟩,[.int,.ls .lk],⟨[.tup [(.agg [zi,(.own 0),(.own 1),(.own 2),(.own 3),(.own 4)]),(.one (.b .bool))]],[.row 114 .lk,.row 4 .bool,.row 3 .int,.row 86 .udb,.row 112 .upk]⟩,[.int,.bool,.ls .lk,.ls .bool,.ls .int,.ls .udb,.ls .upk],SG⟩
def Kk:La:=Ta Dj [(111,[],TM),(110,[],BN),(85,[],ER),(109,[],EB),(92,[109],FB),(92,[123],JB),(112,[],VA)] 48 0 [] [(3,Ut),(8,Cr),(5,Dr)]
theorem RH:Na Tryz.prog Kk.Γ:=Sa (l:=[(111,[],TM),(110,[],BN),(85,[],ER),(109,[],EB),(92,[109],FB),(92,[123],JB),(112,[],VA)]) ⟨⟨jG,Tryz.call111⟩,⟨⟨jY,Tryz.call110⟩,⟨⟨rQ,Tryz.call85⟩,⟨⟨F7,Tryz.call109⟩,⟨⟨I7,Tryz.call92⟩,⟨⟨L7,Tryz.call92⟩,⟨⟨Z6,Tryz.call112⟩,trivial⟩⟩⟩⟩⟩⟩⟩
theorem tG:Ze Tryz.prog 0 48 (Ld Kk.plan (Tryz.f65.body.getD .skip) 0).1 (Ld Kk.plan (Tryz.f65.body.getD .skip) 0).2 Ut:=PD (G:=Kk) (n:=13) (ks:=[]) (t:=(.val 0 (.val 3 (.val 4 (.val 5 (.val 8 (.val 9 (.alt 1 (.alt 2 (.alt 6 (.two 7 (.two 10 (.val 11 (.one 12 .done)) 12 (.one 10 (.val 11 .done))) 12 (.one 7 (.one 10 (.val 11 .done)))) (.alt 7 (.two 6 (.two 10 (.val 11 (.one 12 .done)) 12 (.one 10 (.val 11 .done))) 12 (.one 6 (.one 10 (.val 11 .done)))) (.one 12 (.two 6 (.one 7 (.one 10 (.val 11 .done))) 7 (.one 6 (.one 10 (.val 11 .done))))))) (.alt 7 (.two 2 (.two 6 (.two 10 (.val 11 (.one 12 .done)) 12 (.one 10 (.val 11 .done))) 12 (.one 6 (.one 10 (.val 11 .done)))) 12 (.one 2 (.one 6 (.one 10 (.val 11 .done))))) (.one 12 (.two 2 (.two 6 (.one 7 (.one 10 (.val 11 .done))) 7 (.one 6 (.one 10 (.val 11 .done)))) 7 (.one 2 (.one 6 (.one 10 (.val 11 .done)))))))) (.alt 2 (.alt 1 (.alt 6 (.two 7 (.two 10 (.val 11 (.one 12 .done)) 12 (.one 10 (.val 11 .done))) 12 (.one 7 (.one 10 (.val 11 .done)))) (.alt 7 (.two 6 (.two 10 (.val 11 (.one 12 .done)) 12 (.one 10 (.val 11 .done))) 12 (.one 6 (.one 10 (.val 11 .done)))) (.one 12 (.two 6 (.one 7 (.one 10 (.val 11 .done))) 7 (.one 6 (.one 10 (.val 11 .done))))))) (.alt 7 (.two 1 (.two 6 (.two 10 (.val 11 (.one 12 .done)) 12 (.one 10 (.val 11 .done))) 12 (.one 6 (.one 10 (.val 11 .done)))) 12 (.one 1 (.one 6 (.one 10 (.val 11 .done))))) (.one 12 (.two 1 (.two 6 (.one 7 (.one 10 (.val 11 .done))) 7 (.one 6 (.one 10 (.val 11 .done)))) 7 (.one 1 (.one 6 (.one 10 (.val 11 .done)))))))) (.alt 7 (.alt 1 (.two 2 (.two 6 (.two 10 (.val 11 (.one 12 .done)) 12 (.one 10 (.val 11 .done))) 12 (.one 6 (.one 10 (.val 11 .done)))) 12 (.one 2 (.one 6 (.one 10 (.val 11 .done))))) (.alt 2 (.two 1 (.two 6 (.two 10 (.val 11 (.one 12 .done)) 12 (.one 10 (.val 11 .done))) 12 (.one 6 (.one 10 (.val 11 .done)))) 12 (.one 1 (.one 6 (.one 10 (.val 11 .done))))) (.one 12 (.two 1 (.one 2 (.one 6 (.one 10 (.val 11 .done)))) 2 (.one 1 (.one 6 (.one 10 (.val 11 .done)))))))) (.one 12 (.alt 1 (.two 2 (.two 6 (.one 7 (.one 10 (.val 11 .done))) 7 (.one 6 (.one 10 (.val 11 .done)))) 7 (.one 2 (.one 6 (.one 10 (.val 11 .done))))) (.alt 2 (.two 1 (.two 6 (.one 7 (.one 10 (.val 11 .done))) 7 (.one 6 (.one 10 (.val 11 .done)))) 7 (.one 1 (.one 6 (.one 10 (.val 11 .done))))) (.one 7 (.two 1 (.one 2 (.one 6 (.one 10 (.val 11 .done)))) 2 (.one 1 (.one 6 (.one 10 (.val 11 .done))))))))))))))))))) (F:=Ut.F) (eid:=0) (FX:=Ut.FX) (FR:=Ut.FR) (sh:=Iy) Ga De RH mixed (by kernel_rfl) (by kernel_rfl) ⟨fun s=>by kernel_rfl,fun s=>by kernel_rfl,fun s=>by kernel_rfl,fun s=>by kernel_rfl,fun s=>by kernel_rfl,fun s=>by kernel_rfl,fun s=>by kernel_rfl,fun s=>by kernel_rfl,fun s=>by kernel_rfl,fun s=>by kernel_rfl,fun s=>by kernel_rfl,fun s=>by kernel_rfl,fun s=>by kernel_rfl,fun s=>by kernel_rfl,fun s=>by kernel_rfl,fun s=>by kernel_rfl,fun s=>by kernel_rfl,fun s=>by kernel_rfl,fun s=>by kernel_rfl,fun s=>by kernel_rfl,fun s=>by kernel_rfl,fun s=>by kernel_rfl,fun s=>by kernel_rfl,fun s=>by kernel_rfl,fun s=>by kernel_rfl,fun s=>by kernel_rfl,fun s=>by kernel_rfl,fun s=>by kernel_rfl,fun s=>by kernel_rfl,fun s=>by kernel_rfl,fun s=>by kernel_rfl,fun s=>by kernel_rfl,fun s=>by kernel_rfl,fun s=>by kernel_rfl,fun s=>by kernel_rfl,fun s=>by kernel_rfl,fun s=>by kernel_rfl,fun s=>by kernel_rfl,fun s=>by kernel_rfl,fun s=>by kernel_rfl,fun s=>by kernel_rfl,fun s=>by kernel_rfl,fun s=>by kernel_rfl,fun s=>by kernel_rfl,fun s=>by kernel_rfl,fun s=>by kernel_rfl,fun s=>by kernel_rfl,fun s=>by kernel_rfl,trivial⟩
theorem tH:Kb Tryz.prog 0 48 (Gb (Gb (Tryz.f65.body.getD .skip) 0) 0) Cr:=Qb (G:=Kk) (F:=Cr.F) (eid:=Cr.eid) (FX:=Cr.FX) (FR:=Cr.FR) (B:=Jy) (n:=Fa) Ga De RH mixed (Ia (G:=Kk) (n:=0) (by kernel_rfl) (by kernel_rfl) trivial (by kernel_rfl)) (fun s=>by kernel_rfl)
theorem tI:Kb Tryz.prog 0 48 (Gb (Tryz.f65.body.getD .skip) 0) Dr:=Qb (G:=Kk) (F:=Dr.F) (eid:=Dr.eid) (FX:=Dr.FX) (FR:=Dr.FR) (B:=Ky) (n:=Fa) Ga De RH mixed (Ia (G:=Kk) (n:=1) (by kernel_rfl) (by kernel_rfl) ⟨trivial,Rb (id:=8) (L0:=Cr) (by kernel_rfl) (by kernel_rfl) tH⟩ (by kernel_rfl)) (fun s=>by kernel_rfl)
theorem tJ:GC Tryz.prog 65 IS:=Ua (G:=Kk) (c:=Tryz.f65.body.getD .skip) Ga De RH mixed Tryz.func65 (by kernel_rfl) Tryz.ntmps65 (Hl (G:=Kk) (n:=1) (m:=1) (by kernel_rfl) (by kernel_rfl) ⟨trivial,Rb (id:=5) (L0:=Dr) (by kernel_rfl) (by kernel_rfl) tI⟩ (by kernel_rfl) ⟨trivial,Ei (L0:=Ut) (by kernel_rfl) tG⟩) (fun s=>by kernel_rfl)
def Er:Pa:=⟨⟨[.c (.one (.b (.sl false .ls))),.c (.agg [zi,zi,(.b (.sl false .en))])],[]⟩,[.ls .ls,.int,.int,.ls .en],⟨[.tup [(.one (.own 0)),(.one zi)]],[.row 108 .uls]⟩,[.int,.ls .uls],Pn⟩
def JS:La:=Ta Dj [(145,[],DN),(117,[],Bm),(119,[],Wq),(87,[],VR)] 58 0 [(4,9,tk 9,[]),(6,9,tk 9,[])] []
theorem tK:Na Tryz.prog JS.Γ:=Sa (l:=[(145,[],DN),(117,[],Bm),(119,[],Wq),(87,[],VR)]) ⟨⟨kA,Tryz.call145⟩,⟨⟨OH,Tryz.call117⟩,⟨⟨BS,Tryz.call119⟩,⟨⟨sK,Tryz.call87⟩,trivial⟩⟩⟩⟩
theorem KS:GC Tryz.prog 115 Er:=Ua (G:=JS) (c:=Tryz.f115.body.getD .skip) Ga De tK mixed Tryz.func115 (by kernel_rfl) Tryz.ntmps115 (Ia (G:=JS) (n:=0) (by kernel_rfl) (by kernel_rfl) trivial (by kernel_rfl)) (fun s=>by kernel_rfl)
def Fr:Cb:=⟨⟨[0,3,8,9],⟨[.c (.one (.b (.sl false .ls))),.c (.one (.ptr 0 0)),.c (.one (.own 1)),zc],[.box 108 [zi,zi,(.b (.sl false .en))],.row 108 .ls]⟩,[.ls .ls,.int,.int,.int,.ls .en,.ls .ls]⟩,0,⟨[0,3,8],⟨[.c (.one (.b (.sl false .ls))),.c (.one (.ptr 0 0)),.c (.one (.own 1))],[.box 108 [zi,zi,(.b (.sl false .en))],.row 108 .ls]⟩,[.ls .ls,.int,.int,.ls .en,.ls .ls]⟩,zx,lp Dk Fa⟩
def Ir:Cb:=⟨⟨[0,3,8,10],⟨[.c (.one (.b (.sl false .ls))),.c (.one (.ptr 0 0)),.c (.one (.own 1)),zc],[.box 108 [zi,zi,(.b (.sl false .en))],.row 108 .ls]⟩,[.ls .ls,.int,.int,.int,.ls .en,.ls .ls]⟩,2,⟨[8],⟨[.c (.one (.own 0))],[.row 108 .ls]⟩,[.ls .ls]⟩,zx,lp Ek Fa⟩
def Jr:Pa:=⟨⟨[.c (.one (.b (.sl false .ls))),.c (.agg [zi,zi,(.b (.sl false .en))])],[]⟩,[.ls .ls,.int,.int,.ls .en],⟨[.tup [(.one (.own 0)),(.one zi)]],[.row 108 .ls]⟩,[.int,.ls .ls],Mt⟩
def Kr:La:=Ta tab [(81,[],QR),(107,[],Am),(104,[],Ij)] 91 0 [(8,12,tk 12,[]),(15,7,tk 7,[])] [(8,Fr),(13,Ir)]
theorem MS:Na Tryz.prog Kr.Γ:=Sa (l:=[(81,[],QR),(107,[],Am),(104,[],Ij)]) ⟨⟨sE,Tryz.call81⟩,⟨⟨NH,Tryz.call107⟩,⟨⟨CB,Tryz.call104⟩,trivial⟩⟩⟩
theorem tL:Kb Tryz.prog 0 91 (Gb (Tryz.f147.body.getD .skip) 0) Fr:=Qb (G:=Kr) (F:=Fr.F) (eid:=Fr.eid) (FX:=Fr.FX) (FR:=Fr.FR) (B:=Dk) (n:=Fa) Ga Ja MS mixed (Ia (G:=Kr) (n:=0) (by kernel_rfl) (by kernel_rfl) trivial (by kernel_rfl)) (fun s=>by kernel_rfl)
theorem tM:Kb Tryz.prog 0 91 (Gb (Tryz.f147.body.getD .skip) 1) Ir:=Qb (G:=Kr) (F:=Ir.F) (eid:=Ir.eid) (FX:=Ir.FX) (FR:=Ir.FR) (B:=Ek) (n:=Fa) Ga Ja MS mixed (Ia (G:=Kr) (n:=0) (by kernel_rfl) (by kernel_rfl) trivial (by kernel_rfl)) (fun s=>by kernel_rfl)
theorem NS:GC Tryz.prog 147 Jr:=Ua (G:=Kr) (c:=Tryz.f147.body.getD .skip) Ga Ja MS mixed Tryz.func147 (by kernel_rfl) Tryz.ntmps147 (Ia (G:=Kr) (n:=2) (by kernel_rfl) (by kernel_rfl) ⟨⟨trivial,Rb (id:=8) (L0:=Fr) (by kernel_rfl) (by kernel_rfl) tL⟩,Rb (id:=13) (L0:=Ir) (by kernel_rfl) (by kernel_rfl) tM⟩ (by kernel_rfl)) (fun s=>by kernel_rfl)
def Lr:Cb:=⟨⟨[1,2,4,5,6],⟨[.c (.one (.ptr 0 0)),.c (.one (.ptr 1 0)),.c (.one (.own 2)),.c (.one (.ptr 3 0)),zc],[.box 34 [zi,(.b (.sl false .lk))],.box 39 [zi,(.b (.sl true .lk)),(.b (.sl true .bool)),(.b (.sl true .int)),(.b (.sl true .db)),(.b (.sl true .pk))],.row 108 .ls,.box 39 [zi,(.own 4),(.own 5),(.own 6),(.own 7),(.own 8)],.row 114 .lk,.row 4 .bool,.row 3 .int,.row 86 .db,.row 112 .pk]⟩,[.int,.int,.ls .lk,.int,.ls .lk,.ls .bool,.ls .int,.ls .db,.ls .pk,.ls .ls,.int,.ls .lk,.ls .bool,.ls .int,.ls .db,.ls .pk]⟩,0,⟨[1,2,4,5],⟨[.c (.one (.ptr 0 0)),.c (.one (.ptr 1 0)),.c (.one (.own 2)),.c (.one (.ptr 3 0))],[.box 34 [zi,(.b (.sl false .lk))],.box 39 [zi,(.b (.sl true .lk)),(.b (.sl true .bool)),(.b (.sl true .int)),(.b (.sl true .db)),(.b (.sl true .pk))],.row 108 .ls,.box 39 [zi,(.own 4),(.own 5),(.own 6),(.own 7),(.own 8)],.row 114 .lk,.row 4 .bool,.row 3 .int,.row 86 .db,.row 112 .pk]⟩,[.int,.ls .lk,.int,.ls .lk,.ls .bool,.ls .int,.ls .db,.ls .pk,.ls .ls,.int,.ls .lk,.ls .bool,.ls .int,.ls .db,.ls .pk]⟩,zx,lp Ly Fa⟩
def Mr:Cb:=⟨⟨[1,2,4,5,7],⟨[.c (.one (.ptr 0 0)),.c (.one (.ptr 1 0)),.c (.one (.own 2)),.c (.one (.ptr 3 0)),zc],[.box 34 [zi,(.b (.sl false .lk))],.box 39 [zi,(.b (.sl true .lk)),(.b (.sl true .bool)),(.b (.sl true .int)),(.b (.sl true .db)),(.b (.sl true .pk))],.row 108 .ls,.box 39 [zi,(.own 4),(.own 5),(.own 6),(.own 7),(.own 8)],.row 114 .lk,.row 4 .bool,.row 3 .int,.row 86 .db,.row 112 .pk]⟩,[.int,.int,.ls .lk,.int,.ls .lk,.ls .bool,.ls .int,.ls .db,.ls .pk,.ls .ls,.int,.ls .lk,.ls .bool,.ls .int,.ls .db,.ls .pk]⟩,2,⟨[1,2,5],⟨[.c (.one (.ptr 0 0)),.c (.one (.ptr 1 0)),.c (.one (.ptr 2 0))],[.box 34 [zi,(.b (.sl false .lk))],.box 39 [zi,(.b (.sl true .lk)),(.b (.sl true .bool)),(.b (.sl true .int)),(.b (.sl true .db)),(.b (.sl true .pk))],.box 39 [zi,(.own 3),(.own 4),(.own 5),(.own 6),(.own 7)],.row 114 .lk,.row 4 .bool,.row 3 .int,.row 86 .db,.row 112 .pk]⟩,[.int,.ls .lk,.int,.ls .lk,.ls .bool,.ls .int,.ls .db,.ls .pk,.int,.ls .lk,.ls .bool,.ls .int,.ls .db,.ls .pk]⟩,zx,lp My Fa⟩
def Nr:Cb:=⟨⟨[1,2,5,8],⟨[.c (.one (.ptr 0 0)),.c (.one (.ptr 1 0)),.c (.one (.ptr 2 0)),zc],[.box 34 [zi,(.b (.sl false .lk))],.box 39 [zi,(.b (.sl true .lk)),(.b (.sl true .bool)),(.b (.sl true .int)),(.b (.sl true .db)),(.b (.sl true .pk))],.box 39 [zi,(.own 3),(.own 4),(.own 5),(.own 6),(.own 7)],.row 114 .lk,.row 4 .bool,.row 3 .int,.row 86 .db,.row 112 .pk]⟩,[.int,.int,.ls .lk,.int,.ls .lk,.ls .bool,.ls .int,.ls .db,.ls .pk,.int,.ls .lk,.ls .bool,.ls .int,.ls .db,.ls .pk]⟩,4,⟨[2,5],⟨[.c (.one (.ptr 0 0)),.c (.one (.ptr 1 0))],[.box 39 [zi,(.b (.sl true .lk)),(.b (.sl true .bool)),(.b (.sl true .int)),(.b (.sl true .db)),(.b (.sl true .pk))],.box 39 [zi,(.own 2),(.own 3),(.own 4),(.own 5),(.own 6)],.row 114 .lk,.row 4 .bool,.row 3 .int,.row 86 .db,.row 112 .pk]⟩,[.int,.ls .lk,.ls .bool,.ls .int,.ls .db,.ls .pk,.int,.ls .lk,.ls .bool,.ls .int,.ls .db,.ls .pk]⟩,zx,lp Ny Fa⟩
def OS:Pa:=⟨⟨[.c (.agg [zi,(.b (.sl false .lk))])],[]⟩,[.int,.ls .lk],⟨[.tup [(.agg [zi,(.own 0),(.own 1),(.own 2),(.own 3),(.own 4)]),(.one (.b .bool))]],[.row 114 .lk,.row 4 .bool,.row 3 .int,.row 86 .db,.row 112 .pk]⟩,[.int,.bool,.ls .lk,.ls .bool,.ls .int,.ls .db,.ls .pk],TG⟩
def Dm:La:=Ta tab [(101,[],IA),(103,[],RA),(102,[],XA),(104,[],Ij)] 64 0 [(13,5,[(0,true),(1,true),(2,true),(3,false),(4,false)],[])] [(6,Lr),(11,Mr),(15,Nr)]
theorem SH:Na Tryz.prog Dm.Γ:=Sa (l:=[(101,[],IA),(103,[],RA),(102,[],XA),(104,[],Ij)]) ⟨⟨L6,Tryz.call101⟩,⟨⟨U6,Tryz.call103⟩,⟨⟨A7,Tryz.call102⟩,⟨⟨CB,Tryz.call104⟩,trivial⟩⟩⟩⟩
theorem tN:Kb Tryz.prog 0 64 (Gb (Tryz.f61.body.getD .skip) 0) Lr:=Qb (G:=Dm) (F:=Lr.F) (eid:=Lr.eid) (FX:=Lr.FX) (FR:=Lr.FR) (B:=Ly) (n:=Fa) Ga Ja SH mixed (Ia (G:=Dm) (n:=0) (by kernel_rfl) (by kernel_rfl) trivial (by kernel_rfl)) (fun s=>by kernel_rfl)
theorem tO:Kb Tryz.prog 0 64 (Gb (Tryz.f61.body.getD .skip) 1) Mr:=Qb (G:=Dm) (F:=Mr.F) (eid:=Mr.eid) (FX:=Mr.FX) (FR:=Mr.FR) (B:=My) (n:=Fa) Ga Ja SH mixed (Ia (G:=Dm) (n:=0) (by kernel_rfl) (by kernel_rfl) trivial (by kernel_rfl)) (fun s=>by kernel_rfl)
theorem tP:Kb Tryz.prog 0 64 (Gb (Tryz.f61.body.getD .skip) 2) Nr:=Qb (G:=Dm) (F:=Nr.F) (eid:=Nr.eid) (FX:=Nr.FX) (FR:=Nr.FR) (B:=Ny) (n:=Fa) Ga Ja SH mixed (Ia (G:=Dm) (n:=0) (by kernel_rfl) (by kernel_rfl) trivial (by kernel_rfl)) (fun s=>by kernel_rfl)
theorem tQ:GC Tryz.prog 61 OS:=Ua (G:=Dm) (c:=Tryz.f61.body.getD .skip) Ga Ja SH mixed Tryz.func61 (by kernel_rfl) Tryz.ntmps61 (Ia (G:=Dm) (n:=3) (by kernel_rfl) (by kernel_rfl) ⟨⟨⟨trivial,Rb (id:=6) (L0:=Lr) (by kernel_rfl) (by kernel_rfl) tN⟩,Rb (id:=11) (L0:=Mr) (by kernel_rfl) (by kernel_rfl) tO⟩,Rb (id:=15) (L0:=Nr) (by kernel_rfl) (by kernel_rfl) tP⟩ (by kernel_rfl)) (fun s=>by kernel_rfl)
def Pr:Cb:=⟨⟨[5,10,11,12],⟨[.c (.one (.own 0)),.c (.one (.b (.sl false .ls))),zc,zc],[.row 108 .uls]⟩,[.ls .ls,.int,.int,.ls .uls]⟩,0,⟨[5],⟨[.c (.one (.own 0))],[.row 108 .uls]⟩,[.ls .uls]⟩,zx,lp Oy Fa⟩
def PS:Pa:=⟨⟨[.c (.one (.b (.sl false .ls))),.c (.one (.b (.sl false .ls)))],[]⟩,[.ls .ls,.ls .ls],⟨[.c (.one (.own 0))],[.row 108 .uls]⟩,[.ls .uls],Vd⟩
def NB:La:=Ta Dj [(119,[],Wq),(115,[],Er)] 24 0 [] [(3,Pr)]
theorem O7:Na Tryz.prog NB.Γ:=Sa (l:=[(119,[],Wq),(115,[],Er)]) ⟨⟨BS,Tryz.call119⟩,⟨⟨KS,Tryz.call115⟩,trivial⟩⟩
theorem tR:Kb Tryz.prog 0 24 (Gb (Tryz.f118.body.getD .skip) 0) Pr:=Qb (G:=NB) (F:=Pr.F) (eid:=Pr.eid) (FX:=Pr.FX) (FR:=Pr.FR) (B:=Oy) (n:=Fa) Ga De O7 mixed (Ia (G:=NB) (n:=0) (by kernel_rfl) (by kernel_rfl) trivial (by kernel_rfl)) (fun s=>by kernel_rfl)
theorem tS:GC Tryz.prog 118 PS:=Ua (G:=NB) (c:=Tryz.f118.body.getD .skip) Ga De O7 mixed Tryz.func118 (by kernel_rfl) Tryz.ntmps118 (Ia (G:=NB) (n:=1) (by kernel_rfl) (by kernel_rfl) ⟨trivial,Rb (id:=3) (L0:=Pr) (by kernel_rfl) (by kernel_rfl) tR⟩ (by kernel_rfl)) (fun s=>by kernel_rfl)
def Qr:Cb:=⟨⟨[1,5,6],⟨[.c (.one (.b (.sl false .ls))),.c (.one (.own 0)),zc],[.row 108 .ls]⟩,[.ls .ls,.int,.ls .ls]⟩,0,⟨[5],⟨[.c (.one (.own 0))],[.row 108 .ls]⟩,[.ls .ls]⟩,zx,lp Py Fa⟩
def QS:Pa:=⟨⟨[.c (.one (.b (.sl false .ls))),.c (.one (.b (.sl false .ls)))],[]⟩,[.ls .ls,.ls .ls],⟨[.c (.one (.own 0))],[.row 108 .ls]⟩,[.ls .ls],UG⟩
def OB:La:=Ta tab [(104,[],Ij),(147,[],Jr)] 28 0 [] [(3,Qr)]
theorem P7:Na Tryz.prog OB.Γ:=Sa (l:=[(104,[],Ij),(147,[],Jr)]) ⟨⟨CB,Tryz.call104⟩,⟨⟨NS,Tryz.call147⟩,trivial⟩⟩
theorem tT:Kb Tryz.prog 0 28 (Gb (Tryz.f122.body.getD .skip) 0) Qr:=Qb (G:=OB) (F:=Qr.F) (eid:=Qr.eid) (FX:=Qr.FX) (FR:=Qr.FR) (B:=Py) (n:=Fa) Ga Ja P7 mixed (Ia (G:=OB) (n:=0) (by kernel_rfl) (by kernel_rfl) trivial (by kernel_rfl)) (fun s=>by kernel_rfl)
theorem tU:GC Tryz.prog 122 QS:=Ua (G:=OB) (c:=Tryz.f122.body.getD .skip) Ga Ja P7 mixed Tryz.func122 (by kernel_rfl) Tryz.ntmps122 (Ia (G:=OB) (n:=1) (by kernel_rfl) (by kernel_rfl) ⟨trivial,Rb (id:=3) (L0:=Qr) (by kernel_rfl) (by kernel_rfl) tT⟩ (by kernel_rfl)) (fun s=>by kernel_rfl)
end
section
open Go.RowKit
def Rr:Cb:=⟨⟨[3,4,6,8,9,10],⟨[zc,.c (.one (.ptr 5 0)),.c (.one (.ptr 6 0)),.c (.one (.ptr 7 0)),.c (.one (.own 8)),zc],[.row 114 .lk,.row 4 .bool,.row 3 .int,.row 86 .db,.dead,.box 39 [zi,(.own 0),(.own 1),(.own 2),(.own 3),(.own 9)],.box 108 [zi,zi,(.b (.sl true .en))],.box 39 [zi,(.b (.sl true .lk)),(.b (.sl true .bool)),(.b (.sl true .int)),(.b (.sl true .db)),(.b (.sl true .pk))],.row 3 .int,.row 112 .pk]⟩,[.int,.int,.ls .lk,.ls .bool,.ls .int,.ls .db,.int,.int,.int,.ls .en,.int,.ls .lk,.ls .bool,.ls .int,.ls .db,.ls .pk,.ls .int,.ls .pk]⟩,0,⟨[4,8],⟨[.c (.one (.ptr 5 0)),.c (.one (.ptr 6 0))],[.row 114 .lk,.row 4 .bool,.row 3 .int,.row 86 .db,.dead,.box 39 [zi,(.own 0),(.own 1),(.own 2),(.own 3),(.own 7)],.box 39 [zi,(.b (.sl true .lk)),(.b (.sl true .bool)),(.b (.sl true .int)),(.b (.sl true .db)),(.b (.sl true .pk))],.row 112 .pk]⟩,[.ls .lk,.ls .bool,.ls .int,.ls .db,.int,.int,.ls .lk,.ls .bool,.ls .int,.ls .db,.ls .pk,.ls .pk]⟩,zx,lp ZG Fa⟩
def PB:Pa:=⟨⟨[.c (.agg [zi,(.own 0),(.own 1),(.own 2),(.own 3),(.own 4)]),zc,.c (.agg [zi,zi,(.b (.sl true .en))]),zc],[.row 114 .lk,.row 4 .bool,.row 3 .int,.row 86 .db,.row 112 .pk]⟩,[.int,.int,.int,.int,.ls .en,.int,.ls .lk,.ls .bool,.ls .int,.ls .db,.ls .pk],⟨[.c (.agg [zi,(.own 0),(.own 1),(.own 2),(.own 3),(.own 5)])],[.row 114 .lk,.row 4 .bool,.row 3 .int,.row 86 .db,.dead,.row 112 .pk]⟩,[.int,.ls .lk,.ls .bool,.ls .int,.ls .db,.ls .pk],Vy⟩
def QB:La:=Ta tab [(107,[],Am),(163,[],GR),(38,[],YA)] 48 5 [(6,10,[(1,true),(2,true),(4,true),(5,true),(6,true),(7,true),(8,true),(0,false),(3,false),(9,false)],[])] [(3,Rr)]
theorem Q7:Na Tryz.prog QB.Γ:=Sa (l:=[(107,[],Am),(163,[],GR),(38,[],YA)]) ⟨⟨NH,Tryz.call107⟩,⟨⟨rT,Tryz.call163⟩,⟨⟨C7,Tryz.call38⟩,trivial⟩⟩⟩
theorem tV:Kb Tryz.prog 5 48 (Gb (Tryz.f154.body.getD .skip) 0) Rr:=Qb (G:=QB) (F:=Rr.F) (eid:=Rr.eid) (FX:=Rr.FX) (FR:=Rr.FR) (B:=ZG) (n:=Fa) Ga Ja Q7 mixed (Ia (G:=QB) (n:=0) (by kernel_rfl) (by kernel_rfl) trivial (by kernel_rfl)) (fun s=>by kernel_rfl)
theorem R7:GC Tryz.prog 154 PB:=Bw (G:=QB) (c:=Tryz.f154.body.getD .skip) Ga Ja Q7 mixed Tryz.func154 (by kernel_rfl) Tryz.ntmps154 (Ia (G:=QB) (n:=1) (by kernel_rfl) (by kernel_rfl) ⟨trivial,Rb (id:=3) (L0:=Rr) (by kernel_rfl) (by kernel_rfl) tV⟩ (by kernel_rfl)) [4] (fun s=>by kernel_rfl)
def SS:Pa:=⟨⟨[.c (.agg [zi,(.b (.sl true .lk)),(.b (.sl true .bool)),(.b (.sl true .int)),(.b (.sl true .db)),(.b (.sl true .pk))]),.c (.agg [zi,zi,zi,(.b (.sl true .en))])],[]⟩,[.int,.ls .lk,.ls .bool,.ls .int,.ls .db,.ls .pk,.int,.int,.int,.ls .en],⟨[.c (.agg [zi,(.b (.sl true .lk)),(.b (.sl true .bool)),(.b (.sl true .int)),(.b (.sl true .db)),(.b (.sl true .pk))])],[]⟩,[.int,.ls .lk,.ls .bool,.ls .int,.ls .db,.ls .pk],AH⟩
def TS:La:=Ta tab [(63,[],Cm),(147,[],Jr),(154,[],PB)] 39 0 [(1,13,[(0,true),(1,true),(2,true),(3,true),(4,true),(5,true),(6,true),(7,true),(8,false),(9,true),(10,true),(11,true),(12,true)],[])] []
theorem tW:Na Tryz.prog TS.Γ:=Sa (l:=[(63,[],Cm),(147,[],Jr),(154,[],PB)]) ⟨⟨QH,Tryz.call63⟩,⟨⟨NS,Tryz.call147⟩,⟨⟨R7,Tryz.call154⟩,trivial⟩⟩⟩
theorem tX:GC Tryz.prog 141 SS:=Ua (G:=TS) (c:=Tryz.f141.body.getD .skip) Ga Ja tW mixed Tryz.func141 (by kernel_rfl) Tryz.ntmps141 (Ia (G:=TS) (n:=0) (by kernel_rfl) (by kernel_rfl) trivial (by kernel_rfl)) (fun s=>by kernel_rfl)
def US:Pa:=⟨⟨[.c (.agg [zi,(.b (.sl true .lk)),(.b (.sl true .bool)),(.b (.sl true .int)),(.b (.sl true .db)),(.b (.sl true .pk))]),zc],[]⟩,[.int,.ls .lk,.ls .bool,.ls .int,.ls .db,.ls .pk,.int],⟨[.c (.agg [zi,(.b (.sl true .lk)),(.b (.sl true .bool)),(.b (.sl true .int)),(.b (.sl true .db)),(.b (.sl true .pk))])],[]⟩,[.int,.ls .lk,.ls .bool,.ls .int,.ls .db,.ls .pk],Xl⟩
def VS:La:=Ta tab [(104,[],Ij),(63,[],Cm),(122,[],QS)] 49 0 [(5,12,tk 12,[]),(7,6,[(0,true),(1,true),(2,true),(3,true),(4,true),(5,false)],[])] []
theorem tY:Na Tryz.prog VS.Γ:=Sa (l:=[(104,[],Ij),(63,[],Cm),(122,[],QS)]) ⟨⟨CB,Tryz.call104⟩,⟨⟨QH,Tryz.call63⟩,⟨⟨tU,Tryz.call122⟩,trivial⟩⟩⟩
theorem tZ:GC Tryz.prog 72 US:=Ua (G:=VS) (c:=Tryz.f72.body.getD .skip) Ga Ja tY mixed Tryz.func72 (by kernel_rfl) Tryz.ntmps72 (Ia (G:=VS) (n:=0) (by kernel_rfl) (by kernel_rfl) trivial (by kernel_rfl)) (fun s=>by kernel_rfl)
def Vt:Cb:=⟨⟨[0,3,6,9,15,16,17],⟨[.c (.one (.ptr 0 0)),zc,.c (.one (.ptr 6 0)),zc,.c (.one (.own 7)),zc,zc],[.box 39 [zi,(.own 1),(.own 2),(.own 3),(.own 4),(.own 8)],.row 114 .lk,.row 4 .bool,.row 3 .int,.row 86 .udb,.dead,.box 108 [zi,zi,(.b (.sl true .en))],.row 3 .int,.row 112 .upk]⟩,[.int,.int,.int,.int,.int,.ls .lk,.ls .bool,.ls .int,.ls .udb,.int,.int,.ls .en,.ls .int,.ls .upk]⟩,0,⟨[0,3,6,15,16,17],⟨[.c (.one (.ptr 0 0)),zc,.c (.one (.ptr 6 0)),.c (.one (.own 7)),zc,zc],[.box 39 [zi,(.own 1),(.own 2),(.own 3),(.own 4),(.own 8)],.row 114 .lk,.row 4 .bool,.row 3 .int,.row 86 .udb,.dead,.box 108 [zi,zi,(.b (.sl true .en))],.row 3 .int,.row 112 .upk]⟩,[.int,.int,.int,.int,.ls .lk,.ls .bool,.ls .int,.ls .udb,.int,.int,.ls .en,.ls .int,.ls .upk]⟩,zx,BH⟩
def Sr:Cb:=⟨⟨[0,3,6,15,16,17],⟨[.c (.one (.ptr 0 0)),zc,.c (.one (.ptr 6 0)),.c (.one (.own 7)),zc,zc],[.box 39 [zi,(.own 1),(.own 2),(.own 3),(.own 4),(.own 8)],.row 114 .lk,.row 4 .bool,.row 3 .int,.row 86 .udb,.dead,.box 108 [zi,zi,(.b (.sl true .en))],.row 3 .int,.row 112 .upk]⟩,[.int,.int,.int,.int,.ls .lk,.ls .bool,.ls .int,.ls .udb,.int,.int,.ls .en,.ls .int,.ls .upk]⟩,0,⟨[],⟨[],[.box 39 [zi,(.own 1),(.own 2),(.own 3),(.own 4),(.own 6)],.row 114 .lk,.row 4 .bool,.row 3 .int,.row 86 .udb,.dead,.row 112 .upk]⟩,[.int,.ls .lk,.ls .bool,.ls .int,.ls .udb,.ls .upk]⟩,zx,lp CH Fa⟩
def RB:Pa:=⟨⟨[.c (.one (.ptr 0 0)),zc,.c (.agg [zi,zi,(.b (.sl true .en))]),zc],[.box 39 [zi,(.own 1),(.own 2),(.own 3),(.own 4),(.own 5)],.row 114 .lk,.row 4 .bool,.row 3 .int,.row 86 .udb,.row 112 .upk]⟩,[.int,.int,.int,.ls .en,.int,.int,.ls .lk,.ls .bool,.ls .int,.ls .udb,.ls .upk],⟨[.tup []],[.box 39 [zi,(.own 1),(.own 2),(.own 3),(.own 4),(.own 6)],.row 114 .lk,.row 4 .bool,.row 3 .int,.row 86 .udb,.dead,.row 112 .upk]⟩,[.int,.ls .lk,.ls .bool,.ls .int,.ls .udb,.ls .upk],Gp⟩
def Sn:La:=Ta Dj [(144,[],LA),(117,[],Bm),(44,[],MB)] 46 6 [] [(5,Vt),(2,Sr)]
theorem WS:Na Tryz.prog Sn.Γ:=Sa (l:=[(144,[],LA),(117,[],Bm),(44,[],MB)]) ⟨⟨O6,Tryz.call144⟩,⟨⟨OH,Tryz.call117⟩,⟨⟨N7,Tryz.call44⟩,trivial⟩⟩⟩
theorem uA:Ze Tryz.prog 6 46 (Ld Sn.plan (Gb (Tryz.f116.body.getD .skip) 0) 0).1 (Ld Sn.plan (Gb (Tryz.f116.body.getD .skip) 0) 0).2 Vt:=AE (G:=Sn) (U:=[0,1,2,3,5]) (n:=10) (tl:=[10,11,12,13]) (ks:=[]) (t:=(.val 4 (.val 6 (.one 7 (.val 8 (.one 9 .done)))))) (F:=Vt.F) (eid:=0) (FX:=Vt.FX) (FR:=Vt.FR) (sh:=BH) Ga De WS mixed (by kernel_rfl) (by kernel_rfl) ⟨fun s=>by kernel_rfl,trivial⟩
theorem uB:Kb Tryz.prog 6 46 (Gb (Tryz.f116.body.getD .skip) 0) Sr:=Qb (G:=Sn) (F:=Sr.F) (eid:=Sr.eid) (FX:=Sr.FX) (FR:=Sr.FR) (B:=CH) (n:=Fa) Ga De WS mixed (Hl (G:=Sn) (n:=0) (m:=1) (by kernel_rfl) (by kernel_rfl) trivial (by kernel_rfl) ⟨trivial,Ei (L0:=Vt) (by kernel_rfl) uA⟩) (fun s=>by kernel_rfl)
theorem S7:GC Tryz.prog 116 RB:=Bw (G:=Sn) (c:=Tryz.f116.body.getD .skip) Ga De WS mixed Tryz.func116 (by kernel_rfl) Tryz.ntmps116 (Ia (G:=Sn) (n:=1) (by kernel_rfl) (by kernel_rfl) ⟨trivial,Rb (id:=2) (L0:=Sr) (by kernel_rfl) (by kernel_rfl) uB⟩ (by kernel_rfl)) [5] (fun s=>by kernel_rfl)
def Xt:Cb:=⟨⟨[1,2,4],⟨[zc,.c (.one (.ptr 5 0)),.c (.one (.ptr 6 0))],[.row 114 .lk,.row 4 .bool,.row 3 .int,.row 86 .db,.dead,.box 39 [zi,(.own 0),(.own 1),(.own 2),(.own 3),(.own 7)],.box 39 [zi,(.b (.sl true .lk)),(.b (.sl true .bool)),(.b (.sl true .int)),(.b (.sl true .db)),(.b (.sl true .pk))],.row 112 .pk]⟩,[.int,.ls .lk,.ls .bool,.ls .int,.ls .db,.int,.int,.ls .lk,.ls .bool,.ls .int,.ls .db,.ls .pk,.ls .pk]⟩,0,⟨[1,2,4,5],⟨[zc,.c (.one (.ptr 5 0)),.c (.one (.ptr 6 0)),.c (.one (.ptr 7 0))],[.row 114 .lk,.row 4 .bool,.row 3 .int,.row 86 .db,.dead,.box 39 [zi,(.own 0),(.own 1),(.own 2),(.own 3),(.own 8)],.box 39 [zi,(.b (.sl true .lk)),(.b (.sl true .bool)),(.b (.sl true .int)),(.b (.sl true .db)),(.b (.sl true .pk))],.box 108 [zi,zi,(.own 9)],.row 112 .pk,.row 153 .en]⟩,[.int,.ls .lk,.ls .bool,.ls .int,.ls .db,.int,.int,.ls .lk,.ls .bool,.ls .int,.ls .db,.ls .pk,.int,.int,.ls .pk,.ls .en]⟩,zx,Wy⟩
def XS:Pa:=⟨⟨[.c (.agg [zi,(.own 0),(.own 1),(.own 2),(.own 3),(.own 4)]),zc],[.row 114 .lk,.row 4 .bool,.row 3 .int,.row 86 .db,.row 112 .pk]⟩,[.int,.int,.ls .lk,.ls .bool,.ls .int,.ls .db,.ls .pk],⟨[.c (.agg [zi,(.own 0),(.own 1),(.own 2),(.own 3),(.own 5)])],[.row 114 .lk,.row 4 .bool,.row 3 .int,.row 86 .db,.dead,.row 112 .pk]⟩,[.int,.ls .lk,.ls .bool,.ls .int,.ls .db,.ls .pk],Qt⟩
def Yt:La:=Ta tab [(103,[],RA),(38,[],YA),(147,[],Jr),(154,[],PB)] 46 5 [(1,9,tk 9,[]),(3,11,[(0,true),(1,true),(2,true),(3,true),(4,true),(5,true),(6,false),(7,true),(8,true),(9,true),(10,true)],[])] [(2,Xt)]
theorem T7:Na Tryz.prog Yt.Γ:=Sa (l:=[(103,[],RA),(38,[],YA),(147,[],Jr),(154,[],PB)]) ⟨⟨U6,Tryz.call103⟩,⟨⟨C7,Tryz.call38⟩,⟨⟨NS,Tryz.call147⟩,⟨⟨R7,Tryz.call154⟩,trivial⟩⟩⟩⟩
theorem uC:Ze Tryz.prog 5 46 (Ld Yt.plan (Tryz.f142.body.getD .skip) 0).1 (Ld Yt.plan (Tryz.f142.body.getD .skip) 0).2 Xt:=PD (G:=Yt) (n:=10) (ks:=[]) (t:=(.val 0 (.val 2 (.val 3 (.val 4 (.val 5 (.val 6 (.val 7 (.two 1 (.two 8 (.one 9 .done) 9 (.one 8 .done)) 9 (.one 1 (.one 8 .done))))))))))) (F:=Xt.F) (eid:=0) (FX:=Xt.FX) (FR:=Xt.FR) (sh:=Wy) Ga Ja T7 mixed (by kernel_rfl) (by kernel_rfl) ⟨fun s=>by kernel_rfl,fun s=>by kernel_rfl,fun s=>by kernel_rfl,trivial⟩
theorem uD:GC Tryz.prog 142 XS:=Bw (G:=Yt) (c:=Tryz.f142.body.getD .skip) Ga Ja T7 mixed Tryz.func142 (by kernel_rfl) Tryz.ntmps142 (Hl (G:=Yt) (n:=0) (m:=1) (by kernel_rfl) (by kernel_rfl) trivial (by kernel_rfl) ⟨trivial,Ei (L0:=Xt) (by kernel_rfl) uC⟩) [4] (fun s=>by kernel_rfl)
def Zt:Cb:=⟨⟨[2,4,5],⟨[.c (.one (.ptr 0 0)),.c (.one (.ptr 1 0)),.c (.one (.ptr 2 0))],[.box 39 [zi,(.b (.sl true .lk)),(.b (.sl true .bool)),(.b (.sl true .int)),(.b (.sl true .db)),(.b (.sl true .pk))],.box 39 [zi,(.b (.sl true .lk)),(.b (.sl true .bool)),(.b (.sl true .int)),(.b (.sl true .db)),(.b (.sl true .pk))],.box 112 [zi,zi,zi,(.b (.sl true .en))]]⟩,[.int,.ls .lk,.ls .bool,.ls .int,.ls .db,.ls .pk,.int,.ls .lk,.ls .bool,.ls .int,.ls .db,.ls .pk,.int,.int,.int,.ls .en]⟩,0,⟨[2,4],⟨[.c (.one (.ptr 0 0)),.c (.one (.ptr 1 0))],[.box 39 [zi,(.b (.sl true .lk)),(.b (.sl true .bool)),(.b (.sl true .int)),(.b (.sl true .db)),(.own 2)],.box 39 [zi,(.b (.sl true .lk)),(.b (.sl true .bool)),(.b (.sl true .int)),(.b (.sl true .db)),(.b (.sl true .pk))],.row 112 .pk]⟩,[.int,.ls .lk,.ls .bool,.ls .int,.ls .db,.int,.ls .lk,.ls .bool,.ls .int,.ls .db,.ls .pk,.ls .pk]⟩,zx,Xy⟩
def YS:Pa:=⟨⟨[.c (.agg [zi,(.b (.sl true .lk)),(.b (.sl true .bool)),(.b (.sl true .int)),(.b (.sl true .db)),(.b (.sl true .pk))]),.c (.agg [zi,zi])],[]⟩,[.int,.ls .lk,.ls .bool,.ls .int,.ls .db,.ls .pk,.int,.int],⟨[.c (.agg [zi,(.b (.sl true .lk)),(.b (.sl true .bool)),(.b (.sl true .int)),(.b (.sl true .db)),(.b (.sl true .pk))])],[]⟩,[.int,.ls .lk,.ls .bool,.ls .int,.ls .db,.ls .pk],Hp⟩
def Au:La:=Ta tab [(82,[],Iq),(141,[],SS)] 59 0 [(8,13,[(1,true),(2,true),(3,true),(4,true),(5,true),(7,true),(8,true),(9,true),(10,true),(11,true),(12,true),(0,false),(6,false)],[])] [(6,Zt)]
theorem U7:Na Tryz.prog Au.Γ:=Sa (l:=[(82,[],Iq),(141,[],SS)]) ⟨⟨DR,Tryz.call82⟩,⟨⟨tX,Tryz.call141⟩,trivial⟩⟩
theorem uE:Ze Tryz.prog 0 59 (Ld Au.plan (Tryz.f105.body.getD .skip) 0).1 (Ld Au.plan (Tryz.f105.body.getD .skip) 0).2 Zt:=PD (G:=Au) (n:=6) (ks:=[]) (t:=(.val 1 (.val 2 (.val 4 (.two 0 (.two 3 (.one 5 .done) 5 (.one 3 .done)) 5 (.one 0 (.one 3 .done))))))) (F:=Zt.F) (eid:=0) (FX:=Zt.FX) (FR:=Zt.FR) (sh:=Xy) Ga Ja U7 mixed (by kernel_rfl) (by kernel_rfl) ⟨fun s=>by kernel_rfl,fun s=>by kernel_rfl,fun s=>by kernel_rfl,trivial⟩
theorem uF:GC Tryz.prog 105 YS:=Ua (G:=Au) (c:=Tryz.f105.body.getD .skip) Ga Ja U7 mixed Tryz.func105 (by kernel_rfl) Tryz.ntmps105 (Hl (G:=Au) (n:=0) (m:=1) (by kernel_rfl) (by kernel_rfl) trivial (by kernel_rfl) ⟨trivial,Ei (L0:=Zt) (by kernel_rfl) uE⟩) (fun s=>by kernel_rfl)
def Bu:Cb:=⟨⟨[3,6,7],⟨[.c (.one (.ptr 0 0)),.c (.one (.ptr 1 0)),.c (.one (.ptr 2 0))],[.box 39 [zi,(.own 3),(.own 4),(.own 5),(.own 6),(.own 7)],.box 39 [zi,(.b (.sl true .lk)),(.b (.sl true .bool)),(.b (.sl true .int)),(.b (.sl true .db)),(.b (.sl true .pk))],.box 114 [zi,zi,zi],.row 114 .lk,.row 4 .bool,.row 3 .int,.row 86 .db,.row 112 .pk]⟩,[.int,.int,.ls .lk,.ls .bool,.ls .int,.ls .db,.ls .pk,.int,.int,.int,.ls .lk,.ls .bool,.ls .int,.ls .db,.ls .pk]⟩,0,⟨[6],⟨[.c (.one (.ptr 0 0))],[.box 39 [zi,(.own 1),(.own 2),(.own 3),(.own 4),(.own 5)],.row 114 .lk,.row 4 .bool,.row 3 .int,.row 86 .db,.row 112 .pk]⟩,[.int,.ls .lk,.ls .bool,.ls .int,.ls .db,.ls .pk]⟩,zx,Yy⟩
def ZS:Pa:=⟨⟨[.c (.agg [zi,(.b (.sl true .lk)),(.b (.sl true .bool)),(.b (.sl true .int)),(.b (.sl true .db)),(.b (.sl true .pk))]),zc,.c (.one (.b .bool))],[]⟩,[.int,.ls .lk,.ls .bool,.ls .int,.ls .db,.ls .pk,.int,.bool],⟨[.c (.agg [zi,(.b (.sl true .lk)),(.b (.sl true .bool)),(.b (.sl true .int)),(.b (.sl true .db)),(.b (.sl true .pk))])],[]⟩,[.int,.ls .lk,.ls .bool,.ls .int,.ls .db,.ls .pk],Yl⟩
def Cu:La:=Ta tab [(63,[],Cm),(142,[],XS)] 54 0 [] [(6,Bu)]
theorem V7:Na Tryz.prog Cu.Γ:=Sa (l:=[(63,[],Cm),(142,[],XS)]) ⟨⟨QH,Tryz.call63⟩,⟨⟨uD,Tryz.call142⟩,trivial⟩⟩
theorem uG:Ze Tryz.prog 0 54 (Ld Cu.plan (Tryz.f106.body.getD .skip) 0).1 (Ld Cu.plan (Tryz.f106.body.getD .skip) 0).2 Bu:=IL (G:=Cu) (t:=(.val 1 (.val 4 (.alt 0 (.alt 2 (.alt 3 (.one 5 (.one 6 (.one 7 .done))) (.one 5 (.one 3 (.one 6 (.one 7 .done))))) (.one 5 (.one 2 (.one 3 (.one 6 (.one 7 .done)))))) (.alt 2 (.alt 0 (.alt 3 (.one 5 (.one 6 (.one 7 .done))) (.one 5 (.one 3 (.one 6 (.one 7 .done))))) (.one 5 (.one 0 (.one 3 (.one 6 (.one 7 .done)))))) (.one 5 (.alt 0 (.one 2 (.one 3 (.one 6 (.one 7 .done)))) (.one 2 (.one 0 (.one 3 (.one 6 (.one 7 .done)))))))))))) (F:=Bu.F) (eid:=0) (FX:=Bu.FX) (FR:=Bu.FR) (sh:=Yy) Ga Ja V7 mixed (by kernel_rfl) (by kernel_rfl) ⟨fun s=>by kernel_rfl,fun s=>by kernel_rfl,fun s=>by kernel_rfl,fun s=>by kernel_rfl,fun s=>by kernel_rfl,fun s=>by kernel_rfl,fun s=>by kernel_rfl,fun s=>by kernel_rfl,trivial⟩
theorem uH:GC Tryz.prog 106 ZS:=Ua (G:=Cu) (c:=Tryz.f106.body.getD .skip) Ga Ja V7 mixed Tryz.func106 (by kernel_rfl) Tryz.ntmps106 (Hl (G:=Cu) (n:=0) (m:=1) (by kernel_rfl) (by kernel_rfl) trivial (by kernel_rfl) ⟨trivial,Ei (L0:=Bu) (by kernel_rfl) uG⟩) (fun s=>by kernel_rfl)
def Du:Cb:=⟨⟨[0,1],⟨[.c (.one (.ptr 0 0)),zc],[.box 39 [zi,(.own 1),(.own 2),(.own 3),(.own 4),(.own 6)],.row 114 .lk,.row 4 .bool,.row 3 .int,.row 86 .udb,.dead,.row 112 .upk]⟩,[.int,.int,.ls .lk,.ls .bool,.ls .int,.ls .udb,.ls .upk]⟩,0,⟨[0,1,4],⟨[.c (.one (.ptr 0 0)),zc,.c (.one (.ptr 6 0))],[.box 39 [zi,(.own 1),(.own 2),(.own 3),(.own 4),(.own 7)],.row 114 .lk,.row 4 .bool,.row 3 .int,.row 86 .udb,.dead,.box 108 [zi,zi,(.own 8)],.row 112 .upk,.row 153 .en]⟩,[.int,.int,.ls .lk,.ls .bool,.ls .int,.ls .udb,.int,.int,.ls .upk,.ls .en]⟩,zx,Zy⟩
def Eu:Cb:=⟨⟨[0,1,4],⟨[.c (.one (.ptr 0 0)),zc,.c (.one (.ptr 6 0))],[.box 39 [zi,(.own 1),(.own 2),(.own 3),(.own 4),(.own 7)],.row 114 .lk,.row 4 .bool,.row 3 .int,.row 86 .udb,.dead,.box 108 [zi,zi,(.own 8)],.row 112 .upk,.row 153 .en]⟩,[.int,.int,.ls .lk,.ls .bool,.ls .int,.ls .udb,.int,.int,.ls .upk,.ls .en]⟩,0,⟨[0,1,4],⟨[.c (.one (.ptr 0 0)),zc,.c (.one (.ptr 6 0))],[.box 39 [zi,(.own 1),(.own 2),(.own 3),(.own 4),(.own 7)],.row 114 .lk,.row 4 .bool,.row 3 .int,.row 86 .udb,.dead,.box 108 [zi,zi,(.own 8)],.row 112 .upk,.row 153 .en]⟩,[.int,.int,.ls .lk,.ls .bool,.ls .int,.ls .udb,.int,.int,.ls .upk,.ls .en]⟩,zx,Az⟩
def AT:Pa:=⟨⟨[.c (.one (.ptr 0 0)),zc],[.box 39 [zi,(.own 1),(.own 2),(.own 3),(.own 4),(.own 5)],.row 114 .lk,.row 4 .bool,.row 3 .int,.row 86 .udb,.row 112 .upk]⟩,[.int,.int,.ls .lk,.ls .bool,.ls .int,.ls .udb,.ls .upk],⟨[.tup []],[.box 39 [zi,(.own 1),(.own 2),(.own 3),(.own 4),(.own 6)],.row 114 .lk,.row 4 .bool,.row 3 .int,.row 86 .udb,.dead,.row 112 .upk]⟩,[.int,.ls .lk,.ls .bool,.ls .int,.ls .udb,.ls .upk],Gk⟩
def Em:La:=Ta Dj [(112,[],VA),(44,[],MB),(115,[],Er),(116,[],RB)] 49 6 [] [(1,Du),(2,Eu)]
theorem BT:Na Tryz.prog Em.Γ:=Sa (l:=[(112,[],VA),(44,[],MB),(115,[],Er),(116,[],RB)]) ⟨⟨Z6,Tryz.call112⟩,⟨⟨N7,Tryz.call44⟩,⟨⟨KS,Tryz.call115⟩,⟨⟨S7,Tryz.call116⟩,trivial⟩⟩⟩⟩
theorem uI:Ze Tryz.prog 6 49 (Ld Em.plan (Tryz.f113.body.getD .skip) 0).1 (Ld Em.plan (Tryz.f113.body.getD .skip) 0).2 Du:=PD (G:=Em) (n:=14) (ks:=[]) (t:=(.val 0 (.val 1 (.val 2 (.val 4 (.val 5 (.val 6 (.val 7 (.val 8 (.val 9 (.val 10 (.val 11 (.two 3 (.two 12 (.one 13 .done) 13 (.one 12 .done)) 13 (.one 3 (.one 12 .done))))))))))))))) (F:=Du.F) (eid:=0) (FX:=Du.FX) (FR:=Du.FR) (sh:=Zy) Ga De BT mixed (by kernel_rfl) (by kernel_rfl) ⟨fun s=>by kernel_rfl,fun s=>by kernel_rfl,fun s=>by kernel_rfl,trivial⟩
theorem uJ:Ze Tryz.prog 6 49 (Ld Em.plan (Tryz.f113.body.getD .skip) 1).1 (Ld Em.plan (Tryz.f113.body.getD .skip) 1).2 Eu:=IL (G:=Em) (t:=(.val 0 (.val 1 (.val 2 (.val 4 (.val 5 (.val 6 (.val 7 (.val 9 (.alt 3 (.alt 8 (.val 10 (.alt 11 (.one 12 (.one 13 (.val 14 (.val 15 (.val 16 (.val 17 (.one 18 .done))))))) (.one 12 (.one 11 (.one 13 (.val 14 (.val 15 (.val 16 (.val 17 (.one 18 .done)))))))))) (.one 12 (.one 8 (.val 10 (.one 11 (.one 13 (.val 14 (.val 15 (.val 16 (.val 17 (.one 18 .done))))))))))) (.alt 8 (.val 10 (.alt 3 (.alt 11 (.one 12 (.one 13 (.val 14 (.val 15 (.val 16 (.val 17 (.one 18 .done))))))) (.one 12 (.one 11 (.one 13 (.val 14 (.val 15 (.val 16 (.val 17 (.one 18 .done))))))))) (.alt 11 (.alt 3 (.one 12 (.one 13 (.val 14 (.val 15 (.val 16 (.val 17 (.one 18 .done))))))) (.one 12 (.alt 3 (.one 13 (.val 14 (.val 15 (.val 16 (.val 17 (.one 18 .done)))))) (.one 13 (.val 14 (.val 15 (.val 16 (.one 3 (.val 17 (.one 18 .done)))))))))) (.one 12 (.alt 3 (.one 11 (.one 13 (.val 14 (.val 15 (.val 16 (.val 17 (.one 18 .done))))))) (.one 11 (.alt 3 (.one 13 (.val 14 (.val 15 (.val 16 (.val 17 (.one 18 .done)))))) (.one 13 (.val 14 (.val 15 (.val 16 (.one 3 (.val 17 (.one 18 .done)))))))))))))) (.one 12 (.alt 3 (.one 8 (.val 10 (.one 11 (.one 13 (.val 14 (.val 15 (.val 16 (.val 17 (.one 18 .done))))))))) (.one 8 (.val 10 (.alt 3 (.one 11 (.one 13 (.val 14 (.val 15 (.val 16 (.val 17 (.one 18 .done))))))) (.one 11 (.alt 3 (.one 13 (.val 14 (.val 15 (.val 16 (.val 17 (.one 18 .done)))))) (.one 13 (.val 14 (.val 15 (.val 16 (.one 3 (.val 17 (.one 18 .done))))))))))))))))))))))))) (F:=Eu.F) (eid:=0) (FX:=Eu.FX) (FR:=Eu.FR) (sh:=Az) Ga De BT mixed (by kernel_rfl) (by kernel_rfl) ⟨fun s=>by kernel_rfl,fun s=>by kernel_rfl,fun s=>by kernel_rfl,fun s=>by kernel_rfl,fun s=>by kernel_rfl,fun s=>by kernel_rfl,fun s=>by kernel_rfl,fun s=>by kernel_rfl,fun s=>by kernel_rfl,fun s=>by kernel_rfl,fun s=>by kernel_rfl,fun s=>by kernel_rfl,fun s=>by kernel_rfl,fun s=>by kernel_rfl,fun s=>by kernel_rfl,trivial⟩
theorem uK:GC Tryz.prog 113 AT:=Bw (G:=Em) (c:=Tryz.f113.body.getD .skip) Ga De BT mixed Tryz.func113 (by kernel_rfl) Tryz.ntmps113 (Hl (G:=Em) (n:=0) (m:=2) (by kernel_rfl) (by kernel_rfl) trivial (by kernel_rfl) ⟨⟨trivial,Ei (L0:=Du) (by kernel_rfl) uI⟩,Ei (L0:=Eu) (by kernel_rfl) uJ⟩) [5] (fun s=>by kernel_rfl)
def CT:Pa:=⟨⟨[.c (.agg [zi,(.b (.sl true .lk)),(.b (.sl true .bool)),(.b (.sl true .int)),(.b (.sl true .db)),(.b (.sl true .pk))]),.c (.agg [zi,zi])],[]⟩,[.int,.ls .lk,.ls .bool,.ls .int,.ls .db,.ls .pk,.int,.int],⟨[.c (.agg [zi,(.b (.sl true .lk)),(.b (.sl true .bool)),(.b (.sl true .int)),(.b (.sl true .db)),(.b (.sl true .pk))])],[]⟩,[.int,.ls .lk,.ls .bool,.ls .int,.ls .db,.ls .pk],DH⟩
def DT:La:=Ta tab [(82,[],Iq),(72,[],US),(105,[],YS),(106,[],ZS)] 42 0 [] []
theorem uL:Na Tryz.prog DT.Γ:=Sa (l:=[(82,[],Iq),(72,[],US),(105,[],YS),(106,[],ZS)]) ⟨⟨DR,Tryz.call82⟩,⟨⟨tZ,Tryz.call72⟩,⟨⟨uF,Tryz.call105⟩,⟨⟨uH,Tryz.call106⟩,trivial⟩⟩⟩⟩
theorem uM:GC Tryz.prog 62 CT:=Ua (G:=DT) (c:=Tryz.f62.body.getD .skip) Ga Ja uL mixed Tryz.func62 (by kernel_rfl) Tryz.ntmps62 (Ia (G:=DT) (n:=0) (by kernel_rfl) (by kernel_rfl) trivial (by kernel_rfl)) (fun s=>by kernel_rfl)
def Ur:Cb:=⟨⟨[1,4,6,8],⟨[.c (.one (.b (.sl false .ev))),.c (.one (.ptr 0 0)),.c (.one (.ptr 1 0)),zc],[.box 39 [zi,(.b (.sl true .lk)),(.b (.sl true .bool)),(.b (.sl true .int)),(.b (.sl true .db)),(.b (.sl true .pk))],.box 39 [zi,(.b (.sl true .lk)),(.b (.sl true .bool)),(.b (.sl true .int)),(.b (.sl true .db)),(.b (.sl true .pk))]]⟩,[.ls .ev,.int,.int,.ls .lk,.ls .bool,.ls .int,.ls .db,.ls .pk,.int,.ls .lk,.ls .bool,.ls .int,.ls .db,.ls .pk]⟩,0,⟨[4,6],⟨[.c (.one (.ptr 0 0)),.c (.one (.ptr 1 0))],[.box 39 [zi,(.b (.sl true .lk)),(.b (.sl true .bool)),(.b (.sl true .int)),(.b (.sl true .db)),(.b (.sl true .pk))],.box 39 [zi,(.b (.sl true .lk)),(.b (.sl true .bool)),(.b (.sl true .int)),(.b (.sl true .db)),(.b (.sl true .pk))]]⟩,[.int,.ls .lk,.ls .bool,.ls .int,.ls .db,.ls .pk,.int,.ls .lk,.ls .bool,.ls .int,.ls .db,.ls .pk]⟩,zx,lp Bz Fa⟩
def W7:Pa:=⟨⟨[.c (.agg [zi,(.b (.sl true .lk))]),.c (.one (.b (.sl false .ev)))],[]⟩,[.int,.ls .lk,.ls .ev],⟨[.tup [(.agg [zi,(.own 0),(.own 1),(.own 2),(.own 3),(.own 4)]),(.one (.b .bool))]],[.row 114 .lk,.row 4 .bool,.row 3 .int,.row 86 .db,.row 112 .pk]⟩,[.int,.bool,.ls .lk,.ls .bool,.ls .int,.ls .db,.ls .pk],EP⟩
def SB:La:=Ta tab [(63,[],Cm),(61,[],OS),(62,[],CT)] 36 0 [(7,5,tk 5,[])] [(5,Ur)]
theorem X7:Na Tryz.prog SB.Γ:=Sa (l:=[(63,[],Cm),(61,[],OS),(62,[],CT)]) ⟨⟨QH,Tryz.call63⟩,⟨⟨tQ,Tryz.call61⟩,⟨⟨uM,Tryz.call62⟩,trivial⟩⟩⟩
theorem uN:Kb Tryz.prog 0 36 (Gb (Tryz.f21.body.getD .skip) 0) Ur:=Qb (G:=SB) (F:=Ur.F) (eid:=Ur.eid) (FX:=Ur.FX) (FR:=Ur.FR) (B:=Bz) (n:=Fa) Ga Ja X7 mixed (Ia (G:=SB) (n:=0) (by kernel_rfl) (by kernel_rfl) trivial (by kernel_rfl)) (fun s=>by kernel_rfl)
theorem uO:GC Tryz.prog 21 W7:=Ua (G:=SB) (c:=Tryz.f21.body.getD .skip) Ga Ja X7 mixed Tryz.func21 (by kernel_rfl) Tryz.ntmps21 (Ia (G:=SB) (n:=1) (by kernel_rfl) (by kernel_rfl) ⟨trivial,Rb (id:=5) (L0:=Ur) (by kernel_rfl) (by kernel_rfl) uN⟩ (by kernel_rfl)) (fun s=>by kernel_rfl)
def Fu:Cb:=⟨⟨[0,3,8],⟨[.c (.one (.ptr 0 0)),.c (.one (.ptr 6 0)),.c (.one (.ptr 7 0))],[.box 39 [zi,(.own 1),(.own 2),(.own 3),(.own 4),(.own 8)],.row 114 .lk,.row 4 .bool,.row 3 .int,.row 86 .udb,.dead,.box 63 [zi,zi],.box 112 [zi,zi,zi,(.b (.sl true .en))],.row 112 .upk]⟩,[.int,.ls .lk,.ls .bool,.ls .int,.ls .udb,.int,.int,.int,.int,.int,.ls .en,.ls .upk]⟩,0,⟨[0,8],⟨[.c (.one (.ptr 0 0)),.c (.one (.ptr 6 0))],[.box 39 [zi,(.own 1),(.own 2),(.own 3),(.own 4),(.own 7)],.row 114 .lk,.row 4 .bool,.row 3 .int,.row 86 .udb,.dead,.box 112 [zi,zi,zi,(.b (.sl true .en))],.row 112 .upk]⟩,[.int,.ls .lk,.ls .bool,.ls .int,.ls .udb,.int,.int,.int,.ls .en,.ls .upk]⟩,zx,Ip⟩
def Gu:Cb:=⟨⟨[0,3],⟨[.c (.one (.ptr 0 0)),.c (.one (.ptr 6 0))],[.box 39 [zi,(.own 1),(.own 2),(.own 3),(.own 4),(.own 7)],.row 114 .lk,.row 4 .bool,.row 3 .int,.row 86 .udb,.dead,.box 63 [zi,zi],.row 112 .upk]⟩,[.int,.ls .lk,.ls .bool,.ls .int,.ls .udb,.int,.int,.ls .upk]⟩,0,⟨[],⟨[],[.box 39 [zi,(.own 1),(.own 2),(.own 3),(.own 4),(.own 6)],.row 114 .lk,.row 4 .bool,.row 3 .int,.row 86 .udb,.dead,.row 112 .upk]⟩,[.int,.ls .lk,.ls .bool,.ls .int,.ls .udb,.ls .upk]⟩,zx,Ik⟩
def Hu:Cb:=⟨⟨[0,3],⟨[.c (.one (.ptr 0 0)),.c (.one (.ptr 6 0))],[.box 39 [zi,(.own 1),(.own 2),(.own 3),(.own 4),(.own 7)],.row 114 .lk,.row 4 .bool,.row 3 .int,.row 86 .udb,.dead,.box 63 [zi,zi],.row 112 .upk]⟩,[.int,.ls .lk,.ls .bool,.ls .int,.ls .udb,.int,.int,.ls .upk]⟩,0,⟨[],⟨[],[.box 39 [zi,(.own 1),(.own 2),(.own 3),(.own 4),(.own 6)],.row 114 .lk,.row 4 .bool,.row 3 .int,.row 86 .udb,.dead,.row 112 .upk]⟩,[.int,.ls .lk,.ls .bool,.ls .int,.ls .udb,.ls .upk]⟩,zx,Pg⟩
def Iu:Cb:=⟨⟨[0,11,12],⟨[.c (.one (.ptr 0 0)),.c (.one (.ptr 6 0)),.c (.one (.own 7))],[.box 39 [zi,(.own 1),(.own 2),(.own 3),(.own 4),(.own 8)],.row 114 .lk,.row 4 .bool,.row 3 .int,.row 86 .udb,.dead,.box 114 [zi,zi,zi],.row 108 .uls,.row 112 .upk]⟩,[.int,.ls .lk,.ls .bool,.ls .int,.ls .udb,.int,.int,.int,.ls .uls,.ls .upk]⟩,0,⟨[],⟨[],[.box 39 [zi,(.own 1),(.own 2),(.own 3),(.own 4),(.own 6)],.row 114 .lk,.row 4 .bool,.row 3 .int,.row 86 .udb,.dead,.row 112 .upk]⟩,[.int,.ls .lk,.ls .bool,.ls .int,.ls .udb,.ls .upk]⟩,zx,Td⟩
def ET:Pa:=⟨⟨[.c (.one (.ptr 0 0)),.c (.agg [zi,zi])],[.box 39 [zi,(.own 1),(.own 2),(.own 3),(.own 4),(.own 5)],.row 114 .lk,.row 4 .bool,.row 3 .int,.row 86 .udb,.row 112 .upk]⟩,[.int,.int,.int,.ls .lk,.ls .bool,.ls .int,.ls .udb,.ls .upk],⟨[.tup []],[.box 39 [zi,(.own 1),(.own 2),(.own 3),(.own 4),(.own 6)],.row 114 .lk,.row 4 .bool,.row 3 .int,.row 86 .udb,.dead,.row 112 .upk]⟩,[.int,.ls .lk,.ls .bool,.ls .int,.ls .udb,.ls .upk],EH⟩
def Bh:La:=Ta Dj [(114,[],CN),(58,[],EA),(117,[],Bm),(119,[],Wq),(115,[],Er),(118,[],PS),(116,[],RB),(113,[],AT)] 284 6 [(1,17,[(0,true),(1,true),(2,true),(3,true),(4,true),(5,true),(6,true),(7,true),(9,true),(10,true),(11,true),(12,true),(13,true),(14,true),(15,true),(16,true),(8,false)],[]),(3,10,[(0,true),(1,true),(2,true),(3,true),(4,true),(5,true),(6,true),(7,true),(8,true),(9,false)],[]),(5,28,tk 28,[]),(6,7,tk 7,[]),(10,9,[(0,true),(1,true),(2,true),(3,true),(4,true),(5,true),(6,true),(7,true),(8,false)],[]),(12,15,[(0,true),(1,true),(2,true),(3,true),(4,true),(5,true),(6,true),(7,true),(8,true),(9,true),(10,false),(11,true),(12,true),(13,true),(14,true)],[]),(13,7,tk 7,[]),(22,10,[(0,true),(1,true),(2,true),(3,true),(4,true),(5,true),(6,true),(7,true),(8,true),(9,false)],[]),(23,6,tk 6,[]),(24,16,tk 16,[])] [(11,Fu),(17,Gu),(20,Hu),(25,Iu)]
theorem TB:Na Tryz.prog Bh.Γ:=Sa (l:=[(114,[],CN),(58,[],EA),(117,[],Bm),(119,[],Wq),(115,[],Er),(118,[],PS),(116,[],RB),(113,[],AT)]) ⟨⟨jZ,Tryz.call114⟩,⟨⟨G6,Tryz.call58⟩,⟨⟨OH,Tryz.call117⟩,⟨⟨BS,Tryz.call119⟩,⟨⟨KS,Tryz.call115⟩,⟨⟨tS,Tryz.call118⟩,⟨⟨S7,Tryz.call116⟩,⟨⟨uK,Tryz.call113⟩,trivial⟩⟩⟩⟩⟩⟩⟩⟩
theorem uP:Ze Tryz.prog 6 284 (Ld Bh.plan (Tryz.f66.body.getD .skip) 0).1 (Ld Bh.plan (Tryz.f66.body.getD .skip) 0).2 Fu:=AE (G:=Bh) (U:=[0,1,2,3,5,7]) (n:=10) (tl:=[10,11,12,13]) (ks:=[]) (t:=(.val 4 (.val 6 (.val 8 (.val 9 .done))))) (F:=Fu.F) (eid:=0) (FX:=Fu.FX) (FR:=Fu.FR) (sh:=Ip) Ga De TB mixed (by kernel_rfl) (by kernel_rfl) ⟨fun s=>by kernel_rfl,trivial⟩
theorem uQ:Ze Tryz.prog 6 284 (Ld Bh.plan (Tryz.f66.body.getD .skip) 1).1 (Ld Bh.plan (Tryz.f66.body.getD .skip) 1).2 Gu:=AE (G:=Bh) (U:=[0,1,2,3,5,7]) (n:=10) (tl:=[10,11,12,13]) (ks:=[]) (t:=(.val 4 (.val 6 (.val 8 (.val 9 .done))))) (F:=Gu.F) (eid:=0) (FX:=Gu.FX) (FR:=Gu.FR) (sh:=Ik) Ga De TB mixed (by kernel_rfl) (by kernel_rfl) ⟨fun s=>by kernel_rfl,trivial⟩
theorem uR:Ze Tryz.prog 6 284 (Ld Bh.plan (Tryz.f66.body.getD .skip) 2).1 (Ld Bh.plan (Tryz.f66.body.getD .skip) 2).2 Hu:=AE (G:=Bh) (U:=[0,1,2,3,5,6,7,9,14,15,16,18]) (n:=26) (tl:=[26,27,28,29]) (ks:=[]) (t:=(.val 4 (.val 8 (.val 10 (.val 11 (.val 12 (.val 13 (.val 17 (.val 19 (.val 20 (.val 21 (.val 22 (.one 23 (.val 24 (.one 25 .done))))))))))))))) (F:=Hu.F) (eid:=0) (FX:=Hu.FX) (FR:=Hu.FR) (sh:=Pg) Ga De TB mixed (by kernel_rfl) (by kernel_rfl) ⟨fun s=>by kernel_rfl,trivial⟩
theorem uS:Ze Tryz.prog 6 284 (Ld Bh.plan (Tryz.f66.body.getD .skip) 3).1 (Ld Bh.plan (Tryz.f66.body.getD .skip) 3).2 Iu:=IL (G:=Bh) (t:=(.val 0 (.val 1 (.val 2 (.val 4 (.val 6 (.val 7 (.val 8 (.val 10 (.val 12 (.val 13 (.alt 3 (.alt 5 (.alt 9 (.alt 11 (.one 14 (.val 15 (.one 16 (.val 17 (.one 18 .done))))) (.one 14 (.val 15 (.alt 11 (.one 16 (.val 17 (.one 18 .done))) (.one 16 (.one 11 (.val 17 (.one 18 .done)))))))) (.alt 11 (.alt 9 (.one 14 (.val 15 (.one 16 (.val 17 (.one 18 .done))))) (.one 14 (.one 9 (.val 15 (.one 16 (.val 17 (.one 18 .done))))))) (.one 14 (.alt 9 (.val 15 (.alt 11 (.one 16 (.val 17 (.one 18 .done))) (.one 16 (.one 11 (.val 17 (.one 18 .done)))))) (.one 11 (.one 9 (.val 15 (.one 16 (.val 17 (.one 18 .done)))))))))) (.alt 9 (.alt 5 (.alt 11 (.one 14 (.val 15 (.one 16 (.val 17 (.one 18 .done))))) (.one 14 (.val 15 (.alt 11 (.one 16 (.val 17 (.one 18 .done))) (.one 16 (.one 11 (.val 17 (.one 18 .done)))))))) (.alt 11 (.alt 5 (.one 14 (.val 15 (.one 16 (.val 17 (.one 18 .done))))) (.one 14 (.one 5 (.val 15 (.one 16 (.val 17 (.one 18 .done))))))) (.one 14 (.alt 5 (.val 15 (.alt 11 (.one 16 (.val 17 (.one 18 .done))) (.one 16 (.one 11 (.val 17 (.one 18 .done)))))) (.one 11 (.one 5 (.val 15 (.one 16 (.val 17 (.one 18 .done)))))))))) (.alt 11 (.alt 5 (.alt 9 (.one 14 (.val 15 (.one 16 (.val 17 (.one 18 .done))))) (.one 14 (.one 9 (.val 15 (.one 16 (.val 17 (.one 18 .done))))))) (.alt 9 (.alt 5 (.one 14 (.val 15 (.one 16 (.val 17 (.one 18 .done))))) (.one 14 (.one 5 (.val 15 (.one 16 (.val 17 (.one 18 .done))))))) (.one 14 (.alt 5 (.one 9 (.val 15 (.one 16 (.val 17 (.one 18 .done))))) (.one 9 (.one 5 (.val 15 (.one 16 (.val 17 (.one 18 .done)))))))))) (.one 14 (.alt 5 (.alt 9 (.val 15 (.alt 11 (.one 16 (.val 17 (.one 18 .done))) (.one 16 (.one 11 (.val 17 (.one 18 .done)))))) (.one 11 (.one 9 (.val 15 (.one 16 (.val 17 (.one 18 .done))))))) (.alt 9 (.alt 5 (.val 15 (.alt 11 (.one 16 (.val 17 (.one 18 .done))) (.one 16 (.one 11 (.val 17 (.one 18 .done)))))) (.one 11 (.one 5 (.val 15 (.one 16 (.val 17 (.one 18 .done))))))) (.one 11 (.alt 5 (.one 9 (.val 15 (.one 16 (.val 17 (.one 18 .done))))) (.one 9 (.one 5 (.val 15 (.one 16 (.val 17 (.one 18 .done)))))))))))))) (.alt 5 (.alt 3 (.alt 9 (.alt 11 (.one 14 (.val 15 (.one 16 (.val 17 (.one 18 .done))))) (.one 14 (.val 15 (.alt 11 (.one 16 (.val 17 (.one 18 .done))) (.one 16 (.one 11 (.val 17 (.one 18 .done)))))))) (.alt 11 (.alt 9 (.one 14 (.val 15 (.one 16 (.val 17 (.one 18 .done))))) (.one 14 (.one 9 (.val 15 (.one 16 (.val 17 (.one 18 .done))))))) (.one 14 (.alt 9 (.val 15 (.alt 11 (.one 16 (.val 17 (.one 18 .done))) (.one 16 (.one 11 (.val 17 (.one 18 .done)))))) (.one 11 (.one 9 (.val 15 (.one 16 (.val 17 (.one 18 .done)))))))))) (.alt 9 (.alt 3 (.alt 11 (.one 14 (.val 15 (.one 16 (.val 17 (.one 18 .done))))) (.one 14 (.val 15 (.alt 11 (.one 16 (.val 17 (.one 18 .done))) (.one 16 (.one 11 (.val 17 (.one 18 .done)))))))) (.alt 11 (.alt 3 (.one 14 (.val 15 (.one 16 (.val 17 (.one 18 .done))))) (.one 14 (.one 3 (.val 15 (.one 16 (.val 17 (.one 18 .done))))))) (.one 14 (.alt 3 (.val 15 (.alt 11 (.one 16 (.val 17 (.one 18 .done))) (.one 16 (.one 11 (.val 17 (.one 18 .done)))))) (.one 11 (.one 3 (.val 15 (.one 16 (.val 17 (.one 18 .done)))))))))) (.alt 11 (.alt 3 (.alt 9 (.one 14 (.val 15 (.one 16 (.val 17 (.one 18 .done))))) (.one 14 (.one 9 (.val 15 (.one 16 (.val 17 (.one 18 .done))))))) (.alt 9 (.alt 3 (.one 14 (.val 15 (.one 16 (.val 17 (.one 18 .done))))) (.one 14 (.one 3 (.val 15 (.one 16 (.val 17 (.one 18 .done))))))) (.one 14 (.alt 3 (.one 9 (.val 15 (.one 16 (.val 17 (.one 18 .done))))) (.one 9 (.one 3 (.val 15 (.one 16 (.val 17 (.one 18 .done)))))))))) (.one 14 (.alt 3 (.alt 9 (.val 15 (.alt 11 (.one 16 (.val 17 (.one 18 .done))) (.one 16 (.one 11 (.val 17 (.one 18 .done)))))) (.one 11 (.one 9 (.val 15 (.one 16 (.val 17 (.one 18 .done))))))) (.alt 9 (.alt 3 (.val 15 (.alt 11 (.one 16 (.val 17 (.one 18 .done))) (.one 16 (.one 11 (.val 17 (.one 18 .done)))))) (.one 11 (.one 3 (.val 15 (.one 16 (.val 17 (.one 18 .done))))))) (.one 11 (.alt 3 (.one 9 (.val 15 (.one 16 (.val 17 (.one 18 .done))))) (.one 9 (.one 3 (.val 15 (.one 16 (.val 17 (.one 18 .done)))))))))))))) (.alt 9 (.alt 3 (.alt 5 (.alt 11 (.one 14 (.val 15 (.one 16 (.val 17 (.one 18 .done))))) (.one 14 (.val 15 (.alt 11 (.one 16 (.val 17 (.one 18 .done))) (.one 16 (.one 11 (.val 17 (.one 18 .done)))))))) (.alt 11 (.alt 5 (.one 14 (.val 15 (.one 16 (.val 17 (.one 18 .done))))) (.one 14 (.one 5 (.val 15 (.one 16 (.val 17 (.one 18 .done))))))) (.one 14 (.alt 5 (.val 15 (.alt 11 (.one 16 (.val 17 (.one 18 .done))) (.one 16 (.one 11 (.val 17 (.one 18 .done)))))) (.one 11 (.one 5 (.val 15 (.one 16 (.val 17 (.one 18 .done)))))))))) (.alt 5 (.alt 3 (.alt 11 (.one 14 (.val 15 (.one 16 (.val 17 (.one 18 .done))))) (.one 14 (.val 15 (.alt 11 (.one 16 (.val 17 (.one 18 .done))) (.one 16 (.one 11 (.val 17 (.one 18 .done)))))))) (.alt 11 (.alt 3 (.one 14 (.val 15 (.one 16 (.val 17 (.one 18 .done))))) (.one 14 (.one 3 (.val 15 (.one 16 (.val 17 (.one 18 .done))))))) (.one 14 (.alt 3 (.val 15 (.alt 11 (.one 16 (.val 17 (.one 18 .done))) (.one 16 (.one 11 (.val 17 (.one 18 .done)))))) (.one 11 (.one 3 (.val 15 (.one 16 (.val 17 (.one 18 .done)))))))))) (.alt 11 (.alt 3 (.alt 5 (.one 14 (.val 15 (.one 16 (.val 17 (.one 18 .done))))) (.one 14 (.one 5 (.val 15 (.one 16 (.val 17 (.one 18 .done))))))) (.alt 5 (.alt 3 (.one 14 (.val 15 (.one 16 (.val 17 (.one 18 .done))))) (.one 14 (.one 3 (.val 15 (.one 16 (.val 17 (.one 18 .done))))))) (.one 14 (.alt 3 (.one 5 (.val 15 (.one 16 (.val 17 (.one 18 .done))))) (.one 5 (.one 3 (.val 15 (.one 16 (.val 17 (.one 18 .done)))))))))) (.one 14 (.alt 3 (.alt 5 (.val 15 (.alt 11 (.one 16 (.val 17 (.one 18 .done))) (.one 16 (.one 11 (.val 17 (.one 18 .done)))))) (.one 11 (.one 5 (.val 15 (.one 16 (.val 17 (.one 18 .done))))))) (.alt 5 (.alt 3 (.val 15 (.alt 11 (.one 16 (.val 17 (.one 18 .done))) (.one 16 (.one 11 (.val 17 (.one 18 .done)))))) (.one 11 (.one 3 (.val 15 (.one 16 (.val 17 (.one 18 .done))))))) (.one 11 (.alt 3 (.one 5 (.val 15 (.one 16 (.val 17 (.one 18 .done))))) (.one 5 (.one 3 (.val 15 (.one 16 (.val 17 (.one 18 .done)))))))))))))) (.alt 11 (.alt 3 (.alt 5 (.alt 9 (.one 14 (.val 15 (.one 16 (.val 17 (.one 18 .done))))) (.one 14 (.one 9 (.val 15 (.one 16 (.val 17 (.one 18 .done))))))) (.alt 9 (.alt 5 (.one 14 (.val 15 (.one 16 (.val 17 (.one 18 .done))))) (.one 14 (.one 5 (.val 15 (.one 16 (.val 17 (.one 18 .done))))))) (.one 14 (.alt 5 (.one 9 (.val 15 (.one 16 (.val 17 (.one 18 .done))))) (.one 9 (.one 5 (.val 15 (.one 16 (.val 17 (.one 18 .done)))))))))) (.alt 5 (.alt 3 (.alt 9 (.one 14 (.val 15 (.one 16 (.val 17 (.one 18 .done))))) (.one 14 (.one 9 (.val 15 (.one 16 (.val 17 (.one 18 .done))))))) (.alt 9 (.alt 3 (.one 14 (.val 15 (.one 16 (.val 17 (.one 18 .done))))) (.one 14 (.one 3 (.val 15 (.one 16 (.val 17 (.one 18 .done))))))) (.one 14 (.alt 3 (.one 9 (.val 15 (.one 16 (.val 17 (.one 18 .done))))) (.one 9 (.one 3 (.val 15 (.one 16 (.val 17 (.one 18 .done)))))))))) (.alt 9 (.alt 3 (.alt 5 (.one 14 (.val 15 (.one 16 (.val 17 (.one 18 .done))))) (.one 14 (.one 5 (.val 15 (.one 16 (.val 17 (.one 18 .done))))))) (.alt 5 (.alt 3 (.one 14 (.val 15 (.one 16 (.val 17 (.one 18 .done))))) (.one 14 (.one 3 (.val 15 (.one 16 (.val 17 (.one 18 .done))))))) (.one 14 (.alt 3 (.one 5 (.val 15 (.one 16 (.val 17 (.one 18 .done))))) (.one 5 (.one 3 (.val 15 (.one 16 (.val 17 (.one 18 .done)))))))))) (.one 14 (.alt 3 (.alt 5 (.one 9 (.val 15 (.one 16 (.val 17 (.one 18 .done))))) (.one 9 (.one 5 (.val 15 (.one 16 (.val 17 (.one 18 .done))))))) (.alt 5 (.alt 3 (.one 9 (.val 15 (.one 16 (.val 17 (.one 18 .done))))) (.one 9 (.one 3 (.val 15 (.one 16 (.val 17 (.one 18 .done))))))) (.one 9 (.alt 3 (.one 5 (.val 15 (.one 16 (.val 17 (.one 18 .done))))) (.one 5 (.one 3 (.val 15 (.one 16 (.val 17 (.one 18 .done)))))))))))))) (.one 14 (.alt 3 (.alt 5 (.alt 9 (.val 15 (.alt 11 (.one 16 (.val 17 (.one 18 .done))) (.one 16 (.one 11 (.val 17 (.one 18 .done)))))) (.one 11 (.one 9 (.val 15 (.one 16 (.val 17 (.one 18 .done))))))) (.alt 9 (.alt 5 (.val 15 (.alt 11 (.one 16 (.val 17 (.one 18 .done))) (.one 16 (.one 11 (.val 17 (.one 18 .done)))))) (.one 11 (.one 5 (.val 15 (.one 16 (.val 17 (.one 18 .done))))))) (.one 11 (.alt 5 (.one 9 (.val 15 (.one 16 (.val 17 (.one 18 .done))))) (.one 9 (.one 5 (.val 15 (.one 16 (.val 17 (.one 18 .done)))))))))) (.alt 5 (.alt 3 (.alt 9 (.val 15 (.alt 11 (.one 16 (.val 17 (.one 18 .done))) (.one 16 (.one 11 (.val 17 (.one 18 .done)))))) (.one 11 (.one 9 (.val 15 (.one 16 (.val 17 (.one 18 .done))))))) (.alt 9 (.alt 3 (.val 15 (.alt 11 (.one 16 (.val 17 (.one 18 .done))) (.one 16 (.one 11 (.val 17 (.one 18 .done)))))) (.one 11 (.one 3 (.val 15 (.one 16 (.val 17 (.one 18 .done))))))) (.one 11 (.alt 3 (.one 9 (.val 15 (.one 16 (.val 17 (.one 18 .done))))) (.one 9 (.one 3 (.val 15 (.one 16 (.val 17 (.one 18 .done)))))))))) (.alt 9 (.alt 3 (.alt 5 (.val 15 (.alt 11 (.one 16 (.val 17 (.one 18 .done))) (.one 16 (.one 11 (.val 17 (.one 18 .done)))))) (.one 11 (.one 5 (.val 15 (.one 16 (.val 17 (.one 18 .done))))))) (.alt 5 (.alt 3 (.val 15 (.alt 11 (.one 16 (.val 17 (.one 18 .done))) (.one 16 (.one 11 (.val 17 (.one 18 .done)))))) (.one 11 (.one 3 (.val 15 (.one 16 (.val 17 (.one 18 .done))))))) (.one 11 (.alt 3 (.one 5 (.val 15 (.one 16 (.val 17 (.one 18 .done))))) (.one 5 (.one 3 (.val 15 (.one 16 (.val 17 (.one 18 .done)))))))))) (.one 11 (.alt 3 (.alt 5 (.one 9 (.val 15 (.one 16 (.val 17 (.one 18 .done))))) (.one 9 (.one 5 (.val 15 (.one 16 (.val 17 (.one 18 .done))))))) (.alt 5 (.alt 3 (.one 9 (.val 15 (.one 16 (.val 17 (.one 18 .done))))) (.one 9 (.one 3 (.val 15 (.one 16 (.val 17 (.one 18 .done))))))) (.one 9 (.alt 3 (.one 5 (.val 15 (.one 16 (.val 17 (.one 18 .done))))) (.one 5 (.one 3 (.val 15 (.one 16 (.val 17 (.one 18 .done)))))))))))))))))))))))))))))) (F:=Iu.F) (eid:=0) (FX:=Iu.FX) (FR:=Iu.FR) (sh:=Td) Ga De TB mixed (by kernel_rfl) (by kernel_rfl) ⟨fun s=>by kernel_rfl,fun s=>by kernel_rfl,fun s=>by kernel_rfl,fun s=>by kernel_rfl,fun s=>by kernel_rfl,fun s=>by kernel_rfl,fun s=>by kernel_rfl,fun s=>by kernel_rfl,fun s=>by kernel_rfl,fun s=>by kernel_rfl,fun s=>by kernel_rfl,fun s=>by kernel_rfl,fun s=>by kernel_rfl,fun s=>by kernel_rfl,fun s=>by kernel_rfl,fun s=>by kernel_rfl,fun s=>by kernel_rfl,fun s=>by kernel_rfl,fun s=>by kernel_rfl,fun s=>by kernel_rfl,fun s=>by kernel_rfl,fun s=>by kernel_rfl,fun s=>by kernel_rfl,fun s=>by kernel_rfl,fun s=>by kernel_rfl,fun s=>by kernel_rfl,fun s=>by kernel_rfl,fun s=>by kernel_rfl,fun s=>by kernel_rfl,fun s=>by kernel_rfl,fun s=>by kernel_rfl,fun s=>by kernel_rfl,fun s=>by kernel_rfl,fun s=>by kernel_rfl,fun s=>by kernel_rfl,fun s=>by kernel_rfl,fun s=>by kernel_rfl,fun s=>by kernel_rfl,fun s=>by kernel_rfl,fun s=>by kernel_rfl,fun s=>by kernel_rfl,fun s=>by kernel_rfl,fun s=>by kernel_rfl,fun s=>by kernel_rfl,fun s=>by kernel_rfl,fun s=>by kernel_rfl,fun s=>by kernel_rfl,fun s=>by kernel_rfl,fun s=>by kernel_rfl,fun s=>by kernel_rfl,fun s=>by kernel_rfl,fun s=>by kernel_rfl,fun s=>by kernel_rfl,fun s=>by kernel_rfl,fun s=>by kernel_rfl,fun s=>by kernel_rfl,fun s=>by kernel_rfl,fun s=>by kernel_rfl,fun s=>by kernel_rfl,fun s=>by kernel_rfl,fun s=>by kernel_rfl,fun s=>by kernel_rfl,fun s=>by kernel_rfl,fun s=>by kernel_rfl,fun s=>by kernel_rfl,fun s=>by kernel_rfl,fun s=>by kernel_rfl,fun s=>by kernel_rfl,fun s=>by kernel_rfl,fun s=>by kernel_rfl,fun s=>by kernel_rfl,fun s=>by kernel_rfl,fun s=>by kernel_rfl,fun s=>by kernel_rfl,fun s=>by kernel_rfl,fun s=>by kernel_rfl,fun s=>by kernel_rfl,fun s=>by kernel_rfl,fun s=>by kernel_rfl,fun s=>by kernel_rfl,fun s=>by kernel_rfl,fun s=>by kernel_rfl,fun s=>by kernel_rfl,fun s=>by kernel_rfl,fun s=>by kernel_rfl,fun s=>by kernel_rfl,fun s=>by kernel_rfl,fun s=>by kernel_rfl,fun s=>by kernel_rfl,fun s=>by kernel_rfl,fun s=>by kernel_rfl,fun s=>by kernel_rfl,fun s=>by kernel_rfl,fun s=>by kernel_rfl,fun s=>by kernel_rfl,fun s=>by kernel_rfl,fun s=>by kernel_rfl,fun s=>by kernel_rfl,fun s=>by kernel_rfl,fun s=>by kernel_rfl,fun s=>by kernel_rfl,fun s=>by kernel_rfl,fun s=>by kernel_rfl,fun s=>by kernel_rfl,fun s=>by kernel_rfl,fun s=>by kernel_rfl,fun s=>by kernel_rfl,fun s=>by kernel_rfl,fun s=>by kernel_rfl,fun s=>by kernel_rfl,fun s=>by kernel_rfl,fun s=>by kernel_rfl,fun s=>by kernel_rfl,fun s=>by kernel_rfl,fun s=>by kernel_rfl,fun s=>by kernel_rfl,fun s=>by kernel_rfl,fun s=>by kernel_rfl,fun s=>by kernel_rfl,fun s=>by kernel_rfl,fun s=>by kernel_rfl,fun s=>by kernel_rfl,fun s=>by kernel_rfl,fun s=>by kernel_rfl,fun s=>by kernel_rfl,fun s=>by kernel_rfl,fun s=>by kernel_rfl,fun s=>by kernel_rfl,fun s=>by kernel_rfl,fun s=>by kernel_rfl,fun s=>by kernel_rfl,fun s=>by kernel_rfl,fun s=>by kernel_rfl,fun s=>by kernel_rfl,fun s=>by kernel_rfl,fun s=>by kernel_rfl,fun s=>by kernel_rfl,fun s=>by kernel_rfl,fun s=>by kernel_rfl,fun s=>by kernel_rfl,fun s=>by kernel_rfl,fun s=>by kernel_rfl,fun s=>by kernel_rfl,fun s=>by kernel_rfl,trivial⟩
theorem uT:GC Tryz.prog 66 ET:=Bw (G:=Bh) (c:=Tryz.f66.body.getD .skip) Ga De TB mixed Tryz.func66 (by kernel_rfl) Tryz.ntmps66 (Hl (G:=Bh) (n:=0) (m:=4) (by kernel_rfl) (by kernel_rfl) trivial (by kernel_rfl) ⟨⟨⟨⟨trivial,Ei (L0:=Fu) (by kernel_rfl) uP⟩,Ei (L0:=Gu) (by kernel_rfl) uQ⟩,Ei (L0:=Hu) (by kernel_rfl) uR⟩,Ei (L0:=Iu) (by kernel_rfl) uS⟩) [5] (fun s=>by kernel_rfl)
def Vr:Cb:=⟨⟨[4,6,23,24,25],⟨[.c (.one (.ptr 0 0)),.c (.one (.ptr 1 0)),.c (.one (.b (.sl false .ev))),zc,zc],[.box 39 [zi,(.b (.sl true .lk)),(.b (.sl true .bool)),(.b (.sl true .int)),(.b (.sl true .db)),(.b (.sl true .pk))],.box 39 [zi,(.own 2),(.own 3),(.own 4),(.own 5),(.own 6)],.row 114 .lk,.row 4 .bool,.row 3 .int,.row 86 .udb,.row 112 .upk]⟩,[.ls .ev,.int,.int,.int,.ls .lk,.ls .bool,.ls .int,.ls .db,.ls .pk,.int,.ls .lk,.ls .bool,.ls .int,.ls .udb,.ls .upk]⟩,0,⟨[4,6],⟨[.c (.one (.ptr 0 0)),.c (.one (.ptr 1 0))],[.box 39 [zi,(.b (.sl true .lk)),(.b (.sl true .bool)),(.b (.sl true .int)),(.b (.sl true .db)),(.b (.sl true .pk))],.box 39 [zi,(.own 2),(.own 3),(.own 4),(.own 5),(.own 6)],.row 114 .lk,.row 4 .bool,.row 3 .int,.row 86 .udb,.row 112 .upk]⟩,[.int,.ls .lk,.ls .bool,.ls .int,.ls .db,.ls .pk,.int,.ls .lk,.ls .bool,.ls .int,.ls .udb,.ls .upk]⟩,zx,lp Cz Fa⟩
def Z7:Pa:=⟨⟨[.c (.agg [zi,(.b (.sl true .lk))]),.c (.one (.b (.sl false .ev)))],[]⟩,[.int,.ls .lk,.ls .ev],⟨[.tup [(.agg [zi,(.own 0),(.own 1),(.own 2),(.own 3),(.own 4)]),(.one (.b .bool))]],[.row 114 .lk,.row 4 .bool,.row 3 .int,.row 86 .udb,.row 112 .upk]⟩,[.int,.bool,.ls .lk,.ls .bool,.ls .int,.ls .udb,.ls .upk],FP⟩
def UB:La:=Ta Dj [(65,[],IS),(66,[],ET)] 33 0 [] [(5,Vr)]
theorem A8:Na Tryz.prog UB.Γ:=Sa (l:=[(65,[],IS),(66,[],ET)]) ⟨⟨tJ,Tryz.call65⟩,⟨⟨uT,Tryz.call66⟩,trivial⟩⟩
theorem uU:Kb Tryz.prog 0 33 (Gb (Tryz.f24.body.getD .skip) 0) Vr:=Qb (G:=UB) (F:=Vr.F) (eid:=Vr.eid) (FX:=Vr.FX) (FR:=Vr.FR) (B:=Cz) (n:=Fa) Ga De A8 mixed (Ia (G:=UB) (n:=0) (by kernel_rfl) (by kernel_rfl) trivial (by kernel_rfl)) (fun s=>by kernel_rfl)
theorem uV:GC Tryz.prog 24 Z7:=Ua (G:=UB) (c:=Tryz.f24.body.getD .skip) Ga De A8 mixed Tryz.func24 (by kernel_rfl) Tryz.ntmps24 (Ia (G:=UB) (n:=1) (by kernel_rfl) (by kernel_rfl) ⟨trivial,Rb (id:=5) (L0:=Vr) (by kernel_rfl) (by kernel_rfl) uU⟩ (by kernel_rfl)) (fun s=>by kernel_rfl)
end
section
open Go.RowKit
section
variable {w:Wd}
def zW:Wd:=⟨0,[],[],[],[],[]⟩
def Jj (b:Bool) (w:Wd):Int×Bool×List Lk×List Bool×List Int×List (List Ls)×List Pk×Unit:=(w.n,b,w.ls,w.up,w.sq,w.db,w.net,())
end
end
section
open Go.RowKit
def Tn (W:Wl):List Ca:=[.row 114 .lk W.2.1,.row 4 .bool W.2.2.1,.row 3 .int W.2.2.2.1,.row 86 .db W.2.2.2.2.1,.row 112 .pk W.2.2.2.2.2]
theorem uW {w':World} {W:Wl} {v:Value} {β:List (Nat×Nat)} (hh:Ib w' (Da (Tn W) β) (fun _=>False) (Tn W) β) (hc:Cv w' (Da (Tn W) β) (fun _=>False) (Tn W) β (Dw W.1) v):Rw w' 0 w'.heap.size W v:=by
  obtain ⟨us,rfl,h3⟩:=hc
  obtain ⟨u0,r,rfl,g0,h3⟩:=h3.cons_inv
  obtain ⟨u1,r,rfl,g1,h3⟩:=h3.cons_inv
  obtain ⟨u2,r,rfl,g2,h3⟩:=h3.cons_inv
  obtain ⟨u3,r,rfl,g3,h3⟩:=h3.cons_inv
  obtain ⟨u4,r,rfl,g4,h3⟩:=h3.cons_inv
  obtain ⟨u5,r,rfl,g5,h3⟩:=h3.cons_inv
  obtain rfl:=h3.nil_inv
  have rd:∀{k:Nat} {t:TypeId} {τ:Ty} {xs:List (El τ)} {u:Value},(Tn W)[k]? =some (.row t τ xs)→C1 w' (Da (Tn W) β) (fun _=>False) (Tn W) β (.own k) u→Ri w' (fun b=>b<0∨w'.heap.size≤b) (fun _=>False) (.sl false τ xs) u:=fun {k t τ xs u} hk hc =>
    Ri.keep (w:=w') (w':=w') (fun _ _ _=>rfl) (Nat.le_refl _) (fun b hb _ h=>by omega) (fun _ _ _ h=>h) (UL (E':=fun _=>False) hh hk (fun _ _ h=>h) (fun _ _ _ _ h=>h) hc)
  have g0:Ri w' _ _ (iI W.1) u0:=g0
  cases g0
  exact ⟨_,rfl,F2.cons (Ri.s _) (F2.cons (rd (k:=0) rfl g1) (F2.cons (rd (k:=1) rfl g2) (F2.cons (rd (k:=2) rfl g3) (F2.cons (rd (k:=3) rfl g4) (F2.cons (rd (k:=4) rfl g5) F2.nil)))))⟩
theorem Ju {w:World} {E:Nat→Prop} {τ:Ty} {xs:List (El τ)} {u:Value} (h:Ri w E (fun _=>False) (.sl false τ xs) u):Ri w E (fun _=>False) (.sl true τ xs) u:=by
  cases h with
  |sl g τ xs A cap b o us hA hcap hl hc hr=>exact .sl true τ xs A cap b o us (fun h=>⟨(hA h).1,(hA h).2.1,(hA h).2.2.1,fun _ h=>h⟩) hcap hl hc hr
def uX (W:Wl):PV:=.agg [.im (iI W.1),.im (.sl true .lk W.2.1),.im (.sl true .bool W.2.2.1),.im (.sl true .int W.2.2.2.1),.im (.sl true .db W.2.2.2.2.1),.im (.sl true .pk W.2.2.2.2.2)]
theorem Rw.argT {w:World} {lo hi:Nat} {W:Wl} {v:Value} (h:Rw w lo hi W v):Cv w (Da [] []) (fun _=>False) [] [] (uX W) v:=by
  obtain ⟨us,rfl,h3⟩:=h.arg
  obtain ⟨u0,r,rfl,g0,h3⟩:=h3.cons_inv
  obtain ⟨u1,r,rfl,g1,h3⟩:=h3.cons_inv
  obtain ⟨u2,r,rfl,g2,h3⟩:=h3.cons_inv
  obtain ⟨u3,r,rfl,g3,h3⟩:=h3.cons_inv
  obtain ⟨u4,r,rfl,g4,h3⟩:=h3.cons_inv
  obtain ⟨u5,r,rfl,g5,h3⟩:=h3.cons_inv
  obtain rfl:=h3.nil_inv
  exact ⟨_,rfl,F2.cons g0 (F2.cons (Ju g1) (F2.cons (Ju g2) (F2.cons (Ju g3) (F2.cons (Ju g4) (F2.cons (Ju g5) F2.nil)))))⟩
theorem TH {α:Type} (c:α→Nat) (m:Nat):∀xs:List α,(∀x∈xs,c x≤m)→Bc c xs≤m*xs.length
  |[],_=>by simp [Bc]
  |x::r,h=>by
   have h1:=h x (List.mem_cons_self ..)
   have h2:=TH c m r fun y hy=>h y (List.mem_cons_of_mem _ hy)
   rw [Bc,List.length_cons,Nat.mul_succ]
   omega
theorem uY {d:List Ls} (h:Je d):∀l∈d,l.e.length≤8:=fun l hl=>by
  obtain ⟨i,hi,e⟩:=List.getElem_of_mem hl
  have h1:=(h i hi).1
  rw [Yd hi,e] at h1
  exact h1.len
theorem uZ {w:Wd} (h:WV w Pf):FW (lw w):=by
  have h1:=h.lsl
  have h2:=h.up
  have h3:=h.sq
  have h4:=h.db
  have h5:=h.net
  have h6:=h.nn
  have hd:∀d∈w.db,d.length≤8∧∀l∈d,l.e.length≤8:=fun d hd=>by
    obtain ⟨i,hi,e⟩:=List.getElem_of_mem hd
    have h7:=h.ok i hi
    have e2:Eb w.db i=d:=by simp [Eb,List.getD,hi,e]
    rw [e2] at h7
    exact ⟨h7.len,uY h7⟩
  have hp:∀p∈w.net,p.p.e.length≤8:=fun p hp=>(h.poss _ (.inr ⟨p,hp,rfl⟩)).1.len
  have c1:Kg w.db≤144*w.db.length:=TH _ _ _ fun d hdm=>by
    have:=TH In 18 d fun l hl=>by have:=(hd d hdm).2 l hl;unfold In;omega
    rw [CO]
    have:=(hd d hdm).1
    omega
  have c2:Wh w.net≤19*w.net.length:=TH _ _ _ fun p hpm=>by
    have:=hp p hpm
    unfold Gh;omega
  refine ⟨⟨by show w.ls.length≤_;omega,by show w.up.length≤_;omega,by show w.sq.length≤_;omega,by show w.db.length≤_;omega,by show w.net.length≤_;omega,fun d hdm=>⟨by have:=(hd d hdm).1;omega,fun l hl=>by have:=(hd d hdm).2 l hl;omega⟩,fun p hpm=>by have:=hp p hpm;omega⟩,?_⟩
  unfold Vg lw
  dsimp only
  omega
theorem vA:FW (lw zW):=⟨⟨Nat.zero_le _,Nat.zero_le _,Nat.zero_le _,Nat.zero_le _,Nat.zero_le _,(fun d hd=>by cases hd),(fun p hp=>by cases hp)⟩,Nat.zero_le _⟩
end
section
open Go.RowKit
section
def Ue (ls:List Lk) (N k:Nat):List Ls:=(List.range k).map fun i:Nat=>(⟨i,1,Wc ls N i⟩:Ls)
theorem B8 (ls:List Lk) (N k:Nat):Ue ls N (k+1)=Ue ls N k++[⟨(k:Nat),1,Wc ls N (k:Nat)⟩]:=by
  unfold Ue
  rw [List.range_succ,List.map_append];rfl
theorem FT (ls:List Lk) (N k:Nat):(Ue ls N k).length=k:=by simp [Ue]
theorem UH {α:Type} (k:Nat) (a:α):List.replicate (k+1) a=List.replicate k a++[a]:=List.replicate_succ'
noncomputable def Ku (n:Int) (ls:List Lk):Wd:=if gv n ls=true then Se n ls else zW
theorem GT {n:Int} {ls:List Lk} (g:GV n ls):WV (Se n ls) Pf:=by
  have h1:=g.1
  obtain ⟨N,rfl⟩:=Int.eq_ofNat_of_zero_le (show 0≤n by omega)
  exact mM g
theorem vB (n:Int) (ls:List Lk) (hl:Fb ls):SG (n,ls,())=some (Jj (gv n ls) (Ku n ls)):=by
  unfold SG Ku
  dsimp only
  rw [kB n ls hl]
  cases hg:gv n ls with
  |false=>exact Aa.out (Pb rfl (Aa.gd rfl (.some rfl)))
  |true =>
   have g:=Kw hg
   have h1:=g.1
   have h8:=g.2.1
   have h14:=g.2.2.1
   obtain ⟨N,rfl⟩:=Int.eq_ofNat_of_zero_le (show 0≤n by omega)
   have b3:Iy ((N:Int),ls,0,[],[],[],[],[],())=some (.inl ((N:Int),ls,0,[],[],[],[],[],(N:Int),ls,List.replicate ls.length true,List.replicate N (1:Int),[],[],())):=by
     unfold Iy
     refine Aa.out (Pb (mQ _ ls (by omega)) ?_)
     refine Pb (r:=(List.replicate ls.length true,())) ?_ (Pb (r:=(List.replicate N (1:Int),())) ?_ (.some rfl))
     ·simp only [Oa]
      unfold AN
      exact Aa.out (Aa.gd (decide_eq_true (by dsimp only;omega)) (.some rfl))
     ·unfold SM
      exact Aa.out (Aa.gd (decide_eq_true (by dsimp only;omega)) (.some rfl))
   refine Aa.out (Pb rfl (Aa.no rfl (Pb b3 ?_)))
   dsimp only
   rw [if_pos rfl]
   refine Aa.bnd (R:=fun r=>match r with| .inl x=>x=(0,[],[],[],[],[],(N:Int),ls,List.replicate ls.length true,List.replicate N (1:Int),List.replicate N (Ue ls N N),[],())| .inr _=>False) ?_ ?_
   ·refine Aa.count N (fun k t=>t=((N:Int),(k:Int),(N:Int),ls,0,[],[],[],[],[],(N:Int),ls,List.replicate ls.length true,List.replicate N (1:Int),List.replicate k (Ue ls N N),[],())) ?_ (Nat.zero_le _) (Rc (by omega)) rfl
    rintro k t hk rfl
    by_cases hlt:k<N
    ·simp only [Ky]
     refine Aa.gd (decide_eq_true (by omega)) (Aa.bnd (R:=fun r=>match r with| .inl x=>x=((N:Int),(k:Int),(N:Int),ls,0,[],[],[],[],[],(N:Int),Ue ls N N,ls,List.replicate ls.length true,List.replicate N (1:Int),List.replicate k (Ue ls N N),[],())| .inr _=>False) ?_ ?_)
     ·refine Aa.count N (fun j t=>t=((N:Int),(k:Int),(N:Int),(j:Int),(N:Int),ls,0,[],[],[],[],[],(N:Int),Ue ls N j,ls,List.replicate ls.length true,List.replicate N (1:Int),List.replicate k (Ue ls N N),[],())) ?_ (Nat.zero_le _) (Rc (by omega)) rfl
      rintro j t hj rfl
      have hrl:=FT ls N j
      by_cases hjl:j<N
      ·simp (disch:=omega) only [Jy,Q3 g,Option.bind_some,Ya]
       refine Aa.gd (decide_eq_true (by omega)) (Aa.gd (decide_eq_true (by simp only [List.length_singleton];omega)) (.some ⟨hjl,?_⟩))
       rw [B8];rfl
      ·obtain rfl:j=N:=by omega
       unfold Jy
       exact Aa.no (dF (by first|omega|(dsimp only;omega))) (.some rfl)
     ·rintro (r|r) hr
      case inr=>exact hr.elim
      obtain rfl:=hr
      simp (disch:=omega) only [Ya]
      refine Aa.gd (decide_eq_true (by simp only [List.length_singleton,List.length_replicate];omega)) (.some ⟨hlt,?_⟩)
      rw [UH k (Ue ls N N)];rfl
    ·obtain rfl:k=N:=by omega
     unfold Ky
     exact Aa.no (dF (by first|omega|(dsimp only;omega))) (.some rfl)
   rintro (r|r) hr
   case inr=>exact hr.elim
   obtain rfl:=hr
   exact .some rfl
theorem vC {N k:Nat} (ls:List Lk) (h8:N≤8) (hk:k≤8):Df (Ue ls N k):=by
  refine ⟨by have:=FT ls N k;unfold Sm;omega,fun l hl=>?_⟩
  unfold Ue at hl
  obtain ⟨i,hi,rfl⟩:=List.mem_map.1 hl
  have:=lP (ls:=ls) (N:=N) (i:Int)
  unfold Sm;dsimp only;omega
theorem vD (n:Int) (ls:List Lk) (hl:Fb ls):TG (n,ls,())=some (Jj (gv n ls) (Ku n ls)):=by
  unfold TG Ku
  dsimp only
  rw [IN n ls hl]
  cases hg:gv n ls with
  |false=>exact Aa.out (Pb rfl (Aa.gd rfl (.some rfl)))
  |true =>
   have g:=Kw hg
   have h1:=g.1
   have h8:=g.2.1
   have h14:=g.2.2.1
   obtain ⟨N,rfl⟩:=Int.eq_ofNat_of_zero_le (show 0≤n by omega)
   refine Aa.out (Pb rfl (Aa.no rfl (Pb (S4 _ ls (by omega)) ?_)))
   dsimp only
   rw [if_pos rfl]
   refine Aa.bnd (R:=fun r=>match r with| .inl x=>x=((N:Int),ls,0,[],[],[],[],[],Ue ls N N,(N:Int),ls,[],List.replicate N (1:Int),[],[],())| .inr _=>False) ?_ ?_
   ·refine Aa.count N (fun k t=>t=((k:Int),(N:Int),ls,0,[],[],[],[],[],Ue ls N k,(N:Int),ls,[],List.replicate k (1:Int),[],[],())) ?_ (Nat.zero_le _) (Rc (by omega)) rfl
    rintro k t hk rfl
    have hrl:=FT ls N k
    by_cases hlt:k<N
    ·simp (disch:=omega) only [Ly,T3 g,Option.bind_some,Ya]
     refine Aa.gd (decide_eq_true (by omega)) (Aa.gd (decide_eq_true (by simp only [List.length_singleton];omega)) (Aa.gd (decide_eq_true (by simp only [List.length_singleton,List.length_replicate];omega)) (.some ⟨hlt,?_⟩)))
     rw [B8,UH k (1:Int)];rfl
    ·obtain rfl:k=N:=by omega
     unfold Ly
     exact Aa.no (dF (by first|omega|(dsimp only;omega))) (.some rfl)
   rintro (r|r) hr
   case inr=>exact hr.elim
   obtain rfl:=hr
   dsimp only
   refine Aa.bnd (R:=fun r=>match r with| .inl x=>x=((N:Int),ls,0,[],[],[],[],[],(N:Int),ls,[],List.replicate N (1:Int),List.replicate N (Ue ls N N),[],())| .inr _=>False) ?_ ?_
   ·refine Aa.count N (fun k t=>t=((k:Int),(N:Int),ls,0,[],[],[],[],[],Ue ls N N,(N:Int),ls,[],List.replicate N (1:Int),List.replicate k (Ue ls N N),[],())) ?_ (Nat.zero_le _) (Rc (by omega)) rfl
    rintro k t hk rfl
    by_cases hlt:k<N
    ·simp (disch:=omega) only [My,Qy _ (vC ls (show N≤8 by omega) (show N≤8 by omega)),Option.bind_some,Ya]
     refine Aa.gd (decide_eq_true (by omega)) (Aa.gd (decide_eq_true (by simp only [List.length_singleton,List.length_replicate];omega)) (.some ⟨hlt,?_⟩))
     rw [UH k (Ue ls N N)];rfl
    ·obtain rfl:k=N:=by omega
     unfold My
     exact Aa.no (dF (by first|omega|(dsimp only;omega))) (.some rfl)
   rintro (r|r) hr
   case inr=>exact hr.elim
   obtain rfl:=hr
   dsimp only
   refine Aa.bnd (R:=fun r=>match r with| .inl x=>x=(0,[],[],[],[],[],(N:Int),ls,List.replicate ls.length true,List.replicate N (1:Int),List.replicate N (Ue ls N N),[],())| .inr _=>False) ?_ ?_
   ·refine Aa.count ls.length (fun k t=>t=((k:Int),(N:Int),ls,0,[],[],[],[],[],(N:Int),ls,List.replicate k true,List.replicate N (1:Int),List.replicate N (Ue ls N N),[],())) ?_ (Nat.zero_le _) (Rc (by omega)) rfl
    rintro k t hk rfl
    by_cases hlt:k<ls.length
    ·simp (disch:=omega) only [Ny,Ya,Oa]
     refine Aa.gd (decide_eq_true (by omega)) (Aa.gd (decide_eq_true (by simp only [List.length_singleton,List.length_replicate];omega)) (.some ⟨hlt,?_⟩))
     rw [UH k true];rfl
    ·obtain rfl:k=ls.length:=by omega
     unfold Ny
     simp only [Oa]
     exact Aa.no (dF (by first|omega|(dsimp only;omega))) (.some rfl)
   rintro (r|r) hr
   case inr=>exact hr.elim
   obtain rfl:=hr
   exact .some rfl
def Lu (es:List Ev) (i:Nat):Ev:=es.getD i ⟨0,0⟩
theorem VH (es:List Ev) (i:Nat):Ba .ev es i=Lu es i:=by
  induction es generalizing i with
  |nil=>rfl
  |cons z r ih=>cases i with
   |zero=>rfl
   |succ i=>exact (ih i).trans (by simp [Lu])
def Mk (w:Wd) (es:List Ev):Wd:=es.foldl (fun v e=>Te v e.k e.a) w
theorem C8 {w:Wd} {es:List Ev} {k:Nat} (h:k<es.length):Mk w (es.take (k+1))=Te (Mk w (es.take k)) (Lu es k).k (Lu es k).a:=by
  unfold Mk
  rw [List.take_add_one,List.getElem?_eq_getElem h,List.foldl_append]
  simp [Lu,List.getD,h]
theorem WH {w:Wd} (h:WV w Pf) (es:List Ev):WV (Mk w es) Pf:=by
  induction es generalizing w with
  |nil=>exact h
  |cons e r ih=>exact ih (mO h e.k e.a)
noncomputable def Fg (n:Int) (ls:List Lk) (es:List Ev):Bool:=gv n ls&&decide (es.length≤60)
noncomputable def Nk (n:Int) (ls:List Lk) (es:List Ev):Wd:=if Fg n ls es=true then Mk (Se n ls) es else zW
theorem XH {n:Int} {ls:List Lk} {es:List Ev} (h:Fg n ls es=false):(0,false,[],[],[],[],[],())=Jj (Fg n ls es) (Nk n ls es):=by
  unfold Nk;rw [h];rfl
theorem D8 {n:Int} {ls:List Lk} {es:List Ev} (h:Fg n ls es=true):Jj true (Mk (Se n ls) es)=Jj (Fg n ls es) (Nk n ls es):=by
  unfold Nk;rw [h];rfl
theorem vE (n:Int) (ls:List Lk) (es:List Ev) (hl:Fb ls):FP (n,ls,es,())=some (Jj (Fg n ls es) (Nk n ls es)):=by
  unfold FP
  refine Aa.out (Pb (vB n ls hl) ?_)
  dsimp only [Jj]
  unfold Ku
  cases hg:gv n ls with
  |false=>exact Aa.gd rfl (.some (XH (by unfold Fg;rw [hg];rfl)))
  |true =>
   have v:=GT (Kw hg)
   rw [if_pos rfl]
   simp only [Oa]
   refine Aa.no rfl (Aa.ite (fun hc=>.some (XH ?_)) (fun hc=>?_))
   ·have hc:=oT hc
    unfold Fg;rw [hg,dF (by omega)];rfl
   have hc:=oF hc
   have hp:Fg n ls es=true:=by unfold Fg;rw [hg,decide_eq_true (show es.length≤60 by omega)];rfl
   refine Aa.bnd (R:=fun r=>match r with| .inl x=>x=(0,[],[],[],[],[],wt (Mk (Se n ls) es))| .inr _=>False) ?_ ?_
   ·refine Aa.count es.length (fun k t=>t=(es,(es.length:Int),(k:Int),0,[],[],[],[],[],wt (Mk (Se n ls) (es.take k)))) ?_ (Nat.zero_le _) (Rc (by omega)) rfl
    rintro k t hk rfl
    by_cases hlt:k<es.length
    ·unfold Cz
     simp (disch:=omega) only [VH,Xa,Ya]
     refine Aa.gd (decide_eq_true (by omega)) (Aa.gd (Ka (by omega) (by omega)) (Pb (nK (WH v (es.take k)) _ _) (.some ⟨hlt,?_⟩)))
     rw [C8 hlt];rfl
    ·obtain rfl:k=es.length:=by omega
     unfold Cz
     refine Aa.no (dF (by first|omega|(dsimp only;omega))) (.some ?_)
     rw [List.take_length]
   rintro (r|r) hr
   case inr=>exact hr.elim
   obtain rfl:=hr
   exact .some (D8 hp)
theorem vG (n:Int) (ls:List Lk) (es:List Ev) (hl:Fb ls):EP (n,ls,es,())=some (Jj (Fg n ls es) (Nk n ls es)):=by
  unfold EP
  refine Aa.out (Pb (vD n ls hl) ?_)
  dsimp only [Jj]
  unfold Ku
  cases hg:gv n ls with
  |false=>exact Aa.gd rfl (.some (XH (by unfold Fg;rw [hg];rfl)))
  |true =>
   have v:=GT (Kw hg)
   rw [if_pos rfl]
   simp only [Oa]
   refine Aa.no rfl (Aa.ite (fun hc=>.some (XH ?_)) (fun hc=>?_))
   ·have hc:=oT hc
    unfold Fg;rw [hg,dF (by omega)];rfl
   have hc:=oF hc
   have hp:Fg n ls es=true:=by unfold Fg;rw [hg,decide_eq_true (show es.length≤60 by omega)];rfl
   refine Aa.bnd (R:=fun r=>match r with| .inl x=>x=(0,[],[],[],[],[],wt (Mk (Se n ls) es))| .inr _=>False) ?_ ?_
   ·refine Aa.count es.length (fun k t=>t=(es,(k:Int),0,[],[],[],[],[],wt (Mk (Se n ls) (es.take k)))) ?_ (Nat.zero_le _) (Rc (by omega)) rfl
    rintro k t hk rfl
    by_cases hlt:k<es.length
    ·unfold Bz
     simp (disch:=omega) only [VH,Xa,Ya,Oa]
     refine Aa.gd (decide_eq_true (by omega)) (Aa.gd (Ka (by omega) (by omega)) (Pb (nJ (WH v (es.take k)) _ _) (.some ⟨hlt,?_⟩)))
     rw [C8 hlt];rfl
    ·obtain rfl:k=es.length:=by omega
     unfold Bz
     simp only [Oa]
     refine Aa.no (dF (by first|omega|(dsimp only;omega))) (.some ?_)
     rw [List.take_length]
   rintro (r|r) hr
   case inr=>exact hr.elim
   obtain rfl:=hr
   dsimp only [wt]
   exact Pb (GH (WH v es).sm) (.some (D8 hp))
end
end
end Go.Proofs.YtknkhdjhongklaaGreat
section
namespace Go.Proofs.YtknkhdjhongklaaGreat
open Go.RowKit
structure wE (b:List Int):Prop where
  len:b.length≤2000
  rng:∀i,0≤iz b i∧iz b i≤255
structure Fm (n a m:Int) (l:List Lk):Prop where
  pw:l.Pairwise Re
  ok:∀x∈l,Lg n x
  lt:∀x∈l,x.a<a∨x.a=a∧x.b<m
  len:l.length≤14
theorem Fm.skip {n a m:Int} {l:List Lk} (h:Fm n a m l):Fm n a (m+1) l:=⟨h.pw,h.ok,fun x hx=>by have:=h.lt x hx;omega,h.len⟩
theorem Fm.app {n a m c:Int} {l:List Lk} (h:Fm n a m l) (h0:0≤a) (h1:a<m) (h2:m<n) (hc:1≤c∧c≤20) (hl:l.length<14):Fm n a (m+1) (l++[⟨a,m,c⟩]):=by
  refine ⟨?_,fun x hx=>?_,fun x hx=>?_,by simp;omega⟩
  ·rw [List.pairwise_append]
   refine ⟨h.pw,by simp,fun x hx y hy=>?_⟩
   obtain rfl:=List.mem_singleton.1 hy
   have:=h.lt x hx
   unfold Re
   exact this
  ·rcases List.mem_append.1 hx with hx|hx
   ·exact h.ok x hx
   ·obtain rfl:=List.mem_singleton.1 hx
    exact ⟨h0,h1,h2,hc.1,hc.2⟩
  ·rcases List.mem_append.1 hx with hx|hx
   ·have:=h.lt x hx
    omega
   ·obtain rfl:=List.mem_singleton.1 hx
    dsimp only
    omega
theorem Fm.row {n a m m':Int} {l:List Lk} (h:Fm n a m l):Fm n (a+1) m' l:=⟨h.pw,h.ok,fun x hx=>by have:=h.lt x hx;omega,h.len⟩
end Go.Proofs.YtknkhdjhongklaaGreat
namespace Go.Proofs.YtknkhdjhongklaaGreat
open Go.RowKit
end Go.Proofs.YtknkhdjhongklaaGreat
namespace Go.Proofs.YtknkhdjhongklaaGreat
open Go.RowKit
end Go.Proofs.YtknkhdjhongklaaGreat
end
namespace Go.Proofs.YtknkhdjhongklaaGreat
section
open Go.RowKit
def FL (ls:List Lk):Prop:=ls.length≤16777216
theorem vH:DM Tryz.prog 12 FL:=fun w lo hi lo' hi' g a b hf ha hb =>
  (Zj I5 (s:=(g.1,g.2,g.1,g.2,())) (r:=(true,())) (J3 g.1 g.2 (by unfold FL at hf;unfold Fb;omega)) (ds:=[Jw g,Jw g]) rfl (d:=.im (.s (.bool true))) (h':=[]) rfl (args:=[a,b]) (F2.cons ha.arg (F2.cons hb.arg F2.nil)) (Ah _ _ _)).mono fun ex w' ⟨u,β',h1,h2,h3,h4⟩=>by
    have h4:Ri w' _ _ (.s (.bool true)) u:=h4
    cases h4
    exact ⟨h1,h2.below⟩
theorem vI:EM Tryz.prog 15 FL (Bk 1):=fun w lo hi g a hf ⟨u,ha,h0,b,c,h1,h2⟩=>by
  subst ha
  unfold FL at hf
  refine (F6 w _ g.1 g.2 b c u 1 (by omega) (by omega) hf h1).mono ?_
  rintro e w' ⟨rfl,M⟩
  obtain ⟨q1,q2⟩:=MR.mark rfl h0 h2 M
  exact ⟨rfl,⟨u,rfl,q1⟩,q2⟩
end
section
open Go.RowKit
theorem vJ:F0 Tryz.prog 22 FL:=fun w lo hi g a hf ha =>
  (Zj oK (s:=(g.1,g.2,())) (r:=(g.1,g.2,())) (kU g.1 g.2 hf) (ds:=[Jw g]) rfl (d:=XZ g.1) (h':=[.row 114 .lk g.2]) rfl (args:=[a]) (F2.cons ha.arg F2.nil) (Ah _ _ _)).mono fun ex w' ⟨u,β',h1,h2,h3,h4⟩=>⟨u,h1,iD h2 h3 h4,h2.below⟩
theorem vK (g:Int×List Lk) (hm:Og g.2):C0 Tryz.prog 19 g (fun z=>0≤z→z≤1048576∧FL g.2):=fun w lo hi a ha=>by
  obtain ⟨⟨z,_⟩,h1,h2⟩:=nS g.1 g.2 1048576 hm ⟨by omega,by omega⟩
  refine (Zj nY (s:=(g.1,g.2,1048576,())) (r:=(z,())) h1 (ds:=[Jw g,.im (iI 1048576)]) rfl (d:=.im (iI z)) (h':=[]) rfl (args:=[a,.int .i64 1048576]) (F2.cons ha.arg (F2.cons (Ri.s _) F2.nil)) (Ah _ _ _)).mono fun ex w' ⟨u,β',h1,h3,h4,h5⟩=>?_
  have h5:Ri w' _ _ (iI z) u:=h5
  cases h5
  refine ⟨z,h1,fun h0=>?_,h3.below⟩
  rcases h2 with h2|⟨z',h2,h6,h7,h8⟩
  ·injection h2 with h2
   omega
  ·injection h2 with h2
   subst h2
   exact ⟨by omega,by unfold FL;omega⟩
def IT (g:Int×List Lk):PV:=.agg [.im (iI g.1),.im (.sl true .lk g.2)]
theorem RG.argT {w:World} {lo hi:Nat} {g:Int×List Lk} {v:Value} (h:RG w lo hi g v):Cv w (Da [] []) (fun _=>False) [] [] (IT g) v:=by
  obtain ⟨u,rfl,h⟩:=h
  exact ⟨[.int .i64 g.1,u],rfl,F2.cons (Ri.s _) (F2.cons (Ju h.none) F2.nil)⟩
theorem E8 {w:World} {E X:Nat→Prop} {h:List Ca} {β:List (Nat×Nat)} {d:PV} {b:Bool} {u:Value} {cs:List PV} (hd:d=.agg cs) (hc:Cv w E X h β (.tup [d,.im (.s (.bool b))]) u):∃v,u=.tuple #[v,.bool b]∧Cv w E X h β d v:=by
  subst hd
  obtain ⟨us,rfl,h3⟩:=hc
  obtain ⟨x0,r,rfl,g0,h3⟩:=h3.cons_inv
  obtain ⟨x1,r,rfl,g1,h3⟩:=h3.cons_inv
  obtain rfl:=h3.nil_inv
  have g1:Ri w _ _ (.s (.bool b)) x1:=g1
  cases g1
  exact ⟨x0,rfl,g0⟩
end
section
open Go.RowKit
theorem vL (ls:List Ev) (i:Nat) (v:Ev) (h:i<ls.length):Lu (ls.set i v) i=v:=by rw [←VH];exact Jt .ev ls i v h
def VB (q:Int):Ev:=⟨q,q+1⟩
theorem vM (xs:List Ev) (h:xs.length≤16777216):QN (xs,())=some (xs,()):=by
  unfold QN
  simp only [Oa,Xa]
  refine Aa.out (Aa.gd (by simp;omega) (sv (G3 xs _ h (fun k x out hx ho=>?_) (fun out=>?_)) (.some rfl)))
  ·have hk:=Nf hx
   simp (disch:=omega) only [Gx,Eg (τ:=.ev) hx,Xa,Ya,Oa,Option.bind_some,ON]
   exact Aa.out (Aa.gd (decide_eq_true (by omega)) (Aa.gd (Ka (by omega) (by omega)) (Aa.gd (Ka (by omega) (by omega)) (.some rfl))))
  ·simp only [Gx,Oa]
   exact Aa.out (Aa.no (dF (by omega)) (.some rfl))
theorem vN (xs:List Ev) (h:Fb xs):UN (xs,xs,())=some (true,()):=by
  unfold UN
  unfold Fb at h
  simp only [Oa]
  refine Aa.out (Aa.no (by simp) (sv (Hn xs h (fun k x hx=>?_) ?_) (.some rfl)))
  ·have hk:=Nf hx
   simp (disch:=omega) only [Mx,Eg (τ:=.ev) hx,Xa,Ya,Oa,Option.bind_some,decide_true,Bool.not_true,cond_false,RN]
   exact Aa.out (Aa.gd (decide_eq_true (by omega)) (Aa.gd (Ka (by omega) (by omega)) (Aa.gd (Ka (by omega) (by omega)) (.some rfl))))
  ·simp only [Mx,Oa]
   exact Aa.out (Aa.no (dF (by omega)) (.some rfl))
theorem vO (k:Int) (xs:List Ev) (h0:0≤k) (hx:xs.length≤4000000000) (hk:k+2*xs.length≤1000000000000):YN (k,xs,())=some (k+2*xs.length,Sc 2 VB k xs.length,()):=by
  unfold YN
  refine Aa.out (sv (Xx 2 VB xs k h0 hx hk (fun i q l hi hl hq0 hq1=>?_) (fun q l=>?_)) (.some rfl))
  ·simp (disch:=first|omega|assumption|(simp only [List.length_set];omega)) only [Tx,Xa,Ya,Oa,VH,vL,List.set_set,Int.add_assoc,Int.reduceAdd]
   refine Aa.out (Aa.gd (decide_eq_true (by omega)) (Aa.gd (Ka (by omega) (by omega)) (Aa.gd (Ka (by omega) (by (try simp only [List.length_set]);omega)) (.some ?_))))
   first|rfl|(simp [VB];done)|(unfold VB;congr 2;omega)
  ·simp only [Tx,Oa]
   exact Aa.out (Aa.no (dF (by omega)) (.some rfl))
theorem vP (xs:List Ev) (left:Int) (h:Og xs) (h1:0≤left∧left≤2000000):Aa (PN (xs,left,())) (D5 left xs.length (xs.length≤2000000)):=by
  unfold Og at h
  unfold PN
  simp (disch:=omega) only [Oa,Ya]
  refine Aa.ite (fun _=>.some (.inl rfl)) (fun h=>.some (.inr ⟨_,rfl,?_,?_,?_⟩))
  all_goals have h:=oF h
  all_goals omega
end
section
open Go.RowKit
def FE (es:List Ev):Prop:=es.length≤16777216
theorem vQ (es:List Ev) (hm:Og es):D0 Tryz.prog 20 es (fun z=>z≤1048576) (fun z=>0≤z→FE es):=fun w lo hi a z0 hz hz0 ha=>by
  obtain ⟨⟨z,_⟩,h1,h2⟩:=vP es z0 hm ⟨hz0,by omega⟩
  refine (Zj pE (s:=(es,z0,())) (r:=(z,())) h1 (ds:=[.im (.sl false .ev es),.im (iI z0)]) rfl (d:=.im (iI z)) (h':=[]) rfl (args:=[a,.int .i64 z0]) (F2.cons ha.none (F2.cons (Ri.s _) F2.nil)) (Ah _ _ _)).mono fun ex w' ⟨u,β',h1,h3,h4,h5⟩=>?_
  have h5:Ri w' _ _ (iI z) u:=h5
  cases h5
  refine ⟨z,h1,fun h0=>?_,h3.below⟩
  rcases h2 with h2|⟨z',h2,h6,h7,h8⟩
  ·injection h2 with h2
   omega
  ·unfold FE;omega
theorem vR:G0 Tryz.prog 23 63 FE:=fun w lo hi es a hf ha =>
  (Zj pH (s:=(es,())) (r:=(es,())) (vM es hf) (ds:=[.im (.sl false .ev es)]) rfl (d:=.own 0) (h':=[.row 63 .ev es]) rfl (args:=[a]) (F2.cons ha.none F2.nil) (Ah _ _ _)).mono fun ex w' ⟨u,β',h1,h2,h3,h4⟩=>⟨u,h1,WZ rfl h2 h3 h4,h2.below⟩
theorem vS:K0 Tryz.prog 25 FE:=fun w lo hi lo' hi' es a b hf ha hb =>
  (Zj qA (s:=(es,es,())) (r:=(true,())) (vN es (by unfold FE at hf;unfold Fb;omega)) (ds:=[.im (.sl false .ev es),.im (.sl false .ev es)]) rfl (d:=.im (.s (.bool true))) (h':=[]) rfl (args:=[a,b]) (F2.cons ha.none (F2.cons hb.none F2.nil)) (Ah _ _ _)).mono fun ex w' ⟨u,β',h1,h2,h3,h4⟩=>by
    have h4:Ri w' _ _ (.s (.bool true)) u:=h4
    cases h4
    exact ⟨h1,h2.below⟩
abbrev F8 (k:Int) (xs:List Ev):List Ev:=Sc 2 VB k xs.length
theorem vT:O0 Tryz.prog 26 63 FE F8:=fun w lo hi es a k hf h0 hk ⟨q0,b,c,h1,h2⟩=>by
  unfold FE at hf
  refine (Hw qT (s:=(k,es,())) (r:=(k+2*es.length,F8 k es,())) (vO k es h0 (by omega) (by omega)) (d:=.own 0) rfl rfl rfl (Kh _ _ _ _) (fun h β=>Ah w h β) h1 (Iw h1)).mono ?_
  rintro e w' ⟨rfl,M1,M2⟩
  obtain ⟨q1,q2⟩:=MR.mark rfl q0 h2 (IE rfl M1 M2)
  exact ⟨rfl,⟨YZ _ _ _ _ _ _,q1.1,q1⟩,q2⟩
noncomputable def Un (g:Int×List Lk) (es:List Ev):Wl:=lw (Nk g.1 g.2 es)
noncomputable def Mu (g:Int×List Lk) (es:List Ev):Bool:=Fg g.1 g.2 es
theorem vU (g:Int×List Lk) (es:List Ev):FW (Un g es):=by
  unfold Un Nk
  split
  ·rename_i h
   exact uZ (WH (GT (Kw (by unfold Fg at h;rw [Bool.and_eq_true] at h;exact h.1))) es)
  ·exact vA
set_option maxHeartbeats 4000000 in
theorem vV:J0 Tryz.prog 24 FL FE Un Mu:=fun w lo hi lo' hi' g es a b hf hfe ha hb=>by
  have h0:Z7.sh (g.1,g.2,es,())=some (Jj (Mu g es) (Nk g.1 g.2 es)):=vE g.1 g.2 es (by unfold FL at hf;unfold Fb;omega)
  refine (Zj uV h0 (ds:=[IT g,.im (.sl false .ev es)]) rfl (d:=.tup [Dw (Un g es).1,.im (.s (.bool (Mu g es)))]) (h':=Pc (Un g es)) rfl (args:=[a,b]) (F2.cons ha.argT (F2.cons hb.none F2.nil)) (Ah _ _ _)).mono fun ex w' ⟨u,β',h1,h2,h3,h4⟩=>?_
  obtain ⟨v,rfl,h5⟩:=E8 rfl h4
  exact ⟨v,h1,gF h2 h3 h5,h2.below⟩
set_option maxHeartbeats 4000000 in
theorem vW:I0 Tryz.prog 21 FL FE Un Mu:=fun w lo hi lo' hi' g es a b hf hfe ha hb=>by
  have h0:W7.sh (g.1,g.2,es,())=some (Jj (Mu g es) (Nk g.1 g.2 es)):=vG g.1 g.2 es (by unfold FL at hf;unfold Fb;omega)
  refine (Zj uO h0 (ds:=[IT g,.im (.sl false .ev es)]) rfl (d:=.tup [Dw (Un g es).1,.im (.s (.bool (Mu g es)))]) (h':=Tn (Un g es)) rfl (args:=[a,b]) (F2.cons ha.argT (F2.cons hb.none F2.nil)) (Ah _ _ _)).mono fun ex w' ⟨u,β',h1,h2,h3,h4⟩=>?_
  obtain ⟨v,rfl,h5⟩:=E8 rfl h4
  exact ⟨v,h1,uW h3 h5,h2.below⟩
end
end Go.Proofs.YtknkhdjhongklaaGreat
