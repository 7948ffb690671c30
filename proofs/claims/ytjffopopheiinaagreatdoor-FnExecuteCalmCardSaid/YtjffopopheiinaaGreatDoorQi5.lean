/- Part 5 of the proof: KR SV KV ST KT Pb Pq Pr Ps Pv Py. -/
import Derived.Test.YtjffopopheiinaaGreatDoorQi4
set_option linter.unusedSimpArgs false
set_option linter.unusedVariables false
set_option maxRecDepth 100000
namespace Go.Proofs.YtjffopopheiinaaGreatDoor
section
open Go.RowKit
def NH:Oa:=⟨⟨[.c (.agg [zi,(.b (.sl false .lk))]),zc],[]⟩,[.int,.ls .lk,.int],⟨[.c (.one (.b .bool))],[]⟩,[.bool],GH⟩
def VZ:Ma:=Sa tab [(77,[],Sg),(43,[],Wr)] 15 0 [] []
theorem xW:Pa Tryz.prog VZ.Γ:=Ra (l:=[(77,[],Sg),(43,[],Wr)]) ⟨⟨Kp,Tryz.call77⟩,⟨⟨YW,Tryz.call43⟩,trivial⟩⟩
theorem fO:GC Tryz.prog 98 NH:=Ua (G:=VZ) (c:=Tryz.f98.body.getD .skip) Ga Ha xW mixed Tryz.func98 (by kernel_rfl) Tryz.ntmps98 (Ja (G:=VZ) (n:=0) (by kernel_rfl) (by kernel_rfl) trivial (by kernel_rfl)) (fun s=>by kernel_rfl)
def OH:Oa:=⟨⟨[zc,.c (.agg [zi,zi,zi]),.c (.one (.at_ [(.int .i64)] 0))],[]⟩,[.int,.int,.int,.int,.int],⟨[.c (.one (.b .bool))],[]⟩,[.bool],JP⟩
def WZ:Ma:=Sa tab [] 9 0 [] []
theorem xX:Pa Tryz.prog WZ.Γ:=Ra (l:=[]) trivial
theorem fP:GC Tryz.prog 166 OH:=Ua (G:=WZ) (c:=Tryz.f166.body.getD .skip) Ga Ha xX mixed Tryz.func166 (by kernel_rfl) Tryz.ntmps166 (Ja (G:=WZ) (n:=0) (by kernel_rfl) (by kernel_rfl) trivial (by kernel_rfl)) (fun s=>by kernel_rfl)
def Vn:Oa:=⟨⟨[zc,zc,.c (.one (.at_ [(.sl false .int)] 0))],[]⟩,[.int,.int,.ls .int],⟨[zc],[]⟩,[.int],fJ⟩
def XZ:Ma:=Sa tab [(104,[],VE)] 15 0 [(1,8,tk 8,[])] []
theorem xY:Pa Tryz.prog XZ.Γ:=Ra (l:=[(104,[],VE)]) ⟨⟨dY,Tryz.call104⟩,trivial⟩
theorem BQ:GC Tryz.prog 103 Vn:=Ua (G:=XZ) (c:=Tryz.f103.body.getD .skip) Ga Ha xY mixed Tryz.func103 (by kernel_rfl) Tryz.ntmps103 (Ja (G:=XZ) (n:=0) (by kernel_rfl) (by kernel_rfl) trivial (by kernel_rfl)) (fun s=>by kernel_rfl)
def YZ:Oa:=⟨⟨[.c (.agg [zi,(.b (.sl false .lk))]),zc],[]⟩,[.int,.ls .lk,.int],⟨[.c (.one (.b .bool))],[]⟩,[.bool],KP⟩
def ZZ:Ma:=Sa tab [(61,[],Dg),(33,[],Yi)] 15 0 [] []
theorem xZ:Pa Tryz.prog ZZ.Γ:=Ra (l:=[(61,[],Dg),(33,[],Yi)]) ⟨⟨Ln,Tryz.call61⟩,⟨⟨Zy,Tryz.call33⟩,trivial⟩⟩
theorem yA:GC Tryz.prog 151 YZ:=Ua (G:=ZZ) (c:=Tryz.f151.body.getD .skip) Ga Ha xZ mixed Tryz.func151 (by kernel_rfl) Tryz.ntmps151 (Ja (G:=ZZ) (n:=0) (by kernel_rfl) (by kernel_rfl) trivial (by kernel_rfl)) (fun s=>by kernel_rfl)
def Pz:Xa:=⟨⟨[1,2,3,4],⟨[zc,zc,zc,.c (.one (.ptr 0 0))],[.box 29 [zi,(.b (.sl false .lk))]]⟩,[.int,.int,.int,.int,.ls .lk]⟩,0,⟨[2,9,10,11],⟨[zc,.c (.one (.own 0)),.c (.one (.own 1)),.c (.one (.ptr 2 0))],[.row 3 .int,.row 3 .int,.box 60 [zi,zi,zi]]⟩,[.int,.ls .int,.ls .int,.int,.int,.int]⟩,zx,LP⟩
def PH:Oa:=⟨⟨[.c (.agg [zi,(.b (.sl false .lk))]),zc,zc,zc],[]⟩,[.int,.ls .lk,.int,.int,.int],⟨[.c (.one (.b .bool))],[]⟩,[.bool],HH⟩
def Qz:Ma:=Sa tab [(94,[],Zi)] 76 0 [(4,38,tk 38,[])] [(1,Pz)]
theorem fQ:Pa Tryz.prog Qz.Γ:=Ra (l:=[(94,[],Zi)]) ⟨⟨Az,Tryz.call94⟩,trivial⟩
theorem yB:Ae Tryz.prog 0 76 (Fc Qz.plan (Tryz.f101.body.getD .skip) 0).1 (Fc Qz.plan (Tryz.f101.body.getD .skip) 0).2 Pz:=Cp (G:=Qz) (n:=14) (ks:=[]) (t:=(.val 0 (.val 1 (.val 3 (.val 4 (.val 6 (.val 7 (.val 8 (.val 9 (.val 10 (.two 2 (.two 5 (.one 11 (.val 12 (.val 13 .done))) 11 (.one 5 (.val 12 (.val 13 .done)))) 11 (.one 2 (.one 5 (.val 12 (.val 13 .done))))))))))))))) (F:=Pz.F) (eid:=0) (FX:=Pz.FX) (FR:=Pz.FR) (sh:=LP) Ga Ha fQ mixed (by kernel_rfl) (by kernel_rfl) ⟨fun s=>by kernel_rfl,fun s=>by kernel_rfl,fun s=>by kernel_rfl,trivial⟩
theorem fR:GC Tryz.prog 101 PH:=Ua (G:=Qz) (c:=Tryz.f101.body.getD .skip) Ga Ha fQ mixed Tryz.func101 (by kernel_rfl) Tryz.ntmps101 (Bh (G:=Qz) (n:=0) (m:=1) (by kernel_rfl) (by kernel_rfl) trivial (by kernel_rfl) ⟨trivial,Bg (L0:=Pz) (by kernel_rfl) yB⟩) (fun s=>by kernel_rfl)
def B0:Oa:=⟨⟨[.c (.agg [zi,(.b (.sl false .lk))]),zc],[]⟩,[.int,.ls .lk,.int],⟨[.c (.agg [zi,(.own 0)])],[.row 60 .lk]⟩,[.int,.ls .lk],MP⟩
def C0:Ma:=Sa tab [] 19 0 [(1,11,[(1,true),(2,true),(3,true),(4,true),(6,true),(7,true),(8,true),(9,true),(10,true),(0,false),(5,false)],[])] []
theorem yC:Pa Tryz.prog C0.Γ:=Ra (l:=[]) trivial
theorem yD:GC Tryz.prog 150 B0:=Ua (G:=C0) (c:=Tryz.f150.body.getD .skip) Ga Ha yC mixed Tryz.func150 (by kernel_rfl) Tryz.ntmps150 (Ja (G:=C0) (n:=0) (by kernel_rfl) (by kernel_rfl) trivial (by kernel_rfl)) (fun s=>by kernel_rfl)
def QH:Oa:=⟨⟨[zc,.c (.one (.at_ [(.int .i64),(.sl false .lk)] 0)),.c (.one (.at_ [(.int .i64)] 0)),.c (.one (.at_ [(.int .i64)] 0))],[]⟩,[.int,.int,.ls .lk,.int,.int],⟨[.c (.one (.b .bool))],[]⟩,[.bool],fK⟩
def D0:Ma:=Sa tab [(101,[],PH)] 11 0 [] []
theorem yE:Pa Tryz.prog D0.Γ:=Ra (l:=[(101,[],PH)]) ⟨⟨fR,Tryz.call101⟩,trivial⟩
theorem fS:GC Tryz.prog 100 QH:=Ua (G:=D0) (c:=Tryz.f100.body.getD .skip) Ga Ha yE mixed Tryz.func100 (by kernel_rfl) Tryz.ntmps100 (Ja (G:=D0) (n:=0) (by kernel_rfl) (by kernel_rfl) trivial (by kernel_rfl)) (fun s=>by kernel_rfl)
def F0:Oa:=⟨⟨[.c (.agg [zi,(.b (.sl false .lk))]),zc,zc,zc],[]⟩,[.int,.ls .lk,.int,.int,.int],⟨[.c (.one (.b .bool))],[]⟩,[.bool],NP⟩
def G0:Ma:=Sa tab [(94,[],Zi),(101,[],PH)] 24 0 [] []
theorem yF:Pa Tryz.prog G0.Γ:=Ra (l:=[(94,[],Zi),(101,[],PH)]) ⟨⟨Az,Tryz.call94⟩,⟨⟨fR,Tryz.call101⟩,trivial⟩⟩
theorem yG:GC Tryz.prog 96 F0:=Ua (G:=G0) (c:=Tryz.f96.body.getD .skip) Ga Ha yF mixed Tryz.func96 (by kernel_rfl) Tryz.ntmps96 (Ja (G:=G0) (n:=0) (by kernel_rfl) (by kernel_rfl) trivial (by kernel_rfl)) (fun s=>by kernel_rfl)
def Xu:Xa:=⟨⟨[1,4,5,12,13,14],⟨[.c (.fn 166 [(.at_ [(.int .i64)] 0)]),.c (.one (.ptr 0 0)),.c (.one (.ptr 1 0)),.c (.one (.b (.sl false .lk))),zc,zc],[.box 29 [zi,(.own 2)],.box 29 [zi,(.own 3)],.row 60 .lk,.row 60 .lk]⟩,[.int,.ls .lk,.int,.int,.int,.int,.ls .lk,.ls .lk]⟩,0,⟨[4,5],⟨[.c (.one (.ptr 0 0)),.c (.one (.ptr 1 0))],[.box 29 [zi,(.own 2)],.box 29 [zi,(.own 3)],.row 60 .lk,.row 60 .lk]⟩,[.int,.int,.ls .lk,.ls .lk]⟩,zx,lp OP Ea⟩
def H0:Oa:=⟨⟨[.c (.agg [zi,(.b (.sl false .lk))]),.c (.fn 166 [(.at_ [(.int .i64)] 0)])],[]⟩,[.int,.ls .lk,.int],⟨[.c (.agg [zi,(.own 0)])],[.row 60 .lk]⟩,[.int,.ls .lk],PP⟩
def RH:Ma:=Sa tab [(166,[],OH)] 31 0 [] [(3,Xu)]
theorem fT:Pa Tryz.prog RH.Γ:=Ra (l:=[(166,[],OH)]) ⟨⟨fP,Tryz.call166⟩,trivial⟩
theorem yH:Cb Tryz.prog 0 31 (Va (Tryz.f44.body.getD .skip) 0) Xu:=Fb (G:=RH) (F:=Xu.F) (eid:=Xu.eid) (FX:=Xu.FX) (FR:=Xu.FR) (B:=OP) (n:=Ea) Ga Ha fT mixed (Ja (G:=RH) (n:=0) (by kernel_rfl) (by kernel_rfl) trivial (by kernel_rfl)) (fun s=>by kernel_rfl)
theorem yI:GC Tryz.prog 44 H0:=Ua (G:=RH) (c:=Tryz.f44.body.getD .skip) Ga Ha fT mixed Tryz.func44 (by kernel_rfl) Tryz.ntmps44 (Ja (G:=RH) (n:=1) (by kernel_rfl) (by kernel_rfl) ⟨trivial,Gb (id:=3) (L0:=Xu) (by kernel_rfl) (by kernel_rfl) yH⟩ (by kernel_rfl)) (fun s=>by kernel_rfl)
def I0:Oa:=⟨⟨[.c (.agg [zi,(.b (.sl false .lk))]),zc],[]⟩,[.int,.ls .lk,.int],⟨[.tup [(.agg [zi,(.own 0)]),(.one (.b .bool))]],[.row 60 .lk]⟩,[.int,.bool,.ls .lk],QP⟩
def J0:Ma:=Sa tab [(44,[45],Cu),(44,[159],Eu),(98,[],NH),(166,[],OH),(44,[166],H0)] 14 0 [] []
theorem yJ:Pa Tryz.prog J0.Γ:=Ra (l:=[(44,[45],Cu),(44,[159],Eu),(98,[],NH),(166,[],OH),(44,[166],H0)]) ⟨⟨XY,Tryz.call44⟩,⟨⟨YY,Tryz.call44⟩,⟨⟨fO,Tryz.call98⟩,⟨⟨fP,Tryz.call166⟩,⟨⟨yI,Tryz.call44⟩,trivial⟩⟩⟩⟩⟩
theorem yK:GC Tryz.prog 138 I0:=Ua (G:=J0) (c:=Tryz.f138.body.getD .skip) Ga Ha yJ mixed Tryz.func138 (by kernel_rfl) Tryz.ntmps138 (Ja (G:=J0) (n:=0) (by kernel_rfl) (by kernel_rfl) trivial (by kernel_rfl)) (fun s=>by kernel_rfl)
def K0:Oa:=⟨⟨[.c (.agg [zi,(.b (.sl false .lk))]),zc,zc],[]⟩,[.int,.ls .lk,.int,.int],⟨[.c (.one (.b .bool))],[]⟩,[.bool],RP⟩
def M0:Ma:=Sa tab [(33,[],Yi),(115,[],Mn)] 19 0 [] []
theorem yL:Pa Tryz.prog M0.Γ:=Ra (l:=[(33,[],Yi),(115,[],Mn)]) ⟨⟨Zy,Tryz.call33⟩,⟨⟨WN,Tryz.call115⟩,trivial⟩⟩
theorem yM:GC Tryz.prog 113 K0:=Ua (G:=M0) (c:=Tryz.f113.body.getD .skip) Ga Ha yL mixed Tryz.func113 (by kernel_rfl) Tryz.ntmps113 (Ja (G:=M0) (n:=0) (by kernel_rfl) (by kernel_rfl) trivial (by kernel_rfl)) (fun s=>by kernel_rfl)
def SH:Oa:=⟨⟨[.c (.agg [zi,(.b (.sl false .lk))]),zc,zc,zc],[]⟩,[.int,.ls .lk,.int,.int,.int],⟨[.c (.one (.b .bool))],[]⟩,[.bool],Uu⟩
def O0:Ma:=Sa tab [(115,[],Mn),(151,[],YZ)] 22 0 [] []
theorem yN:Pa Tryz.prog O0.Γ:=Ra (l:=[(115,[],Mn),(151,[],YZ)]) ⟨⟨WN,Tryz.call115⟩,⟨⟨yA,Tryz.call151⟩,trivial⟩⟩
theorem fU:GC Tryz.prog 120 SH:=Ua (G:=O0) (c:=Tryz.f120.body.getD .skip) Ga Ha yN mixed Tryz.func120 (by kernel_rfl) Tryz.ntmps120 (Ja (G:=O0) (n:=0) (by kernel_rfl) (by kernel_rfl) trivial (by kernel_rfl)) (fun s=>by kernel_rfl)
def P0:Oa:=⟨⟨[.c (.agg [zi,(.b (.sl false .lk))]),zc,zc,zc],[]⟩,[.int,.ls .lk,.int,.int,.int],⟨[.c (.one (.own 0))],[.row 3 .int]⟩,[.ls .int],SP⟩
def Q0:Ma:=Sa tab [(54,[],MF),(138,[],I0)] 23 0 [] []
theorem yO:Pa Tryz.prog Q0.Γ:=Ra (l:=[(54,[],MF),(138,[],I0)]) ⟨⟨eP,Tryz.call54⟩,⟨⟨yK,Tryz.call138⟩,trivial⟩⟩
theorem yP:GC Tryz.prog 95 P0:=Ua (G:=Q0) (c:=Tryz.f95.body.getD .skip) Ga Ha yO mixed Tryz.func95 (by kernel_rfl) Tryz.ntmps95 (Ja (G:=Q0) (n:=0) (by kernel_rfl) (by kernel_rfl) trivial (by kernel_rfl)) (fun s=>by kernel_rfl)
def Yu:Xa:=⟨⟨[1,5,9,10],⟨[.c (.fn 100 [(.at_ [(.int .i64),(.sl false .lk)] 0),(.at_ [(.int .i64)] 0),(.at_ [(.int .i64)] 0)]),.c (.one (.own 0)),zc,zc],[.row 3 .int]⟩,[.int,.ls .lk,.int,.int,.int,.int,.ls .int]⟩,0,⟨[5],⟨[.c (.one (.own 0))],[.row 3 .int]⟩,[.ls .int]⟩,zx,lp LZ Ea⟩
def R0:Oa:=⟨⟨[.c (.agg [zi,(.b (.sl false .lk))]),.c (.fn 100 [(.at_ [(.int .i64),(.sl false .lk)] 0),(.at_ [(.int .i64)] 0),(.at_ [(.int .i64)] 0)])],[]⟩,[.int,.ls .lk,.int,.ls .lk,.int,.int],⟨[.c (.one (.own 0))],[.row 3 .int]⟩,[.ls .int],fL⟩
def TH:Ma:=Sa tab [(100,[],QH)] 22 0 [] [(3,Yu)]
theorem fV:Pa Tryz.prog TH.Γ:=Ra (l:=[(100,[],QH)]) ⟨⟨fS,Tryz.call100⟩,trivial⟩
theorem yQ:Cb Tryz.prog 0 22 (Va (Tryz.f99.body.getD .skip) 0) Yu:=Fb (G:=TH) (F:=Yu.F) (eid:=Yu.eid) (FX:=Yu.FX) (FR:=Yu.FR) (B:=LZ) (n:=Ea) Ga Ha fV mixed (Ja (G:=TH) (n:=0) (by kernel_rfl) (by kernel_rfl) trivial (by kernel_rfl)) (fun s=>by kernel_rfl)
theorem yR:GC Tryz.prog 99 R0:=Ua (G:=TH) (c:=Tryz.f99.body.getD .skip) Ga Ha fV mixed Tryz.func99 (by kernel_rfl) Tryz.ntmps99 (Ja (G:=TH) (n:=1) (by kernel_rfl) (by kernel_rfl) ⟨trivial,Gb (id:=3) (L0:=Yu) (by kernel_rfl) (by kernel_rfl) yQ⟩ (by kernel_rfl)) (fun s=>by kernel_rfl)
def Rz:Xa:=⟨⟨[0,1,2,3,8,9],⟨[.c (.one (.own 0)),zc,zc,.c (.fn 103 [(.at_ [(.sl false .int)] 0)]),zc,zc],[.row 3 .int]⟩,[.int,.int,.ls .int,.int,.int,.ls .int]⟩,0,⟨[0,1,2,3,8,9],⟨[.c (.one (.own 0)),zc,zc,.c (.fn 103 [(.at_ [(.sl false .int)] 0)]),zc,zc],[.row 3 .int]⟩,[.int,.int,.ls .int,.int,.int,.ls .int]⟩,zx,MZ⟩
def Zu:Xa:=⟨⟨[0,1,2,3,8,9],⟨[.c (.one (.own 0)),zc,zc,.c (.fn 103 [(.at_ [(.sl false .int)] 0)]),zc,zc],[.row 3 .int]⟩,[.int,.int,.ls .int,.int,.int,.ls .int]⟩,2,⟨[0,1,2,3,8],⟨[.c (.one (.own 0)),zc,zc,.c (.fn 103 [(.at_ [(.sl false .int)] 0)]),zc],[.row 3 .int]⟩,[.int,.int,.ls .int,.int,.ls .int]⟩,zx,lp NZ Ea⟩
def Av:Xa:=⟨⟨[0,1,2,3,8],⟨[.c (.one (.own 0)),zc,zc,.c (.fn 103 [(.at_ [(.sl false .int)] 0)]),zc],[.row 3 .int]⟩,[.int,.int,.ls .int,.int,.ls .int]⟩,0,⟨[],⟨[],[.row 3 .int]⟩,[.ls .int]⟩,zx,lp OZ Ea⟩
def U0:Oa:=⟨⟨[.c (.one (.own 0)),zc,zc,.c (.fn 103 [(.at_ [(.sl false .int)] 0)])],[.row 3 .int]⟩,[.int,.int,.ls .int,.ls .int],⟨[.tup []],[.row 3 .int]⟩,[.ls .int],PZ⟩
def Yl:Ma:=Sa tab [(103,[],Vn)] 53 1 [(4,14,tk 14,[])] [(6,Rz),(4,Zu),(1,Av)]
theorem CQ:Pa Tryz.prog Yl.Γ:=Ra (l:=[(103,[],Vn)]) ⟨⟨BQ,Tryz.call103⟩,trivial⟩
theorem yS:Ae Tryz.prog 1 53 (Fc Yl.plan (Va (Va (Tryz.f171.body.getD .skip) 0) 0) 0).1 (Fc Yl.plan (Va (Va (Tryz.f171.body.getD .skip) 0) 0) 0).2 Rz:=Ny (G:=Yl) (U:=[0,1,2,3,4,5,6,7,8,10,11,12]) (n:=14) (tl:=[14,15,16,17]) (ks:=[]) (t:=(.val 9 (.val 13 .done))) (F:=Rz.F) (eid:=0) (FX:=Rz.FX) (FR:=Rz.FR) (sh:=MZ) Ga Ha CQ mixed (by kernel_rfl) (by kernel_rfl) ⟨fun s=>by kernel_rfl,trivial⟩
theorem yT:Cb Tryz.prog 1 53 (Va (Va (Tryz.f171.body.getD .skip) 0) 0) Zu:=Fb (G:=Yl) (F:=Zu.F) (eid:=Zu.eid) (FX:=Zu.FX) (FR:=Zu.FR) (B:=NZ) (n:=Ea) Ga Ha CQ mixed (Bh (G:=Yl) (n:=0) (m:=1) (by kernel_rfl) (by kernel_rfl) trivial (by kernel_rfl) ⟨trivial,Bg (L0:=Rz) (by kernel_rfl) yS⟩) (fun s=>by kernel_rfl)
theorem yU:Cb Tryz.prog 1 53 (Va (Tryz.f171.body.getD .skip) 0) Av:=Fb (G:=Yl) (F:=Av.F) (eid:=Av.eid) (FX:=Av.FX) (FR:=Av.FR) (B:=OZ) (n:=Ea) Ga Ha CQ mixed (Ja (G:=Yl) (n:=1) (by kernel_rfl) (by kernel_rfl) ⟨trivial,Gb (id:=4) (L0:=Zu) (by kernel_rfl) (by kernel_rfl) yT⟩ (by kernel_rfl)) (fun s=>by kernel_rfl)
theorem yV:GC Tryz.prog 171 U0:=Ua (G:=Yl) (c:=Tryz.f171.body.getD .skip) Ga Ha CQ mixed Tryz.func171 (by kernel_rfl) Tryz.ntmps171 (Ja (G:=Yl) (n:=1) (by kernel_rfl) (by kernel_rfl) ⟨trivial,Gb (id:=1) (L0:=Av) (by kernel_rfl) (by kernel_rfl) yU⟩ (by kernel_rfl)) (fun s=>by kernel_rfl)
def UH:Oa:=⟨⟨[.c (.agg [zi,(.b (.sl false .lk))]),zc,zc,zc],[]⟩,[.int,.ls .lk,.int,.int,.int],⟨[.c (.one (.b .bool))],[]⟩,[.bool],JH⟩
def V0:Ma:=Sa tab [(117,[],Rk)] 76 0 [(6,38,tk 38,[])] []
theorem yW:Pa Tryz.prog V0.Γ:=Ra (l:=[(117,[],Rk)]) ⟨⟨HE,Tryz.call117⟩,trivial⟩
theorem fW:GC Tryz.prog 121 UH:=Ua (G:=V0) (c:=Tryz.f121.body.getD .skip) Ga Ha yW mixed Tryz.func121 (by kernel_rfl) Tryz.ntmps121 (Ja (G:=V0) (n:=0) (by kernel_rfl) (by kernel_rfl) trivial (by kernel_rfl)) (fun s=>by kernel_rfl)
def Bv:Xa:=⟨⟨[1,3,7,8,9],⟨[zc,.c (.one (.ptr 0 0)),.c (.one (.own 1)),.c (.one (.own 2)),zc],[.box 29 [zi,(.b (.sl false .lk))],.row 3 .int,.row 3 .int]⟩,[.int,.int,.int,.ls .lk,.ls .int,.ls .int]⟩,0,⟨[7],⟨[.c (.one (.own 0))],[.row 3 .int]⟩,[.ls .int]⟩,zx,lp KH Ea⟩
def X0:Oa:=⟨⟨[.c (.agg [zi,(.b (.sl false .lk))]),zc,zc],[]⟩,[.int,.ls .lk,.int,.int],⟨[.c (.one (.own 0))],[.row 3 .int]⟩,[.ls .int],TP⟩
def VH:Ma:=Sa tab [(62,[],Qk),(117,[],Rk)] 57 0 [(7,25,tk 25,[])] [(4,Bv)]
theorem fX:Pa Tryz.prog VH.Γ:=Ra (l:=[(62,[],Qk),(117,[],Rk)]) ⟨⟨AE,Tryz.call62⟩,⟨⟨HE,Tryz.call117⟩,trivial⟩⟩
theorem yX:Cb Tryz.prog 0 57 (Va (Tryz.f148.body.getD .skip) 0) Bv:=Fb (G:=VH) (F:=Bv.F) (eid:=Bv.eid) (FX:=Bv.FX) (FR:=Bv.FR) (B:=KH) (n:=Ea) Ga Ha fX mixed (Ja (G:=VH) (n:=0) (by kernel_rfl) (by kernel_rfl) trivial (by kernel_rfl)) (fun s=>by kernel_rfl)
theorem yY:GC Tryz.prog 148 X0:=Ua (G:=VH) (c:=Tryz.f148.body.getD .skip) Ga Ha fX mixed Tryz.func148 (by kernel_rfl) Tryz.ntmps148 (Ja (G:=VH) (n:=1) (by kernel_rfl) (by kernel_rfl) ⟨trivial,Gb (id:=4) (L0:=Bv) (by kernel_rfl) (by kernel_rfl) yX⟩ (by kernel_rfl)) (fun s=>by kernel_rfl)
def Dv:Xa:=⟨⟨[2,4,10,11,12,13,14],⟨[zc,.c (.one (.ptr 0 0)),.c (.one (.own 1)),.c (.one (.own 2)),zc,zc,zc],[.box 29 [zi,(.b (.sl false .lk))],.row 3 .int,.row 84 .lb]⟩,[.int,.int,.int,.int,.int,.ls .lk,.ls .int,.ls .lb]⟩,2,⟨[2,4,10,11,12,13,14],⟨[zc,.c (.one (.ptr 0 0)),.c (.one (.own 1)),.c (.one (.own 2)),zc,zc,zc],[.box 29 [zi,(.b (.sl false .lk))],.row 3 .int,.row 84 .lb]⟩,[.int,.int,.int,.int,.int,.ls .lk,.ls .int,.ls .lb]⟩,zx,lp Vu Ea⟩
def Sz:Xa:=⟨⟨[2,4,10,11,12,13],⟨[zc,.c (.one (.ptr 0 0)),.c (.one (.own 1)),.c (.one (.own 2)),zc,zc],[.box 29 [zi,(.b (.sl false .lk))],.row 3 .int,.row 84 .lb]⟩,[.int,.int,.int,.int,.ls .lk,.ls .int,.ls .lb]⟩,0,⟨[2,4,10,11,12,13],⟨[zc,.c (.one (.ptr 0 0)),.c (.one (.own 1)),.c (.one (.own 2)),zc,zc],[.box 29 [zi,(.b (.sl false .lk))],.row 3 .int,.row 84 .lb]⟩,[.int,.int,.int,.int,.ls .lk,.ls .int,.ls .lb]⟩,zx,LH⟩
def Fv:Xa:=⟨⟨[2,4,10,11,12,13],⟨[zc,.c (.one (.ptr 0 0)),.c (.one (.own 1)),.c (.one (.own 2)),zc,zc],[.box 29 [zi,(.b (.sl false .lk))],.row 3 .int,.row 84 .lb]⟩,[.int,.int,.int,.int,.ls .lk,.ls .int,.ls .lb]⟩,0,⟨[11],⟨[.c (.one (.own 0))],[.row 84 .lb]⟩,[.ls .lb]⟩,zx,lp Nz Ea⟩
def Z0:Oa:=⟨⟨[.c (.agg [zi,(.b (.sl false .lk))]),zc,zc,zc],[]⟩,[.int,.ls .lk,.int,.int,.int],⟨[.tup [(.one (.own 0)),(.one (.b .bool))]],[.row 84 .lb]⟩,[.bool,.ls .lb],UP⟩
def Zl:Ma:=Sa tab [(80,[],Gs),(96,[],F0),(95,[],P0)] 80 0 [(8,14,tk 14,[])] [(8,Dv),(12,Sz),(6,Fv)]
theorem DQ:Pa Tryz.prog Zl.Γ:=Ra (l:=[(80,[],Gs),(96,[],F0),(95,[],P0)]) ⟨⟨IX,Tryz.call80⟩,⟨⟨yG,Tryz.call96⟩,⟨⟨yP,Tryz.call95⟩,trivial⟩⟩⟩
theorem yZ:Ae Tryz.prog 0 80 (Fc Zl.plan (Va (Tryz.f57.body.getD .skip) 0) 0).1 (Fc Zl.plan (Va (Tryz.f57.body.getD .skip) 0) 0).2 Sz:=Ny (G:=Zl) (U:=[0,2,3,4,6,7,8,9,15,16]) (n:=11) (tl:=[11,12,13,14,17,18]) (ks:=[]) (t:=(.val 1 (.val 5 (.val 10 .done)))) (F:=Sz.F) (eid:=0) (FX:=Sz.FX) (FR:=Sz.FR) (sh:=LH) Ga Ha DQ mixed (by kernel_rfl) (by kernel_rfl) ⟨fun s=>by kernel_rfl,trivial⟩
theorem zA:Cb Tryz.prog 0 80 (Va (Va (Tryz.f57.body.getD .skip) 0) 0) Dv:=Fb (G:=Zl) (F:=Dv.F) (eid:=Dv.eid) (FX:=Dv.FX) (FR:=Dv.FR) (B:=Vu) (n:=Ea) Ga Ha DQ mixed (Ja (G:=Zl) (n:=0) (by kernel_rfl) (by kernel_rfl) trivial (by kernel_rfl)) (fun s=>by kernel_rfl)
theorem zB:Cb Tryz.prog 0 80 (Va (Tryz.f57.body.getD .skip) 0) Fv:=Fb (G:=Zl) (F:=Fv.F) (eid:=Fv.eid) (FX:=Fv.FX) (FR:=Fv.FR) (B:=Nz) (n:=Ea) Ga Ha DQ mixed (Bh (G:=Zl) (n:=1) (m:=1) (by kernel_rfl) (by kernel_rfl) ⟨trivial,Gb (id:=8) (L0:=Dv) (by kernel_rfl) (by kernel_rfl) zA⟩ (by kernel_rfl) ⟨trivial,Bg (L0:=Sz) (by kernel_rfl) yZ⟩) (fun s=>by kernel_rfl)
theorem zC:GC Tryz.prog 57 Z0:=Ua (G:=Zl) (c:=Tryz.f57.body.getD .skip) Ga Ha DQ mixed Tryz.func57 (by kernel_rfl) Tryz.ntmps57 (Ja (G:=Zl) (n:=1) (by kernel_rfl) (by kernel_rfl) ⟨trivial,Gb (id:=6) (L0:=Fv) (by kernel_rfl) (by kernel_rfl) zB⟩ (by kernel_rfl)) (fun s=>by kernel_rfl)
def A1:Oa:=⟨⟨[.c (.agg [zi,(.b (.sl false .lk))]),zc],[]⟩,[.int,.ls .lk,.int],⟨[.c (.one (.own 0))],[.row 3 .int]⟩,[.ls .int],VP⟩
def B1:Ma:=Sa tab [(33,[],Yi),(115,[],Mn),(117,[],Rk)] 18 0 [] []
theorem zD:Pa Tryz.prog B1.Γ:=Ra (l:=[(33,[],Yi),(115,[],Mn),(117,[],Rk)]) ⟨⟨Zy,Tryz.call33⟩,⟨⟨WN,Tryz.call115⟩,⟨⟨HE,Tryz.call117⟩,trivial⟩⟩⟩
theorem zE:GC Tryz.prog 72 A1:=Ua (G:=B1) (c:=Tryz.f72.body.getD .skip) Ga Ha zD mixed Tryz.func72 (by kernel_rfl) Tryz.ntmps72 (Ja (G:=B1) (n:=0) (by kernel_rfl) (by kernel_rfl) trivial (by kernel_rfl)) (fun s=>by kernel_rfl)
def D1:Oa:=⟨⟨[.c (.agg [zi,(.b (.sl false .lk))]),zc,zc,zc],[]⟩,[.int,.ls .lk,.int,.int,.int],⟨[.c (.one (.b .bool))],[]⟩,[.bool],WP⟩
def E1:Ma:=Sa tab [(117,[],Rk),(121,[],UH)] 24 0 [] []
theorem zF:Pa Tryz.prog E1.Γ:=Ra (l:=[(117,[],Rk),(121,[],UH)]) ⟨⟨HE,Tryz.call117⟩,⟨⟨fW,Tryz.call121⟩,trivial⟩⟩
theorem zG:GC Tryz.prog 119 D1:=Ua (G:=E1) (c:=Tryz.f119.body.getD .skip) Ga Ha zF mixed Tryz.func119 (by kernel_rfl) Tryz.ntmps119 (Ja (G:=E1) (n:=0) (by kernel_rfl) (by kernel_rfl) trivial (by kernel_rfl)) (fun s=>by kernel_rfl)
def Gv:Xa:=⟨⟨[0,1,2,6,7,8],⟨[.c (.one (.own 0)),zc,.c (.fn 103 [(.at_ [(.sl false .int)] 0)]),zc,zc,zc],[.row 3 .int]⟩,[.int,.ls .int,.int,.int,.int,.ls .int]⟩,0,⟨[0,1,2,6,7],⟨[.c (.one (.own 0)),zc,.c (.fn 103 [(.at_ [(.sl false .int)] 0)]),zc,zc],[.row 3 .int]⟩,[.int,.ls .int,.int,.int,.ls .int]⟩,zx,lp QZ Ea⟩
def Iv:Xa:=⟨⟨[0,1,2,6,7,8],⟨[.c (.one (.own 0)),zc,.c (.fn 103 [(.at_ [(.sl false .int)] 0)]),zc,zc,zc],[.row 3 .int]⟩,[.int,.ls .int,.int,.int,.int,.ls .int]⟩,4,⟨[0,1,2,6,7],⟨[.c (.one (.own 0)),zc,.c (.fn 103 [(.at_ [(.sl false .int)] 0)]),zc,zc],[.row 3 .int]⟩,[.int,.ls .int,.int,.int,.ls .int]⟩,zx,lp RZ Ea⟩
def Jv:Xa:=⟨⟨[0,1,2,6],⟨[.c (.one (.own 0)),zc,.c (.fn 103 [(.at_ [(.sl false .int)] 0)]),zc],[.row 3 .int]⟩,[.int,.ls .int,.int,.ls .int]⟩,2,⟨[],⟨[],[.row 3 .int]⟩,[.ls .int]⟩,zx,lp SZ Ea⟩
def F1:Oa:=⟨⟨[.c (.one (.own 0)),zc,.c (.fn 103 [(.at_ [(.sl false .int)] 0)])],[.row 3 .int]⟩,[.int,.ls .int,.ls .int],⟨[.tup []],[.row 3 .int]⟩,[.ls .int],fM⟩
def Wn:Ma:=Sa tab [(103,[],Vn),(171,[103],U0)] 63 1 [] [(2,Gv),(9,Iv),(7,Jv)]
theorem EQ:Pa Tryz.prog Wn.Γ:=Ra (l:=[(103,[],Vn),(171,[103],U0)]) ⟨⟨BQ,Tryz.call103⟩,⟨⟨yV,Tryz.call171⟩,trivial⟩⟩
theorem zH:Cb Tryz.prog 1 63 (Va (Tryz.f140.body.getD .skip) 0) Gv:=Fb (G:=Wn) (F:=Gv.F) (eid:=Gv.eid) (FX:=Gv.FX) (FR:=Gv.FR) (B:=QZ) (n:=Ea) Ga Ha EQ mixed (Ja (G:=Wn) (n:=0) (by kernel_rfl) (by kernel_rfl) trivial (by kernel_rfl)) (fun s=>by kernel_rfl)
theorem zI:Cb Tryz.prog 1 63 (Va (Va (Tryz.f140.body.getD .skip) 1) 0) Iv:=Fb (G:=Wn) (F:=Iv.F) (eid:=Iv.eid) (FX:=Iv.FX) (FR:=Iv.FR) (B:=RZ) (n:=Ea) Ga Ha EQ mixed (Ja (G:=Wn) (n:=0) (by kernel_rfl) (by kernel_rfl) trivial (by kernel_rfl)) (fun s=>by kernel_rfl)
theorem zJ:Cb Tryz.prog 1 63 (Va (Tryz.f140.body.getD .skip) 1) Jv:=Fb (G:=Wn) (F:=Jv.F) (eid:=Jv.eid) (FX:=Jv.FX) (FR:=Jv.FR) (B:=SZ) (n:=Ea) Ga Ha EQ mixed (Ja (G:=Wn) (n:=1) (by kernel_rfl) (by kernel_rfl) ⟨trivial,Gb (id:=9) (L0:=Iv) (by kernel_rfl) (by kernel_rfl) zI⟩ (by kernel_rfl)) (fun s=>by kernel_rfl)
theorem zK:GC Tryz.prog 140 F1:=Ua (G:=Wn) (c:=Tryz.f140.body.getD .skip) Ga Ha EQ mixed Tryz.func140 (by kernel_rfl) Tryz.ntmps140 (Ja (G:=Wn) (n:=2) (by kernel_rfl) (by kernel_rfl) ⟨⟨trivial,Gb (id:=2) (L0:=Gv) (by kernel_rfl) (by kernel_rfl) zH⟩,Gb (id:=7) (L0:=Jv) (by kernel_rfl) (by kernel_rfl) zJ⟩ (by kernel_rfl)) (fun s=>by kernel_rfl)
def I1:Oa:=⟨⟨[.c (.one (.own 0)),.c (.fn 103 [(.at_ [(.sl false .int)] 0)])],[.row 3 .int]⟩,[.ls .int,.ls .int],⟨[.tup []],[.row 3 .int]⟩,[.ls .int],fN⟩
def J1:Ma:=Sa tab [(103,[],Vn),(140,[103],F1)] 9 1 [] []
theorem zL:Pa Tryz.prog J1.Γ:=Ra (l:=[(103,[],Vn),(140,[103],F1)]) ⟨⟨BQ,Tryz.call103⟩,⟨⟨zK,Tryz.call140⟩,trivial⟩⟩
theorem zM:GC Tryz.prog 102 I1:=Ua (G:=J1) (c:=Tryz.f102.body.getD .skip) Ga Ha zL mixed Tryz.func102 (by kernel_rfl) Tryz.ntmps102 (Ja (G:=J1) (n:=0) (by kernel_rfl) (by kernel_rfl) trivial (by kernel_rfl)) (fun s=>by kernel_rfl)
def Kv:Xa:=⟨⟨[1,2,3,7],⟨[zc,zc,.c (.one (.ptr 0 0)),.c (.one (.own 1))],[.box 29 [zi,(.b (.sl false .lk))],.row 3 .int]⟩,[.int,.int,.int,.ls .lk,.ls .int]⟩,0,⟨[7],⟨[.c (.one (.own 0))],[.row 3 .int]⟩,[.ls .int]⟩,⟨[6],⟨[.c (.one (.own 0))],[.row 3 .int]⟩,[.ls .int]⟩,lp Np Ea⟩
def WH:Oa:=⟨⟨[.c (.agg [zi,(.b (.sl false .lk))]),zc,zc],[]⟩,[.int,.ls .lk,.int,.int],⟨[.c (.one (.own 0))],[.row 3 .int]⟩,[.ls .int],MH⟩
def XH:Ma:=Sa tab [(148,[],X0)] 30 0 [] [(2,Kv)]
theorem fY:Pa Tryz.prog XH.Γ:=Ra (l:=[(148,[],X0)]) ⟨⟨yY,Tryz.call148⟩,trivial⟩
theorem zN:Cb Tryz.prog 0 30 (Va (Tryz.f114.body.getD .skip) 0) Kv:=Fb (G:=XH) (F:=Kv.F) (eid:=Kv.eid) (FX:=Kv.FX) (FR:=Kv.FR) (B:=Np) (n:=Ea) Ga Ha fY mixed (Ja (G:=XH) (n:=0) (by kernel_rfl) (by kernel_rfl) trivial (by kernel_rfl)) (fun s=>by kernel_rfl)
theorem fZ:GC Tryz.prog 114 WH:=Ua (G:=XH) (c:=Tryz.f114.body.getD .skip) Ga Ha fY mixed Tryz.func114 (by kernel_rfl) Tryz.ntmps114 (Ja (G:=XH) (n:=1) (by kernel_rfl) (by kernel_rfl) ⟨trivial,Gb (id:=2) (L0:=Kv) (by kernel_rfl) (by kernel_rfl) zN⟩ (by kernel_rfl)) (fun s=>by kernel_rfl)
def K1:Oa:=⟨⟨[.c (.agg [zi,(.b (.sl false .lk))]),zc,zc],[]⟩,[.int,.ls .lk,.int,.int],⟨[.c (.one (.own 0))],[.row 3 .int]⟩,[.ls .int],Tn⟩
def L1:Ma:=Sa tab [(91,[],As),(94,[],Zi),(98,[],NH),(103,[],Vn),(100,[],QH),(99,[100],R0),(102,[103],I1)] 29 0 [] []
theorem zO:Pa Tryz.prog L1.Γ:=Ra (l:=[(91,[],As),(94,[],Zi),(98,[],NH),(103,[],Vn),(100,[],QH),(99,[100],R0),(102,[103],I1)]) ⟨⟨BX,Tryz.call91⟩,⟨⟨Az,Tryz.call94⟩,⟨⟨fO,Tryz.call98⟩,⟨⟨BQ,Tryz.call103⟩,⟨⟨fS,Tryz.call100⟩,⟨⟨yR,Tryz.call99⟩,⟨⟨zM,Tryz.call102⟩,trivial⟩⟩⟩⟩⟩⟩⟩
theorem zP:GC Tryz.prog 59 K1:=Ua (G:=L1) (c:=Tryz.f59.body.getD .skip) Ga Ha zO mixed Tryz.func59 (by kernel_rfl) Tryz.ntmps59 (Ja (G:=L1) (n:=0) (by kernel_rfl) (by kernel_rfl) trivial (by kernel_rfl)) (fun s=>by kernel_rfl)
def M1:Oa:=⟨⟨[.c (.agg [zi,(.b (.sl false .lk))]),zc,zc],[]⟩,[.int,.ls .lk,.int,.int],⟨[.c (.one (.own 0))],[.row 3 .int]⟩,[.ls .int],XP⟩
def N1:Ma:=Sa tab [(113,[],K0),(114,[],WH)] 17 0 [] []
theorem zQ:Pa Tryz.prog N1.Γ:=Ra (l:=[(113,[],K0),(114,[],WH)]) ⟨⟨yM,Tryz.call113⟩,⟨⟨fZ,Tryz.call114⟩,trivial⟩⟩
theorem zR:GC Tryz.prog 70 M1:=Ua (G:=N1) (c:=Tryz.f70.body.getD .skip) Ga Ha zQ mixed Tryz.func70 (by kernel_rfl) Tryz.ntmps70 (Ja (G:=N1) (n:=0) (by kernel_rfl) (by kernel_rfl) trivial (by kernel_rfl)) (fun s=>by kernel_rfl)
def O1:Oa:=⟨⟨[.c (.agg [zi,(.b (.sl false .lk))]),zc,zc,zc],[]⟩,[.int,.ls .lk,.int,.int,.int],⟨[.c (.one (.own 0))],[.row 3 .int]⟩,[.ls .int],YP⟩
def P1:Ma:=Sa tab [(150,[],B0),(120,[],SH),(114,[],WH)] 22 0 [] []
theorem zS:Pa Tryz.prog P1.Γ:=Ra (l:=[(150,[],B0),(120,[],SH),(114,[],WH)]) ⟨⟨yD,Tryz.call150⟩,⟨⟨fU,Tryz.call120⟩,⟨⟨fZ,Tryz.call114⟩,trivial⟩⟩⟩
theorem zT:GC Tryz.prog 118 O1:=Ua (G:=P1) (c:=Tryz.f118.body.getD .skip) Ga Ha zS mixed Tryz.func118 (by kernel_rfl) Tryz.ntmps118 (Ja (G:=P1) (n:=0) (by kernel_rfl) (by kernel_rfl) trivial (by kernel_rfl)) (fun s=>by kernel_rfl)
def Lv:Xa:=⟨⟨[1,2,3,7,8,9,10],⟨[zc,zc,.c (.one (.ptr 0 0)),.c (.one (.own 1)),.c (.one (.own 2)),zc,zc],[.box 29 [zi,(.b (.sl false .lk))],.row 3 .int,.row 3 .int]⟩,[.int,.int,.int,.int,.int,.ls .lk,.ls .int,.ls .int]⟩,2,⟨[1,2,3,7,8,9],⟨[zc,zc,.c (.one (.ptr 0 0)),.c (.one (.own 1)),.c (.one (.own 2)),zc],[.box 29 [zi,(.b (.sl false .lk))],.row 3 .int,.row 3 .int]⟩,[.int,.int,.int,.int,.ls .lk,.ls .int,.ls .int]⟩,zx,lp TZ Ea⟩
def Nv:Xa:=⟨⟨[1,2,3,7,8,9],⟨[zc,zc,.c (.one (.ptr 0 0)),.c (.one (.own 1)),.c (.one (.own 2)),zc],[.box 29 [zi,(.b (.sl false .lk))],.row 3 .int,.row 3 .int]⟩,[.int,.int,.int,.int,.ls .lk,.ls .int,.ls .int]⟩,0,⟨[7],⟨[.c (.one (.own 0))],[.row 3 .int]⟩,[.ls .int]⟩,zx,lp UZ Ea⟩
def U1:Oa:=⟨⟨[.c (.agg [zi,(.b (.sl false .lk))]),zc,zc],[]⟩,[.int,.ls .lk,.int,.int],⟨[.c (.one (.own 0))],[.row 3 .int]⟩,[.ls .int],Un⟩
def Ov:Ma:=Sa tab [(120,[],SH),(117,[],Rk),(121,[],UH)] 52 0 [] [(9,Lv),(6,Nv)]
theorem V1:Pa Tryz.prog Ov.Γ:=Ra (l:=[(120,[],SH),(117,[],Rk),(121,[],UH)]) ⟨⟨fU,Tryz.call120⟩,⟨⟨HE,Tryz.call117⟩,⟨⟨fW,Tryz.call121⟩,trivial⟩⟩⟩
theorem zU:Cb Tryz.prog 0 52 (Va (Va (Tryz.f75.body.getD .skip) 0) 0) Lv:=Fb (G:=Ov) (F:=Lv.F) (eid:=Lv.eid) (FX:=Lv.FX) (FR:=Lv.FR) (B:=TZ) (n:=Ea) Ga Ha V1 mixed (Ja (G:=Ov) (n:=0) (by kernel_rfl) (by kernel_rfl) trivial (by kernel_rfl)) (fun s=>by kernel_rfl)
theorem zV:Cb Tryz.prog 0 52 (Va (Tryz.f75.body.getD .skip) 0) Nv:=Fb (G:=Ov) (F:=Nv.F) (eid:=Nv.eid) (FX:=Nv.FX) (FR:=Nv.FR) (B:=UZ) (n:=Ea) Ga Ha V1 mixed (Ja (G:=Ov) (n:=1) (by kernel_rfl) (by kernel_rfl) ⟨trivial,Gb (id:=9) (L0:=Lv) (by kernel_rfl) (by kernel_rfl) zU⟩ (by kernel_rfl)) (fun s=>by kernel_rfl)
theorem zX:GC Tryz.prog 75 U1:=Ua (G:=Ov) (c:=Tryz.f75.body.getD .skip) Ga Ha V1 mixed Tryz.func75 (by kernel_rfl) Tryz.ntmps75 (Ja (G:=Ov) (n:=1) (by kernel_rfl) (by kernel_rfl) ⟨trivial,Gb (id:=6) (L0:=Nv) (by kernel_rfl) (by kernel_rfl) zV⟩ (by kernel_rfl)) (fun s=>by kernel_rfl)
def Pv:Xa:=⟨⟨[2,4,10,11,12,13],⟨[zc,.c (.one (.ptr 0 0)),.c (.one (.own 1)),.c (.one (.own 2)),zc,zc],[.box 29 [zi,(.b (.sl false .lk))],.row 84 .lb,.row 3 .int]⟩,[.int,.int,.int,.int,.ls .lk,.ls .lb,.ls .int]⟩,2,⟨[2,4,10,11,12,13],⟨[zc,.c (.one (.ptr 0 0)),.c (.one (.own 1)),.c (.one (.own 2)),zc,zc],[.box 29 [zi,(.b (.sl false .lk))],.row 84 .lb,.row 3 .int]⟩,[.int,.int,.int,.int,.ls .lk,.ls .lb,.ls .int]⟩,zx,lp Wu Ea⟩
def Qv:Xa:=⟨⟨[2,4,10,11,12],⟨[zc,.c (.one (.ptr 0 0)),.c (.one (.own 1)),.c (.one (.own 2)),zc],[.box 29 [zi,(.b (.sl false .lk))],.row 84 .lb,.row 3 .int]⟩,[.int,.int,.int,.ls .lk,.ls .lb,.ls .int]⟩,0,⟨[10],⟨[.c (.one (.own 0))],[.row 84 .lb]⟩,[.ls .lb]⟩,zx,lp Oz Ea⟩
def X1:Oa:=⟨⟨[.c (.agg [zi,(.b (.sl false .lk))]),zc,zc,zc],[]⟩,[.int,.ls .lk,.int,.int,.int],⟨[.tup [(.one (.own 0)),(.one (.b .bool))]],[.row 84 .lb]⟩,[.bool,.ls .lb],ZP⟩
def Rv:Ma:=Sa tab [(62,[],Qk),(119,[],D1),(118,[],O1)] 80 0 [(8,14,tk 14,[]),(13,13,[(0,true),(1,true),(2,true),(3,true),(4,true),(5,true),(6,true),(7,true),(8,true),(9,true),(10,false),(11,true),(12,false)],[])] [(8,Pv),(6,Qv)]
theorem Z1:Pa Tryz.prog Rv.Γ:=Ra (l:=[(62,[],Qk),(119,[],D1),(118,[],O1)]) ⟨⟨AE,Tryz.call62⟩,⟨⟨zG,Tryz.call119⟩,⟨⟨zT,Tryz.call118⟩,trivial⟩⟩⟩
theorem zY:Cb Tryz.prog 0 80 (Va (Va (Tryz.f73.body.getD .skip) 0) 0) Pv:=Fb (G:=Rv) (F:=Pv.F) (eid:=Pv.eid) (FX:=Pv.FX) (FR:=Pv.FR) (B:=Wu) (n:=Ea) Ga Ha Z1 mixed (Ja (G:=Rv) (n:=0) (by kernel_rfl) (by kernel_rfl) trivial (by kernel_rfl)) (fun s=>by kernel_rfl)
theorem zZ:Cb Tryz.prog 0 80 (Va (Tryz.f73.body.getD .skip) 0) Qv:=Fb (G:=Rv) (F:=Qv.F) (eid:=Qv.eid) (FX:=Qv.FX) (FR:=Qv.FR) (B:=Oz) (n:=Ea) Ga Ha Z1 mixed (Ja (G:=Rv) (n:=1) (by kernel_rfl) (by kernel_rfl) ⟨trivial,Gb (id:=8) (L0:=Pv) (by kernel_rfl) (by kernel_rfl) zY⟩ (by kernel_rfl)) (fun s=>by kernel_rfl)
theorem zMU:GC Tryz.prog 73 X1:=Ua (G:=Rv) (c:=Tryz.f73.body.getD .skip) Ga Ha Z1 mixed Tryz.func73 (by kernel_rfl) Tryz.ntmps73 (Ja (G:=Rv) (n:=1) (by kernel_rfl) (by kernel_rfl) ⟨trivial,Gb (id:=6) (L0:=Qv) (by kernel_rfl) (by kernel_rfl) zZ⟩ (by kernel_rfl)) (fun s=>by kernel_rfl)
end
section
open Go.RowKit
def FQ (s:(Int×Int×List Lk×List Bool×List Int×List (List Ls)×Int×Int×Int×List En×Int×List Lk×List Bool×List Int×List (List Ls)×List Pk×List Int×List Pk×Unit)):Option ((Int×Int×List Lk×List Bool×List Int×List (List Ls)×Int×Int×Int×List En×Int×List Lk×List Bool×List Int×List (List Ls)×List Pk×List Int×List Pk×Unit)⊕((List Lk×List Bool×List Int×List (List Ls)×Int×Int×List Lk×List Bool×List Int×List (List Ls)×List Pk×List Pk×Unit)⊕Unit)):=(bif decide (s.2.1<nI (List.length s.2.2.2.2.2.2.2.2.2.2.2.2.2.2.2.2.1)) then (bif decide (nI (List.length s.2.2.2.2.2.2.2.2.2.2.2.2.2.2.2.2.2.1)<16) then (bif Ca s.2.1 (List.length s.2.2.2.2.2.2.2.2.2.2.2.2.2.2.2.2.1) then (bif (!(decide (Aa .int s.2.2.2.2.2.2.2.2.2.2.2.2.2.2.2.2.1 (Int.toNat s.2.1)=s.1))) then (bif Ca s.2.1 (List.length s.2.2.2.2.2.2.2.2.2.2.2.2.2.2.2.2.1) then (bif decide ((List.length ([]:List Pk)+List.length s.2.2.2.2.2.2.2.2.2.2.2.2.2.2.2.2.2.1)≤(33554432:Nat)) then (Aj (s.2.2.2.2.2.2.2.1,s.2.2.2.2.2.2.2.2.1,s.2.2.2.2.2.2.2.2.2.1,())).bind fun r0=>(bif decide ((List.length (([]:List Pk)++s.2.2.2.2.2.2.2.2.2.2.2.2.2.2.2.2.2.1)+List.length [(Pk.mk (Aa .int s.2.2.2.2.2.2.2.2.2.2.2.2.2.2.2.2.1 (Int.toNat s.2.1)) (Ls.mk r0.1 r0.2.1 r0.2.2.1))])≤(33554432:Nat)) then some (Sum.inl (s.1,wrap64 (s.2.1+1),s.2.2.1,s.2.2.2.1,s.2.2.2.2.1,s.2.2.2.2.2.1,s.2.2.2.2.2.2.1,s.2.2.2.2.2.2.2.1,s.2.2.2.2.2.2.2.2.1,s.2.2.2.2.2.2.2.2.2.1,s.2.2.2.2.2.2.2.2.2.2.1,s.2.2.2.2.2.2.2.2.2.2.2.1,s.2.2.2.2.2.2.2.2.2.2.2.2.1,s.2.2.2.2.2.2.2.2.2.2.2.2.2.1,s.2.2.2.2.2.2.2.2.2.2.2.2.2.2.1,s.2.2.2.2.2.2.2.2.2.2.2.2.2.2.2.1,s.2.2.2.2.2.2.2.2.2.2.2.2.2.2.2.2.1,((([]:List Pk)++s.2.2.2.2.2.2.2.2.2.2.2.2.2.2.2.2.2.1)++[(Pk.mk (Aa .int s.2.2.2.2.2.2.2.2.2.2.2.2.2.2.2.2.1 (Int.toNat s.2.1)) (Ls.mk r0.1 r0.2.1 r0.2.2.1))]),())) else none) else none) else none) else some (Sum.inl (s.1,wrap64 (s.2.1+1),s.2.2))) else none) else some (Sum.inr (Sum.inl (s.2.2.1,s.2.2.2.1,s.2.2.2.2.1,s.2.2.2.2.2.1,s.2.2.2.2.2.2.1,s.2.2.2.2.2.2.2.2.2.2.1,s.2.2.2.2.2.2.2.2.2.2.2.1,s.2.2.2.2.2.2.2.2.2.2.2.2.1,s.2.2.2.2.2.2.2.2.2.2.2.2.2.1,s.2.2.2.2.2.2.2.2.2.2.2.2.2.2.1,s.2.2.2.2.2.2.2.2.2.2.2.2.2.2.2.1,s.2.2.2.2.2.2.2.2.2.2.2.2.2.2.2.2.2)))) else some (Sum.inr (Sum.inl (s.2.2.1,s.2.2.2.1,s.2.2.2.2.1,s.2.2.2.2.2.1,s.2.2.2.2.2.2.1,s.2.2.2.2.2.2.2.2.2.2.1,s.2.2.2.2.2.2.2.2.2.2.2.1,s.2.2.2.2.2.2.2.2.2.2.2.2.1,s.2.2.2.2.2.2.2.2.2.2.2.2.2.1,s.2.2.2.2.2.2.2.2.2.2.2.2.2.2.1,s.2.2.2.2.2.2.2.2.2.2.2.2.2.2.2.1,s.2.2.2.2.2.2.2.2.2.2.2.2.2.2.2.2.2))))
def YH (s:(Int×Int×Int×Int×List En×Y0)):Option Y0:=(Fz (s.1,s.2.2.2.2.2.2)).bind fun r0=>(YD (r0.1,r0.2.1,s.2.1,())).bind fun r1=>(lp FQ Ea (s.2.2.2.2.2.1,0,s.2.2.2.2.2.2.1,s.2.2.2.2.2.2.2.1,s.2.2.2.2.2.2.2.2.1,s.2.2.2.2.2.2.2.2.2.1,s.1,s.2.2.1,s.2.2.2.1,s.2.2.2.2.1,0,([]:List Lk),([]:List Bool),([]:List Int),([]:List (List Ls)),([]:List Pk),r1.1,s.2.2.2.2.2.2.2.2.2.2)).bind fun r2=>(match r2 with| .inl x3=>some (x3.2.2.2.2.1,x3.1,x3.2.1,x3.2.2.1,x3.2.2.2.1,x3.2.2.2.2.2.2.2.2.2.2.2)| .inr _=>none)
def GQ (s:(Int×List Lk×List Bool×List Int×List (List Ls)×List Pk×Int×Y4)):Option Y0:=(bif Ca s.2.2.2.2.2.2.1 (List.length s.2.2.2.2.1) then (Hz (Aa .db s.2.2.2.2.1 (Int.toNat s.2.2.2.2.2.2.1),s.2.2.2.2.2.2.2)).bind fun r0=>(bif (!(decide (r0.1=0))) then some (s.1,s.2.1,s.2.2.1,s.2.2.2.1,s.2.2.2.2.1,s.2.2.2.2.2.1,()) else (Lp (s.1,s.2.1,s.2.2.1,s.2.2.2.1,s.2.2.2.2.1,s.2.2.2.2.2.1,())).bind fun r1=>(bif Ca s.2.2.2.2.2.2.1 (List.length r1.2.2.2.2.1) then (YH (r1.1,s.2.2.2.2.2.2.1,s.2.2.2.2.2.2.2.1,s.2.2.2.2.2.2.2.2.1,s.2.2.2.2.2.2.2.2.2.1,s.2.2.2.2.2.2.2.1,r1.2.1,r1.2.2.1,r1.2.2.2.1,List.set r1.2.2.2.2.1 (Int.toNat s.2.2.2.2.2.2.1) r0.2.1,r1.2.2.2.2.2)).bind fun r2=>some r2 else none)) else none)
def Am (s:KN):Option Y0:=(bif Ca s.2.2.2.2.2.2.1 (List.length s.2.1) then (bif Ca s.2.2.2.2.2.2.1 (List.length s.2.2.1) then (bif (!(Aa .bool s.2.2.1 (Int.toNat s.2.2.2.2.2.2.1))) then some (s.1,s.2.1,s.2.2.1,s.2.2.2.1,s.2.2.2.2.1,s.2.2.2.2.2.1,()) else (Lp (s.1,s.2.1,s.2.2.1,s.2.2.2.1,s.2.2.2.2.1,s.2.2.2.2.2.1,())).bind fun r0=>(bif Ca ((Aa .lk s.2.1 (Int.toNat s.2.2.2.2.2.2.1)).a) (List.length r0.2.2.2.2.1) then (bif Ca ((Aa .lk s.2.1 (Int.toNat s.2.2.2.2.2.2.1)).b) (List.length r0.2.2.2.2.1) then (BP (Aa .db r0.2.2.2.2.1 (Int.toNat ((Aa .lk s.2.1 (Int.toNat s.2.2.2.2.2.2.1)).a)),Aa .db r0.2.2.2.2.1 (Int.toNat ((Aa .lk s.2.1 (Int.toNat s.2.2.2.2.2.2.1)).b)),())).bind fun r1=>(bif Ca ((Aa .lk s.2.1 (Int.toNat s.2.2.2.2.2.2.1)).a) (List.length r0.2.2.2.2.1) then (Tl r1).bind fun r2=>(bif Ca ((Aa .lk s.2.1 (Int.toNat s.2.2.2.2.2.2.1)).b) (List.length (List.set r0.2.2.2.2.1 (Int.toNat ((Aa .lk s.2.1 (Int.toNat s.2.2.2.2.2.2.1)).a)) r1.1)) then some (r0.1,r0.2.1,r0.2.2.1,r0.2.2.2.1,List.set (List.set r0.2.2.2.2.1 (Int.toNat ((Aa .lk s.2.1 (Int.toNat s.2.2.2.2.2.2.1)).a)) r1.1) (Int.toNat ((Aa .lk s.2.1 (Int.toNat s.2.2.2.2.2.2.1)).b)) r2.1,r0.2.2.2.2.2) else none) else none) else none) else none)) else none) else none)
def HQ (s:(Int×HN)):Option (HN⊕Unit):=(Ki (s.2.2.2.2.2.2.2.2.2.1,s.2.2.2.2.2.2.2.2.2.2.1,s.2.2.2.2.2.2.2.2.2.2.2.1,())).bind fun r0=>(bif decide ((List.length s.2.2.2.2.2.2.2.2.2.2.2.2.2.1+List.length [(Pk.mk s.2.1 (Ls.mk r0.1 r0.2.1 r0.2.2.1))])≤(33554432:Nat)) then some (Sum.inl (s.1,s.2.2.1,s.2.2.2.1,s.2.2.2.2.1,s.2.2.2.2.2.1,s.2.2.2.2.2.2.1,s.2.2.2.2.2.2.2.1,s.2.2.2.2.2.2.2.2.1,s.2.2.2.2.2.2.2.2.2.1,s.2.2.2.2.2.2.2.2.2.2.1,s.2.2.2.2.2.2.2.2.2.2.2.1,s.2.2.2.2.2.2.2.2.2.2.2.2.1,(s.2.2.2.2.2.2.2.2.2.2.2.2.2.1++[(Pk.mk s.2.1 (Ls.mk r0.1 r0.2.1 r0.2.2.1))]),())) else none)
def IQ (s:HN):Option (HN⊕(Y0⊕Unit)):=(bif decide (s.2.2.1<s.2.1) then (bif Ca s.2.2.1 (List.length s.2.2.2.2.2.2.2.2.2.2.2.1) then (bif (!(decide (Aa .int s.2.2.2.2.2.2.2.2.2.2.2.1 (Int.toNat s.2.2.1)=s.1))) then (bif decide (nI (List.length s.2.2.2.2.2.2.2.2.2.2.2.2.1)<16) then (HQ (s.1,Aa .int s.2.2.2.2.2.2.2.2.2.2.2.1 (Int.toNat s.2.2.1),s.2)).bind fun r0=>(match r0 with| .inl x1=>some (Sum.inl (x1.1,x1.2.1,wrap64 (x1.2.2.1+1),x1.2.2.2))| .inr _=>none) else some (Sum.inl (s.1,s.2.1,wrap64 (s.2.2.1+1),s.2.2.2))) else some (Sum.inl (s.1,s.2.1,wrap64 (s.2.2.1+1),s.2.2.2))) else none) else some (Sum.inr (Sum.inl (s.2.2.2.1,s.2.2.2.2.1,s.2.2.2.2.2.1,s.2.2.2.2.2.2.1,s.2.2.2.2.2.2.2.1,s.2.2.2.2.2.2.2.2.2.2.2.2))))
def Sv (s:(Int×Int×Int×List En×Int×Y0)):Option Y0:=(CG s.2.2.2.2.2).bind fun r0=>(Rr (r0.1,r0.2.1,s.1,())).bind fun r1=>(lp IQ Ea (s.2.2.2.2.1,nI (List.length r1.1),0,s.2.2.2.2.2.1,s.2.2.2.2.2.2.1,s.2.2.2.2.2.2.2.1,s.2.2.2.2.2.2.2.2.1,s.2.2.2.2.2.2.2.2.2.1,s.2.1,s.2.2.1,s.2.2.2.1,r1.1,s.2.2.2.2.2.2.2.2.2.2)).bind fun r2=>(match r2 with| .inl x3=>some x3| .inr _=>none)
def ZH (s:(Int×List Lk×List Bool×List Int×List (List Ls)×Int×Int×List Lk×List Bool×List Int×List (List Ls)×List Pk×List Pk×Unit)):Option ((Int×List Lk×List Bool×List Int×List (List Ls)×Int×Int×List Lk×List Bool×List Int×List (List Ls)×List Pk×Int×Int×List Pk×List En×Unit)⊕Unit):=(bif Ca s.1 (List.length s.2.2.2.1) then (Fz (s.2.2.2.2.2.1,s.2.1,s.2.2.1,s.2.2.2.1,s.2.2.2.2.1,s.2.2.2.2.2.2.2.2.2.2.2.2)).bind fun r0=>(Ms (r0.1,r0.2.1,s.1,Aa .int s.2.2.2.1 (Int.toNat s.1),())).bind fun r1=>some (Sum.inl (s.1,s.2.1,s.2.2.1,s.2.2.2.1,s.2.2.2.2.1,s.2.2.2.2.2.1,s.2.2.2.2.2.2.1,s.2.2.2.2.2.2.2.1,s.2.2.2.2.2.2.2.2.1,s.2.2.2.2.2.2.2.2.2.1,s.2.2.2.2.2.2.2.2.2.2.1,s.2.2.2.2.2.2.2.2.2.2.2.1,r1.1,r1.2.1,s.2.2.2.2.2.2.2.2.2.2.2.2.1,r1.2.2)) else none)
def Tz (s:(Int×Y0)):Option Y0:=(bif Ca s.2.1 (List.length s.2.2.2.2.1) then (bif Ca s.2.1 (List.length s.2.2.2.2.1) then (ZH (s.2.1,s.2.2.1,s.2.2.2.1,List.set s.2.2.2.2.1 (Int.toNat s.2.1) (wrap64 (Aa .int s.2.2.2.2.1 (Int.toNat s.2.1)+(1:Int))),s.2.2.2.2.2.1,s.1,0,([]:List Lk),([]:List Bool),([]:List Int),([]:List (List Ls)),([]:List Pk),s.2.2.2.2.2.2)).bind fun r0=>(match r0 with| .inl x1=>(bif Ca x1.1 (List.length x1.2.2.2.2.1) then (Hz (Aa .db x1.2.2.2.2.1 (Int.toNat x1.1),x1.2.2.2.2.2.2.2.2.2.2.2.2.1,x1.2.2.2.2.2.2.2.2.2.2.2.2.2.1,x1.2.2.2.2.2.2.2.2.2.2.2.2.2.2.2)).bind fun r2=>(bif Ca x1.1 (List.length x1.2.2.2.2.1) then (YH (x1.2.2.2.2.2.1,x1.1,x1.2.2.2.2.2.2.2.2.2.2.2.2.1,x1.2.2.2.2.2.2.2.2.2.2.2.2.2.1,x1.2.2.2.2.2.2.2.2.2.2.2.2.2.2.2.1,(-(1)),x1.2.1,x1.2.2.1,x1.2.2.2.1,List.set x1.2.2.2.2.1 (Int.toNat x1.1) r2.2.1,x1.2.2.2.2.2.2.2.2.2.2.2.2.2.2.1,())).bind fun r3=>some r3 else none) else none)| .inr _=>none) else none) else none)
def AI (s:(Int×List Lk×List Bool×List Int×List (List Ls)×List Pk×Int×List Lk×List Bool×List Int×List (List Ls)×List Pk×Int×Y4)):Option ((Int×List Lk×List Bool×List Int×List (List Ls)×Int×List Lk×List Bool×List Int×List (List Ls)×List Pk×List Pk×Unit)⊕Unit):=(bif decide ((List.length ([]:List Pk)+List.length s.2.2.2.2.2.1)≤(33554432:Nat)) then (bif decide ((List.length (([]:List Pk)++s.2.2.2.2.2.1)+List.length [(Pk.mk s.2.2.2.2.2.2.2.2.2.2.2.2.1 (Ls.mk s.2.2.2.2.2.2.2.2.2.2.2.2.2.1 s.2.2.2.2.2.2.2.2.2.2.2.2.2.2.1 s.2.2.2.2.2.2.2.2.2.2.2.2.2.2.2.1))])≤(33554432:Nat)) then some (Sum.inl (s.1,s.2.1,s.2.2.1,s.2.2.2.1,s.2.2.2.2.1,s.2.2.2.2.2.2.1,s.2.2.2.2.2.2.2.1,s.2.2.2.2.2.2.2.2.1,s.2.2.2.2.2.2.2.2.2.1,s.2.2.2.2.2.2.2.2.2.2.1,s.2.2.2.2.2.2.2.2.2.2.2.1,((([]:List Pk)++s.2.2.2.2.2.1)++[(Pk.mk s.2.2.2.2.2.2.2.2.2.2.2.2.1 (Ls.mk s.2.2.2.2.2.2.2.2.2.2.2.2.2.1 s.2.2.2.2.2.2.2.2.2.2.2.2.2.2.1 s.2.2.2.2.2.2.2.2.2.2.2.2.2.2.2.1))]),())) else none) else none)
def Tv (s:(Int×List Lk×List Bool×List Int×List (List Ls)×List Pk×Int×Y3)):Option Y0:=(Vf (s.2.2.2.2.2.2.2.1,0,wrap64 (nI (List.length s.2.2.2.2.2.1)-1),())).bind fun r0=>(bif (!r0.1) then some (s.1,s.2.1,s.2.2.1,s.2.2.2.1,s.2.2.2.2.1,s.2.2.2.2.2.1,()) else (bif Ca s.2.2.2.2.2.2.2.1 (List.length s.2.2.2.2.2.1) then (bif decide (s.2.2.2.2.2.2.1=5) then (bif decide (nI (List.length s.2.2.2.2.2.1)<16) then (AI (s.1,s.2.1,s.2.2.1,s.2.2.2.1,s.2.2.2.2.1,s.2.2.2.2.2.1,0,([]:List Lk),([]:List Bool),([]:List Int),([]:List (List Ls)),([]:List Pk),(Aa .pk s.2.2.2.2.2.1 (Int.toNat s.2.2.2.2.2.2.2.1)).t,((Aa .pk s.2.2.2.2.2.1 (Int.toNat s.2.2.2.2.2.2.2.1)).p).o,((Aa .pk s.2.2.2.2.2.1 (Int.toNat s.2.2.2.2.2.2.2.1)).p).s,((Aa .pk s.2.2.2.2.2.1 (Int.toNat s.2.2.2.2.2.2.2.1)).p).e,())).bind fun r1=>(match r1 with| .inl x2=>some (x2.1,x2.2.1,x2.2.2.1,x2.2.2.2.1,x2.2.2.2.2.1,x2.2.2.2.2.2.2.2.2.2.2.2)| .inr _=>none) else some (s.1,s.2.1,s.2.2.1,s.2.2.2.1,s.2.2.2.2.1,s.2.2.2.2.2.1,())) else (bif Gg (0) s.2.2.2.2.2.2.2.1 (List.length s.2.2.2.2.2.1) then (bif Gg (wrap64 (s.2.2.2.2.2.2.2.1+1)) (((List.length s.2.2.2.2.2.1):Nat):Int) (List.length s.2.2.2.2.2.1) then (bif decide ((List.length ([]:List Pk)+List.length (List.take (Int.toNat s.2.2.2.2.2.2.2.1-Int.toNat (0)) (List.drop (Int.toNat (0)) s.2.2.2.2.2.1)))≤(33554432:Nat)) then (bif decide ((List.length (([]:List Pk)++List.take (Int.toNat s.2.2.2.2.2.2.2.1-Int.toNat (0)) (List.drop (Int.toNat (0)) s.2.2.2.2.2.1))+List.length (List.take (Int.toNat (((List.length s.2.2.2.2.2.1):Nat):Int)-Int.toNat (wrap64 (s.2.2.2.2.2.2.2.1+1))) (List.drop (Int.toNat (wrap64 (s.2.2.2.2.2.2.2.1+1))) s.2.2.2.2.2.1)))≤(33554432:Nat)) then (bif decide (s.2.2.2.2.2.2.1=3) then (GQ (s.1,s.2.1,s.2.2.1,s.2.2.2.1,s.2.2.2.2.1,((([]:List Pk)++List.take (Int.toNat s.2.2.2.2.2.2.2.1-Int.toNat (0)) (List.drop (Int.toNat (0)) s.2.2.2.2.2.1))++List.take (Int.toNat (((List.length s.2.2.2.2.2.1):Nat):Int)-Int.toNat (wrap64 (s.2.2.2.2.2.2.2.1+1))) (List.drop (Int.toNat (wrap64 (s.2.2.2.2.2.2.2.1+1))) s.2.2.2.2.2.1)),(Aa .pk s.2.2.2.2.2.1 (Int.toNat s.2.2.2.2.2.2.2.1)).t,((Aa .pk s.2.2.2.2.2.1 (Int.toNat s.2.2.2.2.2.2.2.1)).p).o,((Aa .pk s.2.2.2.2.2.1 (Int.toNat s.2.2.2.2.2.2.2.1)).p).s,((Aa .pk s.2.2.2.2.2.1 (Int.toNat s.2.2.2.2.2.2.2.1)).p).e,())).bind fun r3=>some r3 else some (s.1,s.2.1,s.2.2.1,s.2.2.2.1,s.2.2.2.2.1,((([]:List Pk)++List.take (Int.toNat s.2.2.2.2.2.2.2.1-Int.toNat (0)) (List.drop (Int.toNat (0)) s.2.2.2.2.2.1))++List.take (Int.toNat (((List.length s.2.2.2.2.2.1):Nat):Int)-Int.toNat (wrap64 (s.2.2.2.2.2.2.2.1+1))) (List.drop (Int.toNat (wrap64 (s.2.2.2.2.2.2.2.1+1))) s.2.2.2.2.2.1)),())) else none) else none) else none) else none)) else none))
def BI (s:(Int×Int×List Lk×List Bool×List Int×List (List Ls)×List Pk×Int×Int×Y0)):Option (Y0⊕Unit):=(Tz (s.1,s.2.2.2.2.2.2.2.1,s.2.2.2.2.2.2.2.2.2.2)).bind fun r0=>(Tz (r0.1,s.2.2.2.2.2.2.2.2.1,r0.2)).bind fun r1=>some (Sum.inl r1)
def Xn (s:(Int×List Lk×List Bool×List Int×List (List Ls)×List Pk×Int×Y7)):Option Y0:=(bif Ca s.2.2.2.2.2.2.1 (List.length s.2.1) then (bif Ca s.2.2.2.2.2.2.1 (List.length s.2.2.1) then (bif (Aa .bool s.2.2.1 (Int.toNat s.2.2.2.2.2.2.1)==s.2.2.2.2.2.2.2.1) then some (s.1,s.2.1,s.2.2.1,s.2.2.2.1,s.2.2.2.2.1,s.2.2.2.2.2.1,()) else (bif Ca ((Aa .lk s.2.1 (Int.toNat s.2.2.2.2.2.2.1)).a) (List.length s.2.2.2.1) then (bif decide ((99:Int)≤Aa .int s.2.2.2.1 (Int.toNat ((Aa .lk s.2.1 (Int.toNat s.2.2.2.2.2.2.1)).a))) then some (s.1,s.2.1,s.2.2.1,s.2.2.2.1,s.2.2.2.2.1,s.2.2.2.2.2.1,()) else (bif Ca ((Aa .lk s.2.1 (Int.toNat s.2.2.2.2.2.2.1)).b) (List.length s.2.2.2.1) then (bif decide ((99:Int)≤Aa .int s.2.2.2.1 (Int.toNat ((Aa .lk s.2.1 (Int.toNat s.2.2.2.2.2.2.1)).b))) then some (s.1,s.2.1,s.2.2.1,s.2.2.2.1,s.2.2.2.2.1,s.2.2.2.2.2.1,()) else (Lp (s.1,s.2.1,s.2.2.1,s.2.2.2.1,s.2.2.2.2.1,s.2.2.2.2.2.1,())).bind fun r0=>(bif Ca s.2.2.2.2.2.2.1 (List.length r0.2.2.1) then (BI (r0.1,0,([]:List Lk),([]:List Bool),([]:List Int),([]:List (List Ls)),([]:List Pk),(Aa .lk s.2.1 (Int.toNat s.2.2.2.2.2.2.1)).a,(Aa .lk s.2.1 (Int.toNat s.2.2.2.2.2.2.1)).b,(Aa .lk s.2.1 (Int.toNat s.2.2.2.2.2.2.1)).c,r0.2.1,List.set r0.2.2.1 (Int.toNat s.2.2.2.2.2.2.1) s.2.2.2.2.2.2.2.1,r0.2.2.2)).bind fun r1=>(match r1 with| .inl x2=>some x2| .inr _=>none) else none)) else none)) else none)) else none) else none)
def CI (s:(Int×Y0)):Option (SW⊕Unit):=(bif Ca s.1 (List.length s.2.2.2.2.1) then (CG s.2).bind fun r0=>(Dz (r0.1,r0.2.1,s.1,Aa .int s.2.2.2.2.1 (Int.toNat s.1),())).bind fun r1=>some (Sum.inl (s.1,s.2.1,s.2.2.1,s.2.2.2.1,s.2.2.2.2.1,s.2.2.2.2.2.1,r1.1,r1.2.1,s.2.2.2.2.2.2.1,r1.2.2)) else none)
def DI (s:SW):Option (SW⊕Unit):=(bif Ca s.1 (List.length s.2.2.2.2.2.1) then (Mp (Aa .db s.2.2.2.2.2.1 (Int.toNat s.1),s.2.2.2.2.2.2.1,s.2.2.2.2.2.2.2.1,s.2.2.2.2.2.2.2.2.2)).bind fun r0=>(bif Ca s.1 (List.length s.2.2.2.2.2.1) then some (Sum.inl (s.1,s.2.1,s.2.2.1,s.2.2.2.1,s.2.2.2.2.1,List.set s.2.2.2.2.2.1 (Int.toNat s.1) r0.2.1,s.2.2.2.2.2.2)) else none) else none)
def Bm (s:(Int×Y0)):Option Y0:=(bif Ca s.1 (List.length s.2.2.2.2.1) then (bif Ca s.1 (List.length s.2.2.2.2.1) then (CI (s.1,s.2.1,s.2.2.1,s.2.2.2.1,List.set s.2.2.2.2.1 (Int.toNat s.1) (wrap64 (Aa .int s.2.2.2.2.1 (Int.toNat s.1)+(1:Int))),s.2.2.2.2.2)).bind fun r0=>(match r0 with| .inl x1=>(DI x1).bind fun r2=>(match r2 with| .inl x3=>(Sv (x3.1,x3.2.2.2.2.2.2.1,x3.2.2.2.2.2.2.2.1,x3.2.2.2.2.2.2.2.2.2.1,(-(1)),x3.2.1,x3.2.2.1,x3.2.2.2.1,x3.2.2.2.2.1,x3.2.2.2.2.2.1,x3.2.2.2.2.2.2.2.2.1,())).bind fun r4=>some r4| .inr _=>none)| .inr _=>none) else none) else none)
def EI (s:(Int×Int×Y1)):Option ((Int×Int×Y1)⊕((Int×Y1)⊕Unit)):=(bif decide (s.2.1<nI (List.length s.2.2.2.2.2.2.2.2.2.2.1)) then (Am (s.2.2.2.2.2.2.2.2.1,s.2.2.2.2.2.2.2.2.2.1,s.2.2.2.2.2.2.2.2.2.2.1,s.2.2.2.2.2.2.2.2.2.2.2.1,s.2.2.2.2.2.2.2.2.2.2.2.2.1,s.2.2.2.2.2.2.2.2.2.2.2.2.2.1,s.2.1,())).bind fun r0=>some (Sum.inl (s.1,wrap64 (s.2.1+1),s.2.2.1,s.2.2.2.1,s.2.2.2.2.1,s.2.2.2.2.2.1,s.2.2.2.2.2.2.1,s.2.2.2.2.2.2.2.1,r0)) else some (Sum.inr (Sum.inl (s.1,s.2.2))))
def FI (s:(Int×Y1)):Option ((Int×Y1)⊕(Y1⊕Unit)):=(bif decide (s.1<s.2.2.2.2.2.2.2.1) then (lp EI Ea (s.1,0,s.2)).bind fun r0=>(match r0 with| .inl x1=>some (Sum.inl (wrap64 (x1.1+1),x1.2))| .inr _=>none) else some (Sum.inr (Sum.inl s.2)))
def JQ (s:Y0):Option Y0:=(JG s).bind fun r0=>(bif (!r0.1) then some (0,([]:List Lk),([]:List Bool),([]:List Int),([]:List (List Ls)),([]:List Pk),()) else (Lp s).bind fun r1=>(lp FI Ea (0,0,([]:List Lk),([]:List Bool),([]:List Int),([]:List (List Ls)),([]:List Pk),r1.1,r1.2.1,r1.2.2.1,r1.2.2.2.1,r1.2.2.2.2.1,([]:List Pk),())).bind fun r2=>(match r2 with| .inl x3=>(Lp x3.2.2.2.2.2.2).bind fun r4=>some r4| .inr _=>none))
def KQ (s:(Int×List Lk×List Bool×List Int×List (List Ls)×List Pk×Int×Y3)):Option Y0:=(bif decide (s.2.2.2.2.2.2.1=3) then (bif decide (s.2.2.2.2.2.2.1=3) then (Tv s).bind fun r0=>some r0 else (Vf (s.2.2.2.2.2.2.2.1,0,wrap64 (nI (List.length s.2.2.1)-1),())).bind fun r1=>(bif (!r1.1) then some (s.1,s.2.1,s.2.2.1,s.2.2.2.1,s.2.2.2.2.1,s.2.2.2.2.2.1,()) else (bif decide (s.2.2.2.2.2.2.1=1) then (bif decide (s.2.2.2.2.2.2.1=1) then (Xn (s.1,s.2.1,s.2.2.1,s.2.2.2.1,s.2.2.2.2.1,s.2.2.2.2.2.1,s.2.2.2.2.2.2.2.1,decide (s.2.2.2.2.2.2.1=2),())).bind fun r2=>some r2 else (bif decide (s.2.2.2.2.2.2.1=6) then (Am (s.1,s.2.1,s.2.2.1,s.2.2.2.1,s.2.2.2.2.1,s.2.2.2.2.2.1,s.2.2.2.2.2.2.2)).bind fun r3=>some r3 else some (s.1,s.2.1,s.2.2.1,s.2.2.2.1,s.2.2.2.2.1,s.2.2.2.2.2.1,()))) else (bif decide (s.2.2.2.2.2.2.1=2) then (Xn (s.1,s.2.1,s.2.2.1,s.2.2.2.1,s.2.2.2.2.1,s.2.2.2.2.2.1,s.2.2.2.2.2.2.2.1,decide (s.2.2.2.2.2.2.1=2),())).bind fun r4=>some r4 else (bif decide (s.2.2.2.2.2.2.1=6) then (Am (s.1,s.2.1,s.2.2.1,s.2.2.2.1,s.2.2.2.2.1,s.2.2.2.2.2.1,s.2.2.2.2.2.2.2)).bind fun r5=>some r5 else some (s.1,s.2.1,s.2.2.1,s.2.2.2.1,s.2.2.2.2.1,s.2.2.2.2.2.1,())))))) else (bif decide (s.2.2.2.2.2.2.1=4) then (bif decide (s.2.2.2.2.2.2.1=4) then (Tv s).bind fun r6=>some r6 else (Vf (s.2.2.2.2.2.2.2.1,0,wrap64 (nI (List.length s.2.2.1)-1),())).bind fun r7=>(bif (!r7.1) then some (s.1,s.2.1,s.2.2.1,s.2.2.2.1,s.2.2.2.2.1,s.2.2.2.2.2.1,()) else (bif decide (s.2.2.2.2.2.2.1=1) then (bif decide (s.2.2.2.2.2.2.1=1) then (Xn (s.1,s.2.1,s.2.2.1,s.2.2.2.1,s.2.2.2.2.1,s.2.2.2.2.2.1,s.2.2.2.2.2.2.2.1,decide (s.2.2.2.2.2.2.1=2),())).bind fun r8=>some r8 else (bif decide (s.2.2.2.2.2.2.1=6) then (Am (s.1,s.2.1,s.2.2.1,s.2.2.2.1,s.2.2.2.2.1,s.2.2.2.2.2.1,s.2.2.2.2.2.2.2)).bind fun r9=>some r9 else some (s.1,s.2.1,s.2.2.1,s.2.2.2.1,s.2.2.2.2.1,s.2.2.2.2.2.1,()))) else (bif decide (s.2.2.2.2.2.2.1=2) then (Xn (s.1,s.2.1,s.2.2.1,s.2.2.2.1,s.2.2.2.2.1,s.2.2.2.2.2.1,s.2.2.2.2.2.2.2.1,decide (s.2.2.2.2.2.2.1=2),())).bind fun r10=>some r10 else (bif decide (s.2.2.2.2.2.2.1=6) then (Am (s.1,s.2.1,s.2.2.1,s.2.2.2.1,s.2.2.2.2.1,s.2.2.2.2.2.1,s.2.2.2.2.2.2.2)).bind fun r11=>some r11 else some (s.1,s.2.1,s.2.2.1,s.2.2.2.1,s.2.2.2.2.1,s.2.2.2.2.2.1,())))))) else (bif decide (s.2.2.2.2.2.2.1=5) then (Tv s).bind fun r12=>some r12 else (Vf (s.2.2.2.2.2.2.2.1,0,wrap64 (nI (List.length s.2.2.1)-1),())).bind fun r13=>(bif (!r13.1) then some (s.1,s.2.1,s.2.2.1,s.2.2.2.1,s.2.2.2.2.1,s.2.2.2.2.2.1,()) else (bif decide (s.2.2.2.2.2.2.1=1) then (bif decide (s.2.2.2.2.2.2.1=1) then (Xn (s.1,s.2.1,s.2.2.1,s.2.2.2.1,s.2.2.2.2.1,s.2.2.2.2.2.1,s.2.2.2.2.2.2.2.1,decide (s.2.2.2.2.2.2.1=2),())).bind fun r14=>some r14 else (bif decide (s.2.2.2.2.2.2.1=6) then (Am (s.1,s.2.1,s.2.2.1,s.2.2.2.1,s.2.2.2.2.1,s.2.2.2.2.2.1,s.2.2.2.2.2.2.2)).bind fun r15=>some r15 else some (s.1,s.2.1,s.2.2.1,s.2.2.2.1,s.2.2.2.2.1,s.2.2.2.2.2.1,()))) else (bif decide (s.2.2.2.2.2.2.1=2) then (Xn (s.1,s.2.1,s.2.2.1,s.2.2.2.1,s.2.2.2.2.1,s.2.2.2.2.2.1,s.2.2.2.2.2.2.2.1,decide (s.2.2.2.2.2.2.1=2),())).bind fun r16=>some r16 else (bif decide (s.2.2.2.2.2.2.1=6) then (Am (s.1,s.2.1,s.2.2.1,s.2.2.2.1,s.2.2.2.2.1,s.2.2.2.2.2.1,s.2.2.2.2.2.2.2)).bind fun r17=>some r17 else some (s.1,s.2.1,s.2.2.1,s.2.2.2.1,s.2.2.2.2.1,s.2.2.2.2.2.1,()))))))))
def Uv (s:(Int×List Lk×List Bool×List Int×List (List Ls)×Int×Int×Int×Int×Int×List En×List Pk×Unit)):Option ((Int×List Lk×List Bool×List Int×List (List Ls)×Int×Int×Int×List En×List Pk×Unit)⊕Unit):=(UD (s.2.2.2.2.2.2.1,wrap64 (s.2.2.2.2.2.2.1+1),s.2.2.2.2.2.2.2.2.2.2.2)).bind fun r0=>some (Sum.inl (s.1,s.2.1,s.2.2.1,s.2.2.2.1,s.2.2.2.2.1,s.2.2.2.2.2.2.2.1,s.2.2.2.2.2.2.2.2.1,s.2.2.2.2.2.2.2.2.2.1,s.2.2.2.2.2.2.2.2.2.2.1,r0.1,()))
def Cm (s:(Int×List Lk×List Bool×List Int×List (List Ls)×Int×Int×List Pk×Unit)):Option (Y0⊕Unit):=(UD (s.2.2.2.2.2.2.1,wrap64 (s.2.2.2.2.2.2.1+1),s.2.2.2.2.2.2.2)).bind fun r0=>some (Sum.inl (s.1,s.2.1,s.2.2.1,s.2.2.2.1,s.2.2.2.2.1,r0.1,()))
def Eh (s:(Int×List Lk×List Bool×List Int×List (List Ls)×Int×Int×List Pk×Unit)):Option (Y0⊕Unit):=(bif Ca s.2.2.2.2.2.2.1 (List.length s.2.2.2.2.2.2.2.1) then (bif Ca s.2.2.2.2.2.2.1 (List.length s.2.2.2.2.2.2.2.1) then (Ki (((Aa .pk s.2.2.2.2.2.2.2.1 (Int.toNat s.2.2.2.2.2.2.1)).p).o,((Aa .pk s.2.2.2.2.2.2.2.1 (Int.toNat s.2.2.2.2.2.2.1)).p).s,((Aa .pk s.2.2.2.2.2.2.2.1 (Int.toNat s.2.2.2.2.2.2.1)).p).e,())).bind fun r0=>(bif decide ((List.length s.2.2.2.2.2.2.2.1+List.length [(Pk.mk ((Aa .pk s.2.2.2.2.2.2.2.1 (Int.toNat s.2.2.2.2.2.2.1)).t) (Ls.mk r0.1 r0.2.1 r0.2.2.1))])≤(33554432:Nat)) then some (Sum.inl (s.1,s.2.1,s.2.2.1,s.2.2.2.1,s.2.2.2.2.1,(s.2.2.2.2.2.2.2.1++[(Pk.mk ((Aa .pk s.2.2.2.2.2.2.2.1 (Int.toNat s.2.2.2.2.2.2.1)).t) (Ls.mk r0.1 r0.2.1 r0.2.2.1))]),())) else none) else none) else none)
def Ce (s:(Int×List Lk×List Bool×List Int×List (List Ls)×Int×Int×Int×List Ls×List Pk×Unit)):Option (Y0⊕Unit):=(Gz (s.2.2.2.2.2.2.2.2.1,())).bind fun r0=>(bif Ca s.2.2.2.2.2.1 (List.length s.2.2.2.2.1) then (bif Ca s.2.2.2.2.2.2.1 (List.length (List.set s.2.2.2.2.1 (Int.toNat s.2.2.2.2.2.1) s.2.2.2.2.2.2.2.2.1)) then some (Sum.inl (s.1,s.2.1,s.2.2.1,s.2.2.2.1,List.set (List.set s.2.2.2.2.1 (Int.toNat s.2.2.2.2.2.1) s.2.2.2.2.2.2.2.2.1) (Int.toNat s.2.2.2.2.2.2.1) r0.1,s.2.2.2.2.2.2.2.2.2)) else none) else none)
def HI (s:(Int×Int×Y0)):Option Y0:=(Dh (s.2.1,0,wrap64 (nI (List.length s.2.2.2.2.1)-1),())).bind fun r0=>(Dh (s.2.1,0,wrap64 (nI (List.length s.2.2.2.2.2.2.2.1)-1),())).bind fun r1=>(bif decide (s.1=1) then (bif r0.1 then (bif Ca s.2.1 (List.length s.2.2.2.1) then (bif Ca s.2.1 (List.length s.2.2.2.2.1) then (bif (!(Aa .bool s.2.2.2.2.1 (Int.toNat s.2.1)==decide (s.1=2))) then (bif Ca ((Aa .lk s.2.2.2.1 (Int.toNat s.2.1)).a) (List.length s.2.2.2.2.2.1) then (bif decide (Aa .int s.2.2.2.2.2.1 (Int.toNat ((Aa .lk s.2.2.2.1 (Int.toNat s.2.1)).a))<(99:Int)) then (bif Ca ((Aa .lk s.2.2.2.1 (Int.toNat s.2.1)).b) (List.length s.2.2.2.2.2.1) then (bif decide (Aa .int s.2.2.2.2.2.1 (Int.toNat ((Aa .lk s.2.2.2.1 (Int.toNat s.2.1)).b))<(99:Int)) then (bif Ca s.2.1 (List.length s.2.2.2.2.1) then (Bm ((Aa .lk s.2.2.2.1 (Int.toNat s.2.1)).a,s.2.2.1,s.2.2.2.1,List.set s.2.2.2.2.1 (Int.toNat s.2.1) (decide (s.1=2)),s.2.2.2.2.2)).bind fun r2=>(Bm ((Aa .lk s.2.2.2.1 (Int.toNat s.2.1)).b,r2)).bind fun r3=>some r3 else none) else some s.2.2) else none) else some s.2.2) else none) else some s.2.2) else none) else none) else (bif decide (s.1=3) then (bif r1.1 then (bif Ca s.2.1 (List.length s.2.2.2.2.2.2.2.1) then (Uv (s.2.2.1,s.2.2.2.1,s.2.2.2.2.1,s.2.2.2.2.2.1,s.2.2.2.2.2.2.1,s.1,s.2.1,(Aa .pk s.2.2.2.2.2.2.2.1 (Int.toNat s.2.1)).t,((Aa .pk s.2.2.2.2.2.2.2.1 (Int.toNat s.2.1)).p).o,((Aa .pk s.2.2.2.2.2.2.2.1 (Int.toNat s.2.1)).p).s,((Aa .pk s.2.2.2.2.2.2.2.1 (Int.toNat s.2.1)).p).e,s.2.2.2.2.2.2.2)).bind fun r4=>(match r4 with| .inl x5=>(bif Ca x5.2.2.2.2.2.1 (List.length x5.2.2.2.2.1) then (Mp (Aa .db x5.2.2.2.2.1 (Int.toNat x5.2.2.2.2.2.1),x5.2.2.2.2.2.2.1,x5.2.2.2.2.2.2.2.1,x5.2.2.2.2.2.2.2.2.1,())).bind fun r6=>(bif Ca x5.2.2.2.2.2.1 (List.length x5.2.2.2.2.1) then (bif decide (r6.1=0) then (Sv (x5.2.2.2.2.2.1,x5.2.2.2.2.2.2.1,x5.2.2.2.2.2.2.2.1,x5.2.2.2.2.2.2.2.2.1,x5.2.2.2.2.2.2.1,x5.1,x5.2.1,x5.2.2.1,x5.2.2.2.1,List.set x5.2.2.2.2.1 (Int.toNat x5.2.2.2.2.2.1) r6.2.1,x5.2.2.2.2.2.2.2.2.2)).bind fun r7=>some r7 else some (x5.1,x5.2.1,x5.2.2.1,x5.2.2.2.1,List.set x5.2.2.2.2.1 (Int.toNat x5.2.2.2.2.2.1) r6.2.1,x5.2.2.2.2.2.2.2.2.2)) else none) else none)| .inr _=>none) else none) else (bif decide (s.1=4) then (bif r1.1 then (Cm (s.2.2.1,s.2.2.2.1,s.2.2.2.2.1,s.2.2.2.2.2.1,s.2.2.2.2.2.2.1,s.1,s.2.1,s.2.2.2.2.2.2.2)).bind fun r8=>(match r8 with| .inl x9=>some x9| .inr _=>none) else (bif decide (s.1=5) then (bif r1.1 then (bif decide (nI (List.length s.2.2.2.2.2.2.2.1)<16) then (Eh (s.2.2.1,s.2.2.2.1,s.2.2.2.2.1,s.2.2.2.2.2.1,s.2.2.2.2.2.2.1,s.1,s.2.1,s.2.2.2.2.2.2.2)).bind fun r10=>(match r10 with| .inl x11=>some x11| .inr _=>none) else some s.2.2) else (bif decide (s.1=6) then (bif r0.1 then (bif Ca s.2.1 (List.length s.2.2.2.1) then (bif Ca s.2.1 (List.length s.2.2.2.2.1) then (bif Aa .bool s.2.2.2.2.1 (Int.toNat s.2.1) then (bif Ca ((Aa .lk s.2.2.2.1 (Int.toNat s.2.1)).a) (List.length s.2.2.2.2.2.2.1) then (bif Ca ((Aa .lk s.2.2.2.1 (Int.toNat s.2.1)).b) (List.length s.2.2.2.2.2.2.1) then (Ge (Aa .db s.2.2.2.2.2.2.1 (Int.toNat ((Aa .lk s.2.2.2.1 (Int.toNat s.2.1)).a)),Aa .db s.2.2.2.2.2.2.1 (Int.toNat ((Aa .lk s.2.2.2.1 (Int.toNat s.2.1)).b)),())).bind fun r12=>(Ce (s.2.2.1,s.2.2.2.1,s.2.2.2.2.1,s.2.2.2.2.2.1,s.2.2.2.2.2.2.1,(Aa .lk s.2.2.2.1 (Int.toNat s.2.1)).a,(Aa .lk s.2.2.2.1 (Int.toNat s.2.1)).b,(Aa .lk s.2.2.2.1 (Int.toNat s.2.1)).c,r12.1,s.2.2.2.2.2.2.2)).bind fun r13=>(match r13 with| .inl x14=>some x14| .inr _=>none) else none) else none) else some s.2.2) else none) else none) else some s.2.2) else some s.2.2)) else (bif decide (s.1=6) then (bif r0.1 then (bif Ca s.2.1 (List.length s.2.2.2.1) then (bif Ca s.2.1 (List.length s.2.2.2.2.1) then (bif Aa .bool s.2.2.2.2.1 (Int.toNat s.2.1) then (bif Ca ((Aa .lk s.2.2.2.1 (Int.toNat s.2.1)).a) (List.length s.2.2.2.2.2.2.1) then (bif Ca ((Aa .lk s.2.2.2.1 (Int.toNat s.2.1)).b) (List.length s.2.2.2.2.2.2.1) then (Ge (Aa .db s.2.2.2.2.2.2.1 (Int.toNat ((Aa .lk s.2.2.2.1 (Int.toNat s.2.1)).a)),Aa .db s.2.2.2.2.2.2.1 (Int.toNat ((Aa .lk s.2.2.2.1 (Int.toNat s.2.1)).b)),())).bind fun r15=>(Ce (s.2.2.1,s.2.2.2.1,s.2.2.2.2.1,s.2.2.2.2.2.1,s.2.2.2.2.2.2.1,(Aa .lk s.2.2.2.1 (Int.toNat s.2.1)).a,(Aa .lk s.2.2.2.1 (Int.toNat s.2.1)).b,(Aa .lk s.2.2.2.1 (Int.toNat s.2.1)).c,r15.1,s.2.2.2.2.2.2.2)).bind fun r16=>(match r16 with| .inl x17=>some x17| .inr _=>none) else none) else none) else some s.2.2) else none) else none) else some s.2.2) else some s.2.2))) else (bif decide (s.1=5) then (bif r1.1 then (bif decide (nI (List.length s.2.2.2.2.2.2.2.1)<16) then (Eh (s.2.2.1,s.2.2.2.1,s.2.2.2.2.1,s.2.2.2.2.2.1,s.2.2.2.2.2.2.1,s.1,s.2.1,s.2.2.2.2.2.2.2)).bind fun r18=>(match r18 with| .inl x19=>some x19| .inr _=>none) else some s.2.2) else (bif decide (s.1=6) then (bif r0.1 then (bif Ca s.2.1 (List.length s.2.2.2.1) then (bif Ca s.2.1 (List.length s.2.2.2.2.1) then (bif Aa .bool s.2.2.2.2.1 (Int.toNat s.2.1) then (bif Ca ((Aa .lk s.2.2.2.1 (Int.toNat s.2.1)).a) (List.length s.2.2.2.2.2.2.1) then (bif Ca ((Aa .lk s.2.2.2.1 (Int.toNat s.2.1)).b) (List.length s.2.2.2.2.2.2.1) then (Ge (Aa .db s.2.2.2.2.2.2.1 (Int.toNat ((Aa .lk s.2.2.2.1 (Int.toNat s.2.1)).a)),Aa .db s.2.2.2.2.2.2.1 (Int.toNat ((Aa .lk s.2.2.2.1 (Int.toNat s.2.1)).b)),())).bind fun r20=>(Ce (s.2.2.1,s.2.2.2.1,s.2.2.2.2.1,s.2.2.2.2.2.1,s.2.2.2.2.2.2.1,(Aa .lk s.2.2.2.1 (Int.toNat s.2.1)).a,(Aa .lk s.2.2.2.1 (Int.toNat s.2.1)).b,(Aa .lk s.2.2.2.1 (Int.toNat s.2.1)).c,r20.1,s.2.2.2.2.2.2.2)).bind fun r21=>(match r21 with| .inl x22=>some x22| .inr _=>none) else none) else none) else some s.2.2) else none) else none) else some s.2.2) else some s.2.2)) else (bif decide (s.1=6) then (bif r0.1 then (bif Ca s.2.1 (List.length s.2.2.2.1) then (bif Ca s.2.1 (List.length s.2.2.2.2.1) then (bif Aa .bool s.2.2.2.2.1 (Int.toNat s.2.1) then (bif Ca ((Aa .lk s.2.2.2.1 (Int.toNat s.2.1)).a) (List.length s.2.2.2.2.2.2.1) then (bif Ca ((Aa .lk s.2.2.2.1 (Int.toNat s.2.1)).b) (List.length s.2.2.2.2.2.2.1) then (Ge (Aa .db s.2.2.2.2.2.2.1 (Int.toNat ((Aa .lk s.2.2.2.1 (Int.toNat s.2.1)).a)),Aa .db s.2.2.2.2.2.2.1 (Int.toNat ((Aa .lk s.2.2.2.1 (Int.toNat s.2.1)).b)),())).bind fun r23=>(Ce (s.2.2.1,s.2.2.2.1,s.2.2.2.2.1,s.2.2.2.2.2.1,s.2.2.2.2.2.2.1,(Aa .lk s.2.2.2.1 (Int.toNat s.2.1)).a,(Aa .lk s.2.2.2.1 (Int.toNat s.2.1)).b,(Aa .lk s.2.2.2.1 (Int.toNat s.2.1)).c,r23.1,s.2.2.2.2.2.2.2)).bind fun r24=>(match r24 with| .inl x25=>some x25| .inr _=>none) else none) else none) else some s.2.2) else none) else none) else some s.2.2) else some s.2.2)))) else (bif decide (s.1=4) then (bif r1.1 then (Cm (s.2.2.1,s.2.2.2.1,s.2.2.2.2.1,s.2.2.2.2.2.1,s.2.2.2.2.2.2.1,s.1,s.2.1,s.2.2.2.2.2.2.2)).bind fun r26=>(match r26 with| .inl x27=>some x27| .inr _=>none) else (bif decide (s.1=5) then (bif r1.1 then (bif decide (nI (List.length s.2.2.2.2.2.2.2.1)<16) then (Eh (s.2.2.1,s.2.2.2.1,s.2.2.2.2.1,s.2.2.2.2.2.1,s.2.2.2.2.2.2.1,s.1,s.2.1,s.2.2.2.2.2.2.2)).bind fun r28=>(match r28 with| .inl x29=>some x29| .inr _=>none) else some s.2.2) else (bif decide (s.1=6) then (bif r0.1 then (bif Ca s.2.1 (List.length s.2.2.2.1) then (bif Ca s.2.1 (List.length s.2.2.2.2.1) then (bif Aa .bool s.2.2.2.2.1 (Int.toNat s.2.1) then (bif Ca ((Aa .lk s.2.2.2.1 (Int.toNat s.2.1)).a) (List.length s.2.2.2.2.2.2.1) then (bif Ca ((Aa .lk s.2.2.2.1 (Int.toNat s.2.1)).b) (List.length s.2.2.2.2.2.2.1) then (Ge (Aa .db s.2.2.2.2.2.2.1 (Int.toNat ((Aa .lk s.2.2.2.1 (Int.toNat s.2.1)).a)),Aa .db s.2.2.2.2.2.2.1 (Int.toNat ((Aa .lk s.2.2.2.1 (Int.toNat s.2.1)).b)),())).bind fun r30=>(Ce (s.2.2.1,s.2.2.2.1,s.2.2.2.2.1,s.2.2.2.2.2.1,s.2.2.2.2.2.2.1,(Aa .lk s.2.2.2.1 (Int.toNat s.2.1)).a,(Aa .lk s.2.2.2.1 (Int.toNat s.2.1)).b,(Aa .lk s.2.2.2.1 (Int.toNat s.2.1)).c,r30.1,s.2.2.2.2.2.2.2)).bind fun r31=>(match r31 with| .inl x32=>some x32| .inr _=>none) else none) else none) else some s.2.2) else none) else none) else some s.2.2) else some s.2.2)) else (bif decide (s.1=6) then (bif r0.1 then (bif Ca s.2.1 (List.length s.2.2.2.1) then (bif Ca s.2.1 (List.length s.2.2.2.2.1) then (bif Aa .bool s.2.2.2.2.1 (Int.toNat s.2.1) then (bif Ca ((Aa .lk s.2.2.2.1 (Int.toNat s.2.1)).a) (List.length s.2.2.2.2.2.2.1) then (bif Ca ((Aa .lk s.2.2.2.1 (Int.toNat s.2.1)).b) (List.length s.2.2.2.2.2.2.1) then (Ge (Aa .db s.2.2.2.2.2.2.1 (Int.toNat ((Aa .lk s.2.2.2.1 (Int.toNat s.2.1)).a)),Aa .db s.2.2.2.2.2.2.1 (Int.toNat ((Aa .lk s.2.2.2.1 (Int.toNat s.2.1)).b)),())).bind fun r33=>(Ce (s.2.2.1,s.2.2.2.1,s.2.2.2.2.1,s.2.2.2.2.2.1,s.2.2.2.2.2.2.1,(Aa .lk s.2.2.2.1 (Int.toNat s.2.1)).a,(Aa .lk s.2.2.2.1 (Int.toNat s.2.1)).b,(Aa .lk s.2.2.2.1 (Int.toNat s.2.1)).c,r33.1,s.2.2.2.2.2.2.2)).bind fun r34=>(match r34 with| .inl x35=>some x35| .inr _=>none) else none) else none) else some s.2.2) else none) else none) else some s.2.2) else some s.2.2))) else (bif decide (s.1=5) then (bif r1.1 then (bif decide (nI (List.length s.2.2.2.2.2.2.2.1)<16) then (Eh (s.2.2.1,s.2.2.2.1,s.2.2.2.2.1,s.2.2.2.2.2.1,s.2.2.2.2.2.2.1,s.1,s.2.1,s.2.2.2.2.2.2.2)).bind fun r36=>(match r36 with| .inl x37=>some x37| .inr _=>none) else some s.2.2) else (bif decide (s.1=6) then (bif r0.1 then (bif Ca s.2.1 (List.length s.2.2.2.1) then (bif Ca s.2.1 (List.length s.2.2.2.2.1) then (bif Aa .bool s.2.2.2.2.1 (Int.toNat s.2.1) then (bif Ca ((Aa .lk s.2.2.2.1 (Int.toNat s.2.1)).a) (List.length s.2.2.2.2.2.2.1) then (bif Ca ((Aa .lk s.2.2.2.1 (Int.toNat s.2.1)).b) (List.length s.2.2.2.2.2.2.1) then (Ge (Aa .db s.2.2.2.2.2.2.1 (Int.toNat ((Aa .lk s.2.2.2.1 (Int.toNat s.2.1)).a)),Aa .db s.2.2.2.2.2.2.1 (Int.toNat ((Aa .lk s.2.2.2.1 (Int.toNat s.2.1)).b)),())).bind fun r38=>(Ce (s.2.2.1,s.2.2.2.1,s.2.2.2.2.1,s.2.2.2.2.2.1,s.2.2.2.2.2.2.1,(Aa .lk s.2.2.2.1 (Int.toNat s.2.1)).a,(Aa .lk s.2.2.2.1 (Int.toNat s.2.1)).b,(Aa .lk s.2.2.2.1 (Int.toNat s.2.1)).c,r38.1,s.2.2.2.2.2.2.2)).bind fun r39=>(match r39 with| .inl x40=>some x40| .inr _=>none) else none) else none) else some s.2.2) else none) else none) else some s.2.2) else some s.2.2)) else (bif decide (s.1=6) then (bif r0.1 then (bif Ca s.2.1 (List.length s.2.2.2.1) then (bif Ca s.2.1 (List.length s.2.2.2.2.1) then (bif Aa .bool s.2.2.2.2.1 (Int.toNat s.2.1) then (bif Ca ((Aa .lk s.2.2.2.1 (Int.toNat s.2.1)).a) (List.length s.2.2.2.2.2.2.1) then (bif Ca ((Aa .lk s.2.2.2.1 (Int.toNat s.2.1)).b) (List.length s.2.2.2.2.2.2.1) then (Ge (Aa .db s.2.2.2.2.2.2.1 (Int.toNat ((Aa .lk s.2.2.2.1 (Int.toNat s.2.1)).a)),Aa .db s.2.2.2.2.2.2.1 (Int.toNat ((Aa .lk s.2.2.2.1 (Int.toNat s.2.1)).b)),())).bind fun r41=>(Ce (s.2.2.1,s.2.2.2.1,s.2.2.2.2.1,s.2.2.2.2.2.1,s.2.2.2.2.2.2.1,(Aa .lk s.2.2.2.1 (Int.toNat s.2.1)).a,(Aa .lk s.2.2.2.1 (Int.toNat s.2.1)).b,(Aa .lk s.2.2.2.1 (Int.toNat s.2.1)).c,r41.1,s.2.2.2.2.2.2.2)).bind fun r42=>(match r42 with| .inl x43=>some x43| .inr _=>none) else none) else none) else some s.2.2) else none) else none) else some s.2.2) else some s.2.2))))) else (bif decide (s.1=2) then (bif r0.1 then (bif Ca s.2.1 (List.length s.2.2.2.1) then (bif Ca s.2.1 (List.length s.2.2.2.2.1) then (bif (!(Aa .bool s.2.2.2.2.1 (Int.toNat s.2.1)==decide (s.1=2))) then (bif Ca ((Aa .lk s.2.2.2.1 (Int.toNat s.2.1)).a) (List.length s.2.2.2.2.2.1) then (bif decide (Aa .int s.2.2.2.2.2.1 (Int.toNat ((Aa .lk s.2.2.2.1 (Int.toNat s.2.1)).a))<(99:Int)) then (bif Ca ((Aa .lk s.2.2.2.1 (Int.toNat s.2.1)).b) (List.length s.2.2.2.2.2.1) then (bif decide (Aa .int s.2.2.2.2.2.1 (Int.toNat ((Aa .lk s.2.2.2.1 (Int.toNat s.2.1)).b))<(99:Int)) then (bif Ca s.2.1 (List.length s.2.2.2.2.1) then (Bm ((Aa .lk s.2.2.2.1 (Int.toNat s.2.1)).a,s.2.2.1,s.2.2.2.1,List.set s.2.2.2.2.1 (Int.toNat s.2.1) (decide (s.1=2)),s.2.2.2.2.2)).bind fun r44=>(Bm ((Aa .lk s.2.2.2.1 (Int.toNat s.2.1)).b,r44)).bind fun r45=>some r45 else none) else some s.2.2) else none) else some s.2.2) else none) else some s.2.2) else none) else none) else (bif decide (s.1=3) then (bif r1.1 then (bif Ca s.2.1 (List.length s.2.2.2.2.2.2.2.1) then (Uv (s.2.2.1,s.2.2.2.1,s.2.2.2.2.1,s.2.2.2.2.2.1,s.2.2.2.2.2.2.1,s.1,s.2.1,(Aa .pk s.2.2.2.2.2.2.2.1 (Int.toNat s.2.1)).t,((Aa .pk s.2.2.2.2.2.2.2.1 (Int.toNat s.2.1)).p).o,((Aa .pk s.2.2.2.2.2.2.2.1 (Int.toNat s.2.1)).p).s,((Aa .pk s.2.2.2.2.2.2.2.1 (Int.toNat s.2.1)).p).e,s.2.2.2.2.2.2.2)).bind fun r46=>(match r46 with| .inl x47=>(bif Ca x47.2.2.2.2.2.1 (List.length x47.2.2.2.2.1) then (Mp (Aa .db x47.2.2.2.2.1 (Int.toNat x47.2.2.2.2.2.1),x47.2.2.2.2.2.2.1,x47.2.2.2.2.2.2.2.1,x47.2.2.2.2.2.2.2.2.1,())).bind fun r48=>(bif Ca x47.2.2.2.2.2.1 (List.length x47.2.2.2.2.1) then (bif decide (r48.1=0) then (Sv (x47.2.2.2.2.2.1,x47.2.2.2.2.2.2.1,x47.2.2.2.2.2.2.2.1,x47.2.2.2.2.2.2.2.2.1,x47.2.2.2.2.2.2.1,x47.1,x47.2.1,x47.2.2.1,x47.2.2.2.1,List.set x47.2.2.2.2.1 (Int.toNat x47.2.2.2.2.2.1) r48.2.1,x47.2.2.2.2.2.2.2.2.2)).bind fun r49=>some r49 else some (x47.1,x47.2.1,x47.2.2.1,x47.2.2.2.1,List.set x47.2.2.2.2.1 (Int.toNat x47.2.2.2.2.2.1) r48.2.1,x47.2.2.2.2.2.2.2.2.2)) else none) else none)| .inr _=>none) else none) else (bif decide (s.1=4) then (bif r1.1 then (Cm (s.2.2.1,s.2.2.2.1,s.2.2.2.2.1,s.2.2.2.2.2.1,s.2.2.2.2.2.2.1,s.1,s.2.1,s.2.2.2.2.2.2.2)).bind fun r50=>(match r50 with| .inl x51=>some x51| .inr _=>none) else (bif decide (s.1=5) then (bif r1.1 then (bif decide (nI (List.length s.2.2.2.2.2.2.2.1)<16) then (Eh (s.2.2.1,s.2.2.2.1,s.2.2.2.2.1,s.2.2.2.2.2.1,s.2.2.2.2.2.2.1,s.1,s.2.1,s.2.2.2.2.2.2.2)).bind fun r52=>(match r52 with| .inl x53=>some x53| .inr _=>none) else some s.2.2) else (bif decide (s.1=6) then (bif r0.1 then (bif Ca s.2.1 (List.length s.2.2.2.1) then (bif Ca s.2.1 (List.length s.2.2.2.2.1) then (bif Aa .bool s.2.2.2.2.1 (Int.toNat s.2.1) then (bif Ca ((Aa .lk s.2.2.2.1 (Int.toNat s.2.1)).a) (List.length s.2.2.2.2.2.2.1) then (bif Ca ((Aa .lk s.2.2.2.1 (Int.toNat s.2.1)).b) (List.length s.2.2.2.2.2.2.1) then (Ge (Aa .db s.2.2.2.2.2.2.1 (Int.toNat ((Aa .lk s.2.2.2.1 (Int.toNat s.2.1)).a)),Aa .db s.2.2.2.2.2.2.1 (Int.toNat ((Aa .lk s.2.2.2.1 (Int.toNat s.2.1)).b)),())).bind fun r54=>(Ce (s.2.2.1,s.2.2.2.1,s.2.2.2.2.1,s.2.2.2.2.2.1,s.2.2.2.2.2.2.1,(Aa .lk s.2.2.2.1 (Int.toNat s.2.1)).a,(Aa .lk s.2.2.2.1 (Int.toNat s.2.1)).b,(Aa .lk s.2.2.2.1 (Int.toNat s.2.1)).c,r54.1,s.2.2.2.2.2.2.2)).bind fun r55=>(match r55 with| .inl x56=>some x56| .inr _=>none) else none) else none) else some s.2.2) else none) else none) else some s.2.2) else some s.2.2)) else (bif decide (s.1=6) then (bif r0.1 then (bif Ca s.2.1 (List.length s.2.2.2.1) then (bif Ca s.2.1 (List.length s.2.2.2.2.1) then (bif Aa .bool s.2.2.2.2.1 (Int.toNat s.2.1) then (bif Ca ((Aa .lk s.2.2.2.1 (Int.toNat s.2.1)).a) (List.length s.2.2.2.2.2.2.1) then (bif Ca ((Aa .lk s.2.2.2.1 (Int.toNat s.2.1)).b) (List.length s.2.2.2.2.2.2.1) then (Ge (Aa .db s.2.2.2.2.2.2.1 (Int.toNat ((Aa .lk s.2.2.2.1 (Int.toNat s.2.1)).a)),Aa .db s.2.2.2.2.2.2.1 (Int.toNat ((Aa .lk s.2.2.2.1 (Int.toNat s.2.1)).b)),())).bind fun r57=>(Ce (s.2.2.1,s.2.2.2.1,s.2.2.2.2.1,s.2.2.2.2.2.1,s.2.2.2.2.2.2.1,(Aa .lk s.2.2.2.1 (Int.toNat s.2.1)).a,(Aa .lk s.2.2.2.1 (Int.toNat s.2.1)).b,(Aa .lk s.2.2.2.1 (Int.toNat s.2.1)).c,r57.1,s.2.2.2.2.2.2.2)).bind fun r58=>(match r58 with| .inl x59=>some x59| .inr _=>none) else none) else none) else some s.2.2) else none) else none) else some s.2.2) else some s.2.2))) else (bif decide (s.1=5) then (bif r1.1 then (bif decide (nI (List.length s.2.2.2.2.2.2.2.1)<16) then (Eh (s.2.2.1,s.2.2.2.1,s.2.2.2.2.1,s.2.2.2.2.2.1,s.2.2.2.2.2.2.1,s.1,s.2.1,s.2.2.2.2.2.2.2)).bind fun r60=>(match r60 with| .inl x61=>some x61| .inr _=>none) else some s.2.2) else (bif decide (s.1=6) then (bif r0.1 then (bif Ca s.2.1 (List.length s.2.2.2.1) then (bif Ca s.2.1 (List.length s.2.2.2.2.1) then (bif Aa .bool s.2.2.2.2.1 (Int.toNat s.2.1) then (bif Ca ((Aa .lk s.2.2.2.1 (Int.toNat s.2.1)).a) (List.length s.2.2.2.2.2.2.1) then (bif Ca ((Aa .lk s.2.2.2.1 (Int.toNat s.2.1)).b) (List.length s.2.2.2.2.2.2.1) then (Ge (Aa .db s.2.2.2.2.2.2.1 (Int.toNat ((Aa .lk s.2.2.2.1 (Int.toNat s.2.1)).a)),Aa .db s.2.2.2.2.2.2.1 (Int.toNat ((Aa .lk s.2.2.2.1 (Int.toNat s.2.1)).b)),())).bind fun r62=>(Ce (s.2.2.1,s.2.2.2.1,s.2.2.2.2.1,s.2.2.2.2.2.1,s.2.2.2.2.2.2.1,(Aa .lk s.2.2.2.1 (Int.toNat s.2.1)).a,(Aa .lk s.2.2.2.1 (Int.toNat s.2.1)).b,(Aa .lk s.2.2.2.1 (Int.toNat s.2.1)).c,r62.1,s.2.2.2.2.2.2.2)).bind fun r63=>(match r63 with| .inl x64=>some x64| .inr _=>none) else none) else none) else some s.2.2) else none) else none) else some s.2.2) else some s.2.2)) else (bif decide (s.1=6) then (bif r0.1 then (bif Ca s.2.1 (List.length s.2.2.2.1) then (bif Ca s.2.1 (List.length s.2.2.2.2.1) then (bif Aa .bool s.2.2.2.2.1 (Int.toNat s.2.1) then (bif Ca ((Aa .lk s.2.2.2.1 (Int.toNat s.2.1)).a) (List.length s.2.2.2.2.2.2.1) then (bif Ca ((Aa .lk s.2.2.2.1 (Int.toNat s.2.1)).b) (List.length s.2.2.2.2.2.2.1) then (Ge (Aa .db s.2.2.2.2.2.2.1 (Int.toNat ((Aa .lk s.2.2.2.1 (Int.toNat s.2.1)).a)),Aa .db s.2.2.2.2.2.2.1 (Int.toNat ((Aa .lk s.2.2.2.1 (Int.toNat s.2.1)).b)),())).bind fun r65=>(Ce (s.2.2.1,s.2.2.2.1,s.2.2.2.2.1,s.2.2.2.2.2.1,s.2.2.2.2.2.2.1,(Aa .lk s.2.2.2.1 (Int.toNat s.2.1)).a,(Aa .lk s.2.2.2.1 (Int.toNat s.2.1)).b,(Aa .lk s.2.2.2.1 (Int.toNat s.2.1)).c,r65.1,s.2.2.2.2.2.2.2)).bind fun r66=>(match r66 with| .inl x67=>some x67| .inr _=>none) else none) else none) else some s.2.2) else none) else none) else some s.2.2) else some s.2.2)))) else (bif decide (s.1=4) then (bif r1.1 then (Cm (s.2.2.1,s.2.2.2.1,s.2.2.2.2.1,s.2.2.2.2.2.1,s.2.2.2.2.2.2.1,s.1,s.2.1,s.2.2.2.2.2.2.2)).bind fun r68=>(match r68 with| .inl x69=>some x69| .inr _=>none) else (bif decide (s.1=5) then (bif r1.1 then (bif decide (nI (List.length s.2.2.2.2.2.2.2.1)<16) then (Eh (s.2.2.1,s.2.2.2.1,s.2.2.2.2.1,s.2.2.2.2.2.1,s.2.2.2.2.2.2.1,s.1,s.2.1,s.2.2.2.2.2.2.2)).bind fun r70=>(match r70 with| .inl x71=>some x71| .inr _=>none) else some s.2.2) else (bif decide (s.1=6) then (bif r0.1 then (bif Ca s.2.1 (List.length s.2.2.2.1) then (bif Ca s.2.1 (List.length s.2.2.2.2.1) then (bif Aa .bool s.2.2.2.2.1 (Int.toNat s.2.1) then (bif Ca ((Aa .lk s.2.2.2.1 (Int.toNat s.2.1)).a) (List.length s.2.2.2.2.2.2.1) then (bif Ca ((Aa .lk s.2.2.2.1 (Int.toNat s.2.1)).b) (List.length s.2.2.2.2.2.2.1) then (Ge (Aa .db s.2.2.2.2.2.2.1 (Int.toNat ((Aa .lk s.2.2.2.1 (Int.toNat s.2.1)).a)),Aa .db s.2.2.2.2.2.2.1 (Int.toNat ((Aa .lk s.2.2.2.1 (Int.toNat s.2.1)).b)),())).bind fun r72=>(Ce (s.2.2.1,s.2.2.2.1,s.2.2.2.2.1,s.2.2.2.2.2.1,s.2.2.2.2.2.2.1,(Aa .lk s.2.2.2.1 (Int.toNat s.2.1)).a,(Aa .lk s.2.2.2.1 (Int.toNat s.2.1)).b,(Aa .lk s.2.2.2.1 (Int.toNat s.2.1)).c,r72.1,s.2.2.2.2.2.2.2)).bind fun r73=>(match r73 with| .inl x74=>some x74| .inr _=>none) else none) else none) else some s.2.2) else none) else none) else some s.2.2) else some s.2.2)) else (bif decide (s.1=6) then (bif r0.1 then (bif Ca s.2.1 (List.length s.2.2.2.1) then (bif Ca s.2.1 (List.length s.2.2.2.2.1) then (bif Aa .bool s.2.2.2.2.1 (Int.toNat s.2.1) then (bif Ca ((Aa .lk s.2.2.2.1 (Int.toNat s.2.1)).a) (List.length s.2.2.2.2.2.2.1) then (bif Ca ((Aa .lk s.2.2.2.1 (Int.toNat s.2.1)).b) (List.length s.2.2.2.2.2.2.1) then (Ge (Aa .db s.2.2.2.2.2.2.1 (Int.toNat ((Aa .lk s.2.2.2.1 (Int.toNat s.2.1)).a)),Aa .db s.2.2.2.2.2.2.1 (Int.toNat ((Aa .lk s.2.2.2.1 (Int.toNat s.2.1)).b)),())).bind fun r75=>(Ce (s.2.2.1,s.2.2.2.1,s.2.2.2.2.1,s.2.2.2.2.2.1,s.2.2.2.2.2.2.1,(Aa .lk s.2.2.2.1 (Int.toNat s.2.1)).a,(Aa .lk s.2.2.2.1 (Int.toNat s.2.1)).b,(Aa .lk s.2.2.2.1 (Int.toNat s.2.1)).c,r75.1,s.2.2.2.2.2.2.2)).bind fun r76=>(match r76 with| .inl x77=>some x77| .inr _=>none) else none) else none) else some s.2.2) else none) else none) else some s.2.2) else some s.2.2))) else (bif decide (s.1=5) then (bif r1.1 then (bif decide (nI (List.length s.2.2.2.2.2.2.2.1)<16) then (Eh (s.2.2.1,s.2.2.2.1,s.2.2.2.2.1,s.2.2.2.2.2.1,s.2.2.2.2.2.2.1,s.1,s.2.1,s.2.2.2.2.2.2.2)).bind fun r78=>(match r78 with| .inl x79=>some x79| .inr _=>none) else some s.2.2) else (bif decide (s.1=6) then (bif r0.1 then (bif Ca s.2.1 (List.length s.2.2.2.1) then (bif Ca s.2.1 (List.length s.2.2.2.2.1) then (bif Aa .bool s.2.2.2.2.1 (Int.toNat s.2.1) then (bif Ca ((Aa .lk s.2.2.2.1 (Int.toNat s.2.1)).a) (List.length s.2.2.2.2.2.2.1) then (bif Ca ((Aa .lk s.2.2.2.1 (Int.toNat s.2.1)).b) (List.length s.2.2.2.2.2.2.1) then (Ge (Aa .db s.2.2.2.2.2.2.1 (Int.toNat ((Aa .lk s.2.2.2.1 (Int.toNat s.2.1)).a)),Aa .db s.2.2.2.2.2.2.1 (Int.toNat ((Aa .lk s.2.2.2.1 (Int.toNat s.2.1)).b)),())).bind fun r80=>(Ce (s.2.2.1,s.2.2.2.1,s.2.2.2.2.1,s.2.2.2.2.2.1,s.2.2.2.2.2.2.1,(Aa .lk s.2.2.2.1 (Int.toNat s.2.1)).a,(Aa .lk s.2.2.2.1 (Int.toNat s.2.1)).b,(Aa .lk s.2.2.2.1 (Int.toNat s.2.1)).c,r80.1,s.2.2.2.2.2.2.2)).bind fun r81=>(match r81 with| .inl x82=>some x82| .inr _=>none) else none) else none) else some s.2.2) else none) else none) else some s.2.2) else some s.2.2)) else (bif decide (s.1=6) then (bif r0.1 then (bif Ca s.2.1 (List.length s.2.2.2.1) then (bif Ca s.2.1 (List.length s.2.2.2.2.1) then (bif Aa .bool s.2.2.2.2.1 (Int.toNat s.2.1) then (bif Ca ((Aa .lk s.2.2.2.1 (Int.toNat s.2.1)).a) (List.length s.2.2.2.2.2.2.1) then (bif Ca ((Aa .lk s.2.2.2.1 (Int.toNat s.2.1)).b) (List.length s.2.2.2.2.2.2.1) then (Ge (Aa .db s.2.2.2.2.2.2.1 (Int.toNat ((Aa .lk s.2.2.2.1 (Int.toNat s.2.1)).a)),Aa .db s.2.2.2.2.2.2.1 (Int.toNat ((Aa .lk s.2.2.2.1 (Int.toNat s.2.1)).b)),())).bind fun r83=>(Ce (s.2.2.1,s.2.2.2.1,s.2.2.2.2.1,s.2.2.2.2.2.1,s.2.2.2.2.2.2.1,(Aa .lk s.2.2.2.1 (Int.toNat s.2.1)).a,(Aa .lk s.2.2.2.1 (Int.toNat s.2.1)).b,(Aa .lk s.2.2.2.1 (Int.toNat s.2.1)).c,r83.1,s.2.2.2.2.2.2.2)).bind fun r84=>(match r84 with| .inl x85=>some x85| .inr _=>none) else none) else none) else some s.2.2) else none) else none) else some s.2.2) else some s.2.2))))) else (bif decide (s.1=3) then (bif r1.1 then (bif Ca s.2.1 (List.length s.2.2.2.2.2.2.2.1) then (Uv (s.2.2.1,s.2.2.2.1,s.2.2.2.2.1,s.2.2.2.2.2.1,s.2.2.2.2.2.2.1,s.1,s.2.1,(Aa .pk s.2.2.2.2.2.2.2.1 (Int.toNat s.2.1)).t,((Aa .pk s.2.2.2.2.2.2.2.1 (Int.toNat s.2.1)).p).o,((Aa .pk s.2.2.2.2.2.2.2.1 (Int.toNat s.2.1)).p).s,((Aa .pk s.2.2.2.2.2.2.2.1 (Int.toNat s.2.1)).p).e,s.2.2.2.2.2.2.2)).bind fun r86=>(match r86 with| .inl x87=>(bif Ca x87.2.2.2.2.2.1 (List.length x87.2.2.2.2.1) then (Mp (Aa .db x87.2.2.2.2.1 (Int.toNat x87.2.2.2.2.2.1),x87.2.2.2.2.2.2.1,x87.2.2.2.2.2.2.2.1,x87.2.2.2.2.2.2.2.2.1,())).bind fun r88=>(bif Ca x87.2.2.2.2.2.1 (List.length x87.2.2.2.2.1) then (bif decide (r88.1=0) then (Sv (x87.2.2.2.2.2.1,x87.2.2.2.2.2.2.1,x87.2.2.2.2.2.2.2.1,x87.2.2.2.2.2.2.2.2.1,x87.2.2.2.2.2.2.1,x87.1,x87.2.1,x87.2.2.1,x87.2.2.2.1,List.set x87.2.2.2.2.1 (Int.toNat x87.2.2.2.2.2.1) r88.2.1,x87.2.2.2.2.2.2.2.2.2)).bind fun r89=>some r89 else some (x87.1,x87.2.1,x87.2.2.1,x87.2.2.2.1,List.set x87.2.2.2.2.1 (Int.toNat x87.2.2.2.2.2.1) r88.2.1,x87.2.2.2.2.2.2.2.2.2)) else none) else none)| .inr _=>none) else none) else (bif decide (s.1=4) then (bif r1.1 then (Cm (s.2.2.1,s.2.2.2.1,s.2.2.2.2.1,s.2.2.2.2.2.1,s.2.2.2.2.2.2.1,s.1,s.2.1,s.2.2.2.2.2.2.2)).bind fun r90=>(match r90 with| .inl x91=>some x91| .inr _=>none) else (bif decide (s.1=5) then (bif r1.1 then (bif decide (nI (List.length s.2.2.2.2.2.2.2.1)<16) then (Eh (s.2.2.1,s.2.2.2.1,s.2.2.2.2.1,s.2.2.2.2.2.1,s.2.2.2.2.2.2.1,s.1,s.2.1,s.2.2.2.2.2.2.2)).bind fun r92=>(match r92 with| .inl x93=>some x93| .inr _=>none) else some s.2.2) else (bif decide (s.1=6) then (bif r0.1 then (bif Ca s.2.1 (List.length s.2.2.2.1) then (bif Ca s.2.1 (List.length s.2.2.2.2.1) then (bif Aa .bool s.2.2.2.2.1 (Int.toNat s.2.1) then (bif Ca ((Aa .lk s.2.2.2.1 (Int.toNat s.2.1)).a) (List.length s.2.2.2.2.2.2.1) then (bif Ca ((Aa .lk s.2.2.2.1 (Int.toNat s.2.1)).b) (List.length s.2.2.2.2.2.2.1) then (Ge (Aa .db s.2.2.2.2.2.2.1 (Int.toNat ((Aa .lk s.2.2.2.1 (Int.toNat s.2.1)).a)),Aa .db s.2.2.2.2.2.2.1 (Int.toNat ((Aa .lk s.2.2.2.1 (Int.toNat s.2.1)).b)),())).bind fun r94=>(Ce (s.2.2.1,s.2.2.2.1,s.2.2.2.2.1,s.2.2.2.2.2.1,s.2.2.2.2.2.2.1,(Aa .lk s.2.2.2.1 (Int.toNat s.2.1)).a,(Aa .lk s.2.2.2.1 (Int.toNat s.2.1)).b,(Aa .lk s.2.2.2.1 (Int.toNat s.2.1)).c,r94.1,s.2.2.2.2.2.2.2)).bind fun r95=>(match r95 with| .inl x96=>some x96| .inr _=>none) else none) else none) else some s.2.2) else none) else none) else some s.2.2) else some s.2.2)) else (bif decide (s.1=6) then (bif r0.1 then (bif Ca s.2.1 (List.length s.2.2.2.1) then (bif Ca s.2.1 (List.length s.2.2.2.2.1) then (bif Aa .bool s.2.2.2.2.1 (Int.toNat s.2.1) then (bif Ca ((Aa .lk s.2.2.2.1 (Int.toNat s.2.1)).a) (List.length s.2.2.2.2.2.2.1) then (bif Ca ((Aa .lk s.2.2.2.1 (Int.toNat s.2.1)).b) (List.length s.2.2.2.2.2.2.1) then (Ge (Aa .db s.2.2.2.2.2.2.1 (Int.toNat ((Aa .lk s.2.2.2.1 (Int.toNat s.2.1)).a)),Aa .db s.2.2.2.2.2.2.1 (Int.toNat ((Aa .lk s.2.2.2.1 (Int.toNat s.2.1)).b)),())).bind fun r97=>(Ce (s.2.2.1,s.2.2.2.1,s.2.2.2.2.1,s.2.2.2.2.2.1,s.2.2.2.2.2.2.1,(Aa .lk s.2.2.2.1 (Int.toNat s.2.1)).a,(Aa .lk s.2.2.2.1 (Int.toNat s.2.1)).b,(Aa .lk s.2.2.2.1 (Int.toNat s.2.1)).c,r97.1,s.2.2.2.2.2.2.2)).bind fun r98=>(match r98 with| .inl x99=>some x99| .inr _=>none) else none) else none) else some s.2.2) else none) else none) else some s.2.2) else some s.2.2))) else (bif decide (s.1=5) then (bif r1.1 then (bif decide (nI (List.length s.2.2.2.2.2.2.2.1)<16) then (Eh (s.2.2.1,s.2.2.2.1,s.2.2.2.2.1,s.2.2.2.2.2.1,s.2.2.2.2.2.2.1,s.1,s.2.1,s.2.2.2.2.2.2.2)).bind fun r100=>(match r100 with| .inl x101=>some x101| .inr _=>none) else some s.2.2) else (bif decide (s.1=6) then (bif r0.1 then (bif Ca s.2.1 (List.length s.2.2.2.1) then (bif Ca s.2.1 (List.length s.2.2.2.2.1) then (bif Aa .bool s.2.2.2.2.1 (Int.toNat s.2.1) then (bif Ca ((Aa .lk s.2.2.2.1 (Int.toNat s.2.1)).a) (List.length s.2.2.2.2.2.2.1) then (bif Ca ((Aa .lk s.2.2.2.1 (Int.toNat s.2.1)).b) (List.length s.2.2.2.2.2.2.1) then (Ge (Aa .db s.2.2.2.2.2.2.1 (Int.toNat ((Aa .lk s.2.2.2.1 (Int.toNat s.2.1)).a)),Aa .db s.2.2.2.2.2.2.1 (Int.toNat ((Aa .lk s.2.2.2.1 (Int.toNat s.2.1)).b)),())).bind fun r102=>(Ce (s.2.2.1,s.2.2.2.1,s.2.2.2.2.1,s.2.2.2.2.2.1,s.2.2.2.2.2.2.1,(Aa .lk s.2.2.2.1 (Int.toNat s.2.1)).a,(Aa .lk s.2.2.2.1 (Int.toNat s.2.1)).b,(Aa .lk s.2.2.2.1 (Int.toNat s.2.1)).c,r102.1,s.2.2.2.2.2.2.2)).bind fun r103=>(match r103 with| .inl x104=>some x104| .inr _=>none) else none) else none) else some s.2.2) else none) else none) else some s.2.2) else some s.2.2)) else (bif decide (s.1=6) then (bif r0.1 then (bif Ca s.2.1 (List.length s.2.2.2.1) then (bif Ca s.2.1 (List.length s.2.2.2.2.1) then (bif Aa .bool s.2.2.2.2.1 (Int.toNat s.2.1) then (bif Ca ((Aa .lk s.2.2.2.1 (Int.toNat s.2.1)).a) (List.length s.2.2.2.2.2.2.1) then (bif Ca ((Aa .lk s.2.2.2.1 (Int.toNat s.2.1)).b) (List.length s.2.2.2.2.2.2.1) then (Ge (Aa .db s.2.2.2.2.2.2.1 (Int.toNat ((Aa .lk s.2.2.2.1 (Int.toNat s.2.1)).a)),Aa .db s.2.2.2.2.2.2.1 (Int.toNat ((Aa .lk s.2.2.2.1 (Int.toNat s.2.1)).b)),())).bind fun r105=>(Ce (s.2.2.1,s.2.2.2.1,s.2.2.2.2.1,s.2.2.2.2.2.1,s.2.2.2.2.2.2.1,(Aa .lk s.2.2.2.1 (Int.toNat s.2.1)).a,(Aa .lk s.2.2.2.1 (Int.toNat s.2.1)).b,(Aa .lk s.2.2.2.1 (Int.toNat s.2.1)).c,r105.1,s.2.2.2.2.2.2.2)).bind fun r106=>(match r106 with| .inl x107=>some x107| .inr _=>none) else none) else none) else some s.2.2) else none) else none) else some s.2.2) else some s.2.2)))) else (bif decide (s.1=4) then (bif r1.1 then (Cm (s.2.2.1,s.2.2.2.1,s.2.2.2.2.1,s.2.2.2.2.2.1,s.2.2.2.2.2.2.1,s.1,s.2.1,s.2.2.2.2.2.2.2)).bind fun r108=>(match r108 with| .inl x109=>some x109| .inr _=>none) else (bif decide (s.1=5) then (bif r1.1 then (bif decide (nI (List.length s.2.2.2.2.2.2.2.1)<16) then (Eh (s.2.2.1,s.2.2.2.1,s.2.2.2.2.1,s.2.2.2.2.2.1,s.2.2.2.2.2.2.1,s.1,s.2.1,s.2.2.2.2.2.2.2)).bind fun r110=>(match r110 with| .inl x111=>some x111| .inr _=>none) else some s.2.2) else (bif decide (s.1=6) then (bif r0.1 then (bif Ca s.2.1 (List.length s.2.2.2.1) then (bif Ca s.2.1 (List.length s.2.2.2.2.1) then (bif Aa .bool s.2.2.2.2.1 (Int.toNat s.2.1) then (bif Ca ((Aa .lk s.2.2.2.1 (Int.toNat s.2.1)).a) (List.length s.2.2.2.2.2.2.1) then (bif Ca ((Aa .lk s.2.2.2.1 (Int.toNat s.2.1)).b) (List.length s.2.2.2.2.2.2.1) then (Ge (Aa .db s.2.2.2.2.2.2.1 (Int.toNat ((Aa .lk s.2.2.2.1 (Int.toNat s.2.1)).a)),Aa .db s.2.2.2.2.2.2.1 (Int.toNat ((Aa .lk s.2.2.2.1 (Int.toNat s.2.1)).b)),())).bind fun r112=>(Ce (s.2.2.1,s.2.2.2.1,s.2.2.2.2.1,s.2.2.2.2.2.1,s.2.2.2.2.2.2.1,(Aa .lk s.2.2.2.1 (Int.toNat s.2.1)).a,(Aa .lk s.2.2.2.1 (Int.toNat s.2.1)).b,(Aa .lk s.2.2.2.1 (Int.toNat s.2.1)).c,r112.1,s.2.2.2.2.2.2.2)).bind fun r113=>(match r113 with| .inl x114=>some x114| .inr _=>none) else none) else none) else some s.2.2) else none) else none) else some s.2.2) else some s.2.2)) else (bif decide (s.1=6) then (bif r0.1 then (bif Ca s.2.1 (List.length s.2.2.2.1) then (bif Ca s.2.1 (List.length s.2.2.2.2.1) then (bif Aa .bool s.2.2.2.2.1 (Int.toNat s.2.1) then (bif Ca ((Aa .lk s.2.2.2.1 (Int.toNat s.2.1)).a) (List.length s.2.2.2.2.2.2.1) then (bif Ca ((Aa .lk s.2.2.2.1 (Int.toNat s.2.1)).b) (List.length s.2.2.2.2.2.2.1) then (Ge (Aa .db s.2.2.2.2.2.2.1 (Int.toNat ((Aa .lk s.2.2.2.1 (Int.toNat s.2.1)).a)),Aa .db s.2.2.2.2.2.2.1 (Int.toNat ((Aa .lk s.2.2.2.1 (Int.toNat s.2.1)).b)),())).bind fun r115=>(Ce (s.2.2.1,s.2.2.2.1,s.2.2.2.2.1,s.2.2.2.2.2.1,s.2.2.2.2.2.2.1,(Aa .lk s.2.2.2.1 (Int.toNat s.2.1)).a,(Aa .lk s.2.2.2.1 (Int.toNat s.2.1)).b,(Aa .lk s.2.2.2.1 (Int.toNat s.2.1)).c,r115.1,s.2.2.2.2.2.2.2)).bind fun r116=>(match r116 with| .inl x117=>some x117| .inr _=>none) else none) else none) else some s.2.2) else none) else none) else some s.2.2) else some s.2.2))) else (bif decide (s.1=5) then (bif r1.1 then (bif decide (nI (List.length s.2.2.2.2.2.2.2.1)<16) then (Eh (s.2.2.1,s.2.2.2.1,s.2.2.2.2.1,s.2.2.2.2.2.1,s.2.2.2.2.2.2.1,s.1,s.2.1,s.2.2.2.2.2.2.2)).bind fun r118=>(match r118 with| .inl x119=>some x119| .inr _=>none) else some s.2.2) else (bif decide (s.1=6) then (bif r0.1 then (bif Ca s.2.1 (List.length s.2.2.2.1) then (bif Ca s.2.1 (List.length s.2.2.2.2.1) then (bif Aa .bool s.2.2.2.2.1 (Int.toNat s.2.1) then (bif Ca ((Aa .lk s.2.2.2.1 (Int.toNat s.2.1)).a) (List.length s.2.2.2.2.2.2.1) then (bif Ca ((Aa .lk s.2.2.2.1 (Int.toNat s.2.1)).b) (List.length s.2.2.2.2.2.2.1) then (Ge (Aa .db s.2.2.2.2.2.2.1 (Int.toNat ((Aa .lk s.2.2.2.1 (Int.toNat s.2.1)).a)),Aa .db s.2.2.2.2.2.2.1 (Int.toNat ((Aa .lk s.2.2.2.1 (Int.toNat s.2.1)).b)),())).bind fun r120=>(Ce (s.2.2.1,s.2.2.2.1,s.2.2.2.2.1,s.2.2.2.2.2.1,s.2.2.2.2.2.2.1,(Aa .lk s.2.2.2.1 (Int.toNat s.2.1)).a,(Aa .lk s.2.2.2.1 (Int.toNat s.2.1)).b,(Aa .lk s.2.2.2.1 (Int.toNat s.2.1)).c,r120.1,s.2.2.2.2.2.2.2)).bind fun r121=>(match r121 with| .inl x122=>some x122| .inr _=>none) else none) else none) else some s.2.2) else none) else none) else some s.2.2) else some s.2.2)) else (bif decide (s.1=6) then (bif r0.1 then (bif Ca s.2.1 (List.length s.2.2.2.1) then (bif Ca s.2.1 (List.length s.2.2.2.2.1) then (bif Aa .bool s.2.2.2.2.1 (Int.toNat s.2.1) then (bif Ca ((Aa .lk s.2.2.2.1 (Int.toNat s.2.1)).a) (List.length s.2.2.2.2.2.2.1) then (bif Ca ((Aa .lk s.2.2.2.1 (Int.toNat s.2.1)).b) (List.length s.2.2.2.2.2.2.1) then (Ge (Aa .db s.2.2.2.2.2.2.1 (Int.toNat ((Aa .lk s.2.2.2.1 (Int.toNat s.2.1)).a)),Aa .db s.2.2.2.2.2.2.1 (Int.toNat ((Aa .lk s.2.2.2.1 (Int.toNat s.2.1)).b)),())).bind fun r123=>(Ce (s.2.2.1,s.2.2.2.1,s.2.2.2.2.1,s.2.2.2.2.2.1,s.2.2.2.2.2.2.1,(Aa .lk s.2.2.2.1 (Int.toNat s.2.1)).a,(Aa .lk s.2.2.2.1 (Int.toNat s.2.1)).b,(Aa .lk s.2.2.2.1 (Int.toNat s.2.1)).c,r123.1,s.2.2.2.2.2.2.2)).bind fun r124=>(match r124 with| .inl x125=>some x125| .inr _=>none) else none) else none) else some s.2.2) else none) else none) else some s.2.2) else some s.2.2))))))
def II (s:(Int×Int×Int×Int×Y0)):Option ((Int×Int×Int×Int×Y0)⊕((Int×Int×Y0)⊕Unit)):=(bif decide (s.2.2.2.1<s.2.2.1) then (HI (6,s.2.2.2)).bind fun r0=>some (Sum.inl (s.1,s.2.1,s.2.2.1,wrap64 (s.2.2.2.1+1),r0)) else some (Sum.inr (Sum.inl (s.1,s.2.1,s.2.2.2.2))))
def JI (s:(Int×Int×Y0)):Option ((Int×Int×Y0)⊕(Y0⊕Unit)):=(bif decide (s.2.1<s.1) then (lp II Ea (s.1,s.2.1,nI (List.length s.2.2.2.2.1),0,s.2.2)).bind fun r0=>(match r0 with| .inl x1=>some (Sum.inl (x1.1,wrap64 (x1.2.1+1),x1.2.2))| .inr _=>none) else some (Sum.inr (Sum.inl s.2.2)))
def LQ (s:Y0):Option Y0:=(lp JI Ea (s.1,0,s.1,s.2.1,s.2.2.1,s.2.2.2.1,s.2.2.2.2.1,([]:List Pk),())).bind fun r0=>(match r0 with| .inl x1=>some x1| .inr _=>none)
end
section
open Go.RowKit
def Vv:Xa:=⟨⟨[3,4,6,8,9,10],⟨[zc,.c (.one (.ptr 5 0)),.c (.one (.ptr 6 0)),.c (.one (.ptr 7 0)),.c (.one (.own 8)),zc],[.row 60 .lk,.row 4 .bool,.row 3 .int,.row 45 .db,.dead,.box 35 [zi,(.own 0),(.own 1),(.own 2),(.own 3),(.own 9)],.box 48 [zi,zi,(.b (.sl true .en))],.box 35 [zi,(.b (.sl true .lk)),(.b (.sl true .bool)),(.b (.sl true .int)),(.b (.sl true .db)),(.b (.sl true .pk))],.row 3 .int,.row 86 .pk]⟩,[.int,.int,.ls .lk,.ls .bool,.ls .int,.ls .db,.int,.int,.int,.ls .en,.int,.ls .lk,.ls .bool,.ls .int,.ls .db,.ls .pk,.ls .int,.ls .pk]⟩,0,⟨[4,8],⟨[.c (.one (.ptr 5 0)),.c (.one (.ptr 6 0))],[.row 60 .lk,.row 4 .bool,.row 3 .int,.row 45 .db,.dead,.box 35 [zi,(.own 0),(.own 1),(.own 2),(.own 3),(.own 7)],.box 35 [zi,(.b (.sl true .lk)),(.b (.sl true .bool)),(.b (.sl true .int)),(.b (.sl true .db)),(.b (.sl true .pk))],.row 86 .pk]⟩,[.ls .lk,.ls .bool,.ls .int,.ls .db,.int,.int,.ls .lk,.ls .bool,.ls .int,.ls .db,.ls .pk,.ls .pk]⟩,zx,lp FQ Ea⟩
def KI:Oa:=⟨⟨[.c (.agg [zi,(.own 0),(.own 1),(.own 2),(.own 3),(.own 4)]),zc,.c (.agg [zi,zi,(.b (.sl true .en))]),zc],[.row 60 .lk,.row 4 .bool,.row 3 .int,.row 45 .db,.row 86 .pk]⟩,[.int,.int,.int,.int,.ls .en,.int,.ls .lk,.ls .bool,.ls .int,.ls .db,.ls .pk],⟨[.c (.agg [zi,(.own 0),(.own 1),(.own 2),(.own 3),(.own 5)])],[.row 60 .lk,.row 4 .bool,.row 3 .int,.row 45 .db,.dead,.row 86 .pk]⟩,[.int,.ls .lk,.ls .bool,.ls .int,.ls .db,.ls .pk],YH⟩
def LI:Ma:=Sa tab [(63,[],On),(173,[],CX),(144,[],Mt)] 48 5 [(6,10,[(1,true),(2,true),(4,true),(5,true),(6,true),(7,true),(8,true),(0,false),(3,false),(9,false)],[])] [(3,Vv)]
theorem gB:Pa Tryz.prog LI.Γ:=Ra (l:=[(63,[],On),(173,[],CX),(144,[],Mt)]) ⟨⟨CP,Tryz.call63⟩,⟨⟨uG,Tryz.call173⟩,⟨⟨MY,Tryz.call144⟩,trivial⟩⟩⟩
theorem zLi:Cb Tryz.prog 5 48 (Va (Tryz.f143.body.getD .skip) 0) Vv:=Fb (G:=LI) (F:=Vv.F) (eid:=Vv.eid) (FX:=Vv.FX) (FR:=Vv.FR) (B:=FQ) (n:=Ea) Ga Ha gB mixed (Ja (G:=LI) (n:=0) (by kernel_rfl) (by kernel_rfl) trivial (by kernel_rfl)) (fun s=>by kernel_rfl)
theorem gC:GC Tryz.prog 143 KI:=Rq (G:=LI) (c:=Tryz.f143.body.getD .skip) Ga Ha gB mixed Tryz.func143 (by kernel_rfl) Tryz.ntmps143 (Ja (G:=LI) (n:=1) (by kernel_rfl) (by kernel_rfl) ⟨trivial,Gb (id:=3) (L0:=Vv) (by kernel_rfl) (by kernel_rfl) zLi⟩ (by kernel_rfl)) [4] (fun s=>by kernel_rfl)
def A2:Oa:=⟨⟨[.c (.agg [zi,(.b (.sl true .lk)),(.b (.sl true .bool)),(.b (.sl true .int)),(.b (.sl true .db)),(.b (.sl true .pk))]),.c (.agg [zi,zi,zi,(.b (.sl true .en))])],[]⟩,[.int,.ls .lk,.ls .bool,.ls .int,.ls .db,.ls .pk,.int,.int,.int,.ls .en],⟨[.c (.agg [zi,(.b (.sl true .lk)),(.b (.sl true .bool)),(.b (.sl true .int)),(.b (.sl true .db)),(.b (.sl true .pk))])],[]⟩,[.int,.ls .lk,.ls .bool,.ls .int,.ls .db,.ls .pk],GQ⟩
def B2:Ma:=Sa tab [(68,[],Qn),(142,[],Ou),(143,[],KI)] 39 0 [(1,13,[(0,true),(1,true),(2,true),(3,true),(4,true),(5,true),(6,true),(7,true),(8,false),(9,true),(10,true),(11,true),(12,true)],[])] []
theorem zRW:Pa Tryz.prog B2.Γ:=Ra (l:=[(68,[],Qn),(142,[],Ou),(143,[],KI)]) ⟨⟨FP,Tryz.call68⟩,⟨⟨EZ,Tryz.call142⟩,⟨⟨gC,Tryz.call143⟩,trivial⟩⟩⟩
theorem zNq:GC Tryz.prog 105 A2:=Ua (G:=B2) (c:=Tryz.f105.body.getD .skip) Ga Ha zRW mixed Tryz.func105 (by kernel_rfl) Tryz.ntmps105 (Ja (G:=B2) (n:=0) (by kernel_rfl) (by kernel_rfl) trivial (by kernel_rfl)) (fun s=>by kernel_rfl)
def MI:Oa:=⟨⟨[.c (.agg [zi,(.b (.sl true .lk)),(.b (.sl true .bool)),(.b (.sl true .int)),(.b (.sl true .db)),(.b (.sl true .pk))]),zc],[]⟩,[.int,.ls .lk,.ls .bool,.ls .int,.ls .db,.ls .pk,.int],⟨[.c (.agg [zi,(.b (.sl true .lk)),(.b (.sl true .bool)),(.b (.sl true .int)),(.b (.sl true .db)),(.b (.sl true .pk))])],[]⟩,[.int,.ls .lk,.ls .bool,.ls .int,.ls .db,.ls .pk],Am⟩
def D2:Ma:=Sa tab [(36,[],Sk),(68,[],Qn),(107,[],IZ)] 49 0 [(5,12,tk 12,[]),(7,6,[(0,true),(1,true),(2,true),(3,true),(4,true),(5,false)],[])] []
theorem zR2:Pa Tryz.prog D2.Γ:=Ra (l:=[(36,[],Sk),(68,[],Qn),(107,[],IZ)]) ⟨⟨RG,Tryz.call36⟩,⟨⟨FP,Tryz.call68⟩,⟨⟨xT,Tryz.call107⟩,trivial⟩⟩⟩
theorem gD:GC Tryz.prog 66 MI:=Ua (G:=D2) (c:=Tryz.f66.body.getD .skip) Ga Ha zR2 mixed Tryz.func66 (by kernel_rfl) Tryz.ntmps66 (Ja (G:=D2) (n:=0) (by kernel_rfl) (by kernel_rfl) trivial (by kernel_rfl)) (fun s=>by kernel_rfl)
def Uz:Xa:=⟨⟨[0,3,6,9,15,16,17],⟨[.c (.one (.ptr 0 0)),zc,.c (.one (.ptr 6 0)),zc,.c (.one (.own 7)),zc,zc],[.box 35 [zi,(.own 1),(.own 2),(.own 3),(.own 4),(.own 8)],.row 60 .lk,.row 4 .bool,.row 3 .int,.row 45 .db,.dead,.box 48 [zi,zi,(.b (.sl true .en))],.row 3 .int,.row 86 .pk]⟩,[.int,.int,.int,.int,.int,.ls .lk,.ls .bool,.ls .int,.ls .db,.int,.int,.ls .en,.ls .int,.ls .pk]⟩,0,⟨[0,3,6,15,16,17],⟨[.c (.one (.ptr 0 0)),zc,.c (.one (.ptr 6 0)),.c (.one (.own 7)),zc,zc],[.box 35 [zi,(.own 1),(.own 2),(.own 3),(.own 4),(.own 8)],.row 60 .lk,.row 4 .bool,.row 3 .int,.row 45 .db,.dead,.box 48 [zi,zi,(.b (.sl true .en))],.row 3 .int,.row 86 .pk]⟩,[.int,.int,.int,.int,.ls .lk,.ls .bool,.ls .int,.ls .db,.int,.int,.ls .en,.ls .int,.ls .pk]⟩,zx,HQ⟩
def Wv:Xa:=⟨⟨[0,3,6,15,16,17],⟨[.c (.one (.ptr 0 0)),zc,.c (.one (.ptr 6 0)),.c (.one (.own 7)),zc,zc],[.box 35 [zi,(.own 1),(.own 2),(.own 3),(.own 4),(.own 8)],.row 60 .lk,.row 4 .bool,.row 3 .int,.row 45 .db,.dead,.box 48 [zi,zi,(.b (.sl true .en))],.row 3 .int,.row 86 .pk]⟩,[.int,.int,.int,.int,.ls .lk,.ls .bool,.ls .int,.ls .db,.int,.int,.ls .en,.ls .int,.ls .pk]⟩,0,⟨[],⟨[],[.box 35 [zi,(.own 1),(.own 2),(.own 3),(.own 4),(.own 6)],.row 60 .lk,.row 4 .bool,.row 3 .int,.row 45 .db,.dead,.row 86 .pk]⟩,[.int,.ls .lk,.ls .bool,.ls .int,.ls .db,.ls .pk]⟩,zx,lp IQ Ea⟩
def NI:Oa:=⟨⟨[.c (.one (.ptr 0 0)),zc,.c (.agg [zi,zi,(.b (.sl true .en))]),zc],[.box 35 [zi,(.own 1),(.own 2),(.own 3),(.own 4),(.own 5)],.row 60 .lk,.row 4 .bool,.row 3 .int,.row 45 .db,.row 86 .pk]⟩,[.int,.int,.int,.ls .en,.int,.int,.ls .lk,.ls .bool,.ls .int,.ls .db,.ls .pk],⟨[.tup []],[.box 35 [zi,(.own 1),(.own 2),(.own 3),(.own 4),(.own 6)],.row 60 .lk,.row 4 .bool,.row 3 .int,.row 45 .db,.dead,.row 86 .pk]⟩,[.int,.ls .lk,.ls .bool,.ls .int,.ls .db,.ls .pk],Sv⟩
def Pp:Ma:=Sa tab [(79,[],Zr),(88,[],Pn),(132,[],CH)] 46 6 [] [(5,Uz),(2,Wv)]
theorem E2:Pa Tryz.prog Pp.Γ:=Ra (l:=[(79,[],Zr),(88,[],Pn),(132,[],CH)]) ⟨⟨ZW,Tryz.call79⟩,⟨⟨DP,Tryz.call88⟩,⟨⟨fE,Tryz.call132⟩,trivial⟩⟩⟩
theorem zKp:Ae Tryz.prog 6 46 (Fc Pp.plan (Va (Tryz.f87.body.getD .skip) 0) 0).1 (Fc Pp.plan (Va (Tryz.f87.body.getD .skip) 0) 0).2 Uz:=Ny (G:=Pp) (U:=[0,1,2,3,5]) (n:=10) (tl:=[10,11,12,13]) (ks:=[]) (t:=(.val 4 (.val 6 (.one 7 (.val 8 (.one 9 .done)))))) (F:=Uz.F) (eid:=0) (FX:=Uz.FX) (FR:=Uz.FR) (sh:=HQ) Ga Ha E2 mixed (by kernel_rfl) (by kernel_rfl) ⟨fun s=>by kernel_rfl,trivial⟩
theorem zKo:Cb Tryz.prog 6 46 (Va (Tryz.f87.body.getD .skip) 0) Wv:=Fb (G:=Pp) (F:=Wv.F) (eid:=Wv.eid) (FX:=Wv.FX) (FR:=Wv.FR) (B:=IQ) (n:=Ea) Ga Ha E2 mixed (Bh (G:=Pp) (n:=0) (m:=1) (by kernel_rfl) (by kernel_rfl) trivial (by kernel_rfl) ⟨trivial,Bg (L0:=Uz) (by kernel_rfl) zKp⟩) (fun s=>by kernel_rfl)
theorem gF:GC Tryz.prog 87 NI:=Rq (G:=Pp) (c:=Tryz.f87.body.getD .skip) Ga Ha E2 mixed Tryz.func87 (by kernel_rfl) Tryz.ntmps87 (Ja (G:=Pp) (n:=1) (by kernel_rfl) (by kernel_rfl) ⟨trivial,Gb (id:=2) (L0:=Wv) (by kernel_rfl) (by kernel_rfl) zKo⟩ (by kernel_rfl)) [5] (fun s=>by kernel_rfl)
def Vz:Xa:=⟨⟨[1,2,4],⟨[zc,.c (.one (.ptr 5 0)),.c (.one (.ptr 6 0))],[.row 60 .lk,.row 4 .bool,.row 3 .int,.row 45 .db,.dead,.box 35 [zi,(.own 0),(.own 1),(.own 2),(.own 3),(.own 7)],.box 35 [zi,(.b (.sl true .lk)),(.b (.sl true .bool)),(.b (.sl true .int)),(.b (.sl true .db)),(.b (.sl true .pk))],.row 86 .pk]⟩,[.int,.ls .lk,.ls .bool,.ls .int,.ls .db,.int,.int,.ls .lk,.ls .bool,.ls .int,.ls .db,.ls .pk,.ls .pk]⟩,0,⟨[1,2,4,5],⟨[zc,.c (.one (.ptr 5 0)),.c (.one (.ptr 6 0)),.c (.one (.ptr 7 0))],[.row 60 .lk,.row 4 .bool,.row 3 .int,.row 45 .db,.dead,.box 35 [zi,(.own 0),(.own 1),(.own 2),(.own 3),(.own 8)],.box 35 [zi,(.b (.sl true .lk)),(.b (.sl true .bool)),(.b (.sl true .int)),(.b (.sl true .db)),(.b (.sl true .pk))],.box 48 [zi,zi,(.own 9)],.row 86 .pk,.row 93 .en]⟩,[.int,.ls .lk,.ls .bool,.ls .int,.ls .db,.int,.int,.ls .lk,.ls .bool,.ls .int,.ls .db,.ls .pk,.int,.int,.ls .pk,.ls .en]⟩,zx,ZH⟩
def I2:Oa:=⟨⟨[.c (.agg [zi,(.own 0),(.own 1),(.own 2),(.own 3),(.own 4)]),zc],[.row 60 .lk,.row 4 .bool,.row 3 .int,.row 45 .db,.row 86 .pk]⟩,[.int,.int,.ls .lk,.ls .bool,.ls .int,.ls .db,.ls .pk],⟨[.c (.agg [zi,(.own 0),(.own 1),(.own 2),(.own 3),(.own 5)])],[.row 60 .lk,.row 4 .bool,.row 3 .int,.row 45 .db,.dead,.row 86 .pk]⟩,[.int,.ls .lk,.ls .bool,.ls .int,.ls .db,.ls .pk],Tz⟩
def Wz:Ma:=Sa tab [(35,[],Ts),(144,[],Mt),(142,[],Ou),(143,[],KI)] 46 5 [(1,9,tk 9,[]),(3,11,[(0,true),(1,true),(2,true),(3,true),(4,true),(5,true),(6,false),(7,true),(8,true),(9,true),(10,true)],[])] [(2,Vz)]
theorem gG:Pa Tryz.prog Wz.Γ:=Ra (l:=[(35,[],Ts),(144,[],Mt),(142,[],Ou),(143,[],KI)]) ⟨⟨RX,Tryz.call35⟩,⟨⟨MY,Tryz.call144⟩,⟨⟨EZ,Tryz.call142⟩,⟨⟨gC,Tryz.call143⟩,trivial⟩⟩⟩⟩
theorem zLe:Ae Tryz.prog 5 46 (Fc Wz.plan (Tryz.f106.body.getD .skip) 0).1 (Fc Wz.plan (Tryz.f106.body.getD .skip) 0).2 Vz:=Cp (G:=Wz) (n:=10) (ks:=[]) (t:=(.val 0 (.val 2 (.val 3 (.val 4 (.val 5 (.val 6 (.val 7 (.two 1 (.two 8 (.one 9 .done) 9 (.one 8 .done)) 9 (.one 1 (.one 8 .done))))))))))) (F:=Vz.F) (eid:=0) (FX:=Vz.FX) (FR:=Vz.FR) (sh:=ZH) Ga Ha gG mixed (by kernel_rfl) (by kernel_rfl) ⟨fun s=>by kernel_rfl,fun s=>by kernel_rfl,fun s=>by kernel_rfl,trivial⟩
theorem zNm:GC Tryz.prog 106 I2:=Rq (G:=Wz) (c:=Tryz.f106.body.getD .skip) Ga Ha gG mixed Tryz.func106 (by kernel_rfl) Tryz.ntmps106 (Bh (G:=Wz) (n:=0) (m:=1) (by kernel_rfl) (by kernel_rfl) trivial (by kernel_rfl) ⟨trivial,Bg (L0:=Vz) (by kernel_rfl) zLe⟩) [4] (fun s=>by kernel_rfl)
def Xz:Xa:=⟨⟨[2,4,5],⟨[.c (.one (.ptr 0 0)),.c (.one (.ptr 1 0)),.c (.one (.ptr 2 0))],[.box 35 [zi,(.b (.sl true .lk)),(.b (.sl true .bool)),(.b (.sl true .int)),(.b (.sl true .db)),(.b (.sl true .pk))],.box 35 [zi,(.b (.sl true .lk)),(.b (.sl true .bool)),(.b (.sl true .int)),(.b (.sl true .db)),(.b (.sl true .pk))],.box 86 [zi,zi,zi,(.b (.sl true .en))]]⟩,[.int,.ls .lk,.ls .bool,.ls .int,.ls .db,.ls .pk,.int,.ls .lk,.ls .bool,.ls .int,.ls .db,.ls .pk,.int,.int,.int,.ls .en]⟩,0,⟨[2,4],⟨[.c (.one (.ptr 0 0)),.c (.one (.ptr 1 0))],[.box 35 [zi,(.b (.sl true .lk)),(.b (.sl true .bool)),(.b (.sl true .int)),(.b (.sl true .db)),(.own 2)],.box 35 [zi,(.b (.sl true .lk)),(.b (.sl true .bool)),(.b (.sl true .int)),(.b (.sl true .db)),(.b (.sl true .pk))],.row 86 .pk]⟩,[.int,.ls .lk,.ls .bool,.ls .int,.ls .db,.int,.ls .lk,.ls .bool,.ls .int,.ls .db,.ls .pk,.ls .pk]⟩,zx,AI⟩
def J2:Oa:=⟨⟨[.c (.agg [zi,(.b (.sl true .lk)),(.b (.sl true .bool)),(.b (.sl true .int)),(.b (.sl true .db)),(.b (.sl true .pk))]),.c (.agg [zi,zi])],[]⟩,[.int,.ls .lk,.ls .bool,.ls .int,.ls .db,.ls .pk,.int,.int],⟨[.c (.agg [zi,(.b (.sl true .lk)),(.b (.sl true .bool)),(.b (.sl true .int)),(.b (.sl true .db)),(.b (.sl true .pk))])],[]⟩,[.int,.ls .lk,.ls .bool,.ls .int,.ls .db,.ls .pk],Tv⟩
def Yz:Ma:=Sa tab [(61,[],Dg),(105,[],A2)] 59 0 [(8,13,[(1,true),(2,true),(3,true),(4,true),(5,true),(7,true),(8,true),(9,true),(10,true),(11,true),(12,true),(0,false),(6,false)],[])] [(6,Xz)]
theorem gH:Pa Tryz.prog Yz.Γ:=Ra (l:=[(61,[],Dg),(105,[],A2)]) ⟨⟨Ln,Tryz.call61⟩,⟨⟨zNq,Tryz.call105⟩,trivial⟩⟩
theorem zLk:Ae Tryz.prog 0 59 (Fc Yz.plan (Tryz.f64.body.getD .skip) 0).1 (Fc Yz.plan (Tryz.f64.body.getD .skip) 0).2 Xz:=Cp (G:=Yz) (n:=6) (ks:=[]) (t:=(.val 1 (.val 2 (.val 4 (.two 0 (.two 3 (.one 5 .done) 5 (.one 3 .done)) 5 (.one 0 (.one 3 .done))))))) (F:=Xz.F) (eid:=0) (FX:=Xz.FX) (FR:=Xz.FR) (sh:=AI) Ga Ha gH mixed (by kernel_rfl) (by kernel_rfl) ⟨fun s=>by kernel_rfl,fun s=>by kernel_rfl,fun s=>by kernel_rfl,trivial⟩
theorem zNs:GC Tryz.prog 64 J2:=Ua (G:=Yz) (c:=Tryz.f64.body.getD .skip) Ga Ha gH mixed Tryz.func64 (by kernel_rfl) Tryz.ntmps64 (Bh (G:=Yz) (n:=0) (m:=1) (by kernel_rfl) (by kernel_rfl) trivial (by kernel_rfl) ⟨trivial,Bg (L0:=Xz) (by kernel_rfl) zLk⟩) (fun s=>by kernel_rfl)
def Zz:Xa:=⟨⟨[3,6,7],⟨[.c (.one (.ptr 0 0)),.c (.one (.ptr 1 0)),.c (.one (.ptr 2 0))],[.box 35 [zi,(.own 3),(.own 4),(.own 5),(.own 6),(.own 7)],.box 35 [zi,(.b (.sl true .lk)),(.b (.sl true .bool)),(.b (.sl true .int)),(.b (.sl true .db)),(.b (.sl true .pk))],.box 60 [zi,zi,zi],.row 60 .lk,.row 4 .bool,.row 3 .int,.row 45 .db,.row 86 .pk]⟩,[.int,.int,.ls .lk,.ls .bool,.ls .int,.ls .db,.ls .pk,.int,.int,.int,.ls .lk,.ls .bool,.ls .int,.ls .db,.ls .pk]⟩,0,⟨[6],⟨[.c (.one (.ptr 0 0))],[.box 35 [zi,(.own 1),(.own 2),(.own 3),(.own 4),(.own 5)],.row 60 .lk,.row 4 .bool,.row 3 .int,.row 45 .db,.row 86 .pk]⟩,[.int,.ls .lk,.ls .bool,.ls .int,.ls .db,.ls .pk]⟩,zx,BI⟩
def K2:Oa:=⟨⟨[.c (.agg [zi,(.b (.sl true .lk)),(.b (.sl true .bool)),(.b (.sl true .int)),(.b (.sl true .db)),(.b (.sl true .pk))]),zc,.c (.one (.b .bool))],[]⟩,[.int,.ls .lk,.ls .bool,.ls .int,.ls .db,.ls .pk,.int,.bool],⟨[.c (.agg [zi,(.b (.sl true .lk)),(.b (.sl true .bool)),(.b (.sl true .int)),(.b (.sl true .db)),(.b (.sl true .pk))])],[]⟩,[.int,.ls .lk,.ls .bool,.ls .int,.ls .db,.ls .pk],Xn⟩
def AA:Ma:=Sa tab [(68,[],Qn),(106,[],I2)] 54 0 [] [(6,Zz)]
theorem gI:Pa Tryz.prog AA.Γ:=Ra (l:=[(68,[],Qn),(106,[],I2)]) ⟨⟨FP,Tryz.call68⟩,⟨⟨zNm,Tryz.call106⟩,trivial⟩⟩
theorem zLq:Ae Tryz.prog 0 54 (Fc AA.plan (Tryz.f65.body.getD .skip) 0).1 (Fc AA.plan (Tryz.f65.body.getD .skip) 0).2 Zz:=NM (G:=AA) (t:=(.val 1 (.val 4 (.alt 0 (.alt 2 (.alt 3 (.one 5 (.one 6 (.one 7 .done))) (.one 5 (.one 3 (.one 6 (.one 7 .done))))) (.one 5 (.one 2 (.one 3 (.one 6 (.one 7 .done)))))) (.alt 2 (.alt 0 (.alt 3 (.one 5 (.one 6 (.one 7 .done))) (.one 5 (.one 3 (.one 6 (.one 7 .done))))) (.one 5 (.one 0 (.one 3 (.one 6 (.one 7 .done)))))) (.one 5 (.alt 0 (.one 2 (.one 3 (.one 6 (.one 7 .done)))) (.one 2 (.one 0 (.one 3 (.one 6 (.one 7 .done)))))))))))) (F:=Zz.F) (eid:=0) (FX:=Zz.FX) (FR:=Zz.FR) (sh:=BI) Ga Ha gI mixed (by kernel_rfl) (by kernel_rfl) ⟨fun s=>by kernel_rfl,fun s=>by kernel_rfl,fun s=>by kernel_rfl,fun s=>by kernel_rfl,fun s=>by kernel_rfl,fun s=>by kernel_rfl,fun s=>by kernel_rfl,fun s=>by kernel_rfl,trivial⟩
theorem zNy:GC Tryz.prog 65 K2:=Ua (G:=AA) (c:=Tryz.f65.body.getD .skip) Ga Ha gI mixed Tryz.func65 (by kernel_rfl) Tryz.ntmps65 (Bh (G:=AA) (n:=0) (m:=1) (by kernel_rfl) (by kernel_rfl) trivial (by kernel_rfl) ⟨trivial,Bg (L0:=Zz) (by kernel_rfl) zLq⟩) (fun s=>by kernel_rfl)
def BA:Xa:=⟨⟨[0,1],⟨[.c (.one (.ptr 0 0)),zc],[.box 35 [zi,(.own 1),(.own 2),(.own 3),(.own 4),(.own 6)],.row 60 .lk,.row 4 .bool,.row 3 .int,.row 45 .db,.dead,.row 86 .pk]⟩,[.int,.int,.ls .lk,.ls .bool,.ls .int,.ls .db,.ls .pk]⟩,0,⟨[0,1,4],⟨[.c (.one (.ptr 0 0)),zc,.c (.one (.ptr 6 0))],[.box 35 [zi,(.own 1),(.own 2),(.own 3),(.own 4),(.own 7)],.row 60 .lk,.row 4 .bool,.row 3 .int,.row 45 .db,.dead,.box 48 [zi,zi,(.own 8)],.row 86 .pk,.row 93 .en]⟩,[.int,.int,.ls .lk,.ls .bool,.ls .int,.ls .db,.int,.int,.ls .pk,.ls .en]⟩,zx,CI⟩
def CA:Xa:=⟨⟨[0,1,4],⟨[.c (.one (.ptr 0 0)),zc,.c (.one (.ptr 6 0))],[.box 35 [zi,(.own 1),(.own 2),(.own 3),(.own 4),(.own 7)],.row 60 .lk,.row 4 .bool,.row 3 .int,.row 45 .db,.dead,.box 48 [zi,zi,(.own 8)],.row 86 .pk,.row 93 .en]⟩,[.int,.int,.ls .lk,.ls .bool,.ls .int,.ls .db,.int,.int,.ls .pk,.ls .en]⟩,0,⟨[0,1,4],⟨[.c (.one (.ptr 0 0)),zc,.c (.one (.ptr 6 0))],[.box 35 [zi,(.own 1),(.own 2),(.own 3),(.own 4),(.own 7)],.row 60 .lk,.row 4 .bool,.row 3 .int,.row 45 .db,.dead,.box 48 [zi,zi,(.own 8)],.row 86 .pk,.row 93 .en]⟩,[.int,.int,.ls .lk,.ls .bool,.ls .int,.ls .db,.int,.int,.ls .pk,.ls .en]⟩,zx,DI⟩
def L2:Oa:=⟨⟨[.c (.one (.ptr 0 0)),zc],[.box 35 [zi,(.own 1),(.own 2),(.own 3),(.own 4),(.own 5)],.row 60 .lk,.row 4 .bool,.row 3 .int,.row 45 .db,.row 86 .pk]⟩,[.int,.int,.ls .lk,.ls .bool,.ls .int,.ls .db,.ls .pk],⟨[.tup []],[.box 35 [zi,(.own 1),(.own 2),(.own 3),(.own 4),(.own 6)],.row 60 .lk,.row 4 .bool,.row 3 .int,.row 45 .db,.dead,.row 86 .pk]⟩,[.int,.ls .lk,.ls .bool,.ls .int,.ls .db,.ls .pk],Bm⟩
def Yn:Ma:=Sa tab [(132,[],CH),(48,[],JF),(86,[],Lu),(87,[],NI)] 49 6 [] [(1,BA),(2,CA)]
theorem M2:Pa Tryz.prog Yn.Γ:=Ra (l:=[(132,[],CH),(48,[],JF),(86,[],Lu),(87,[],NI)]) ⟨⟨fE,Tryz.call132⟩,⟨⟨eN,Tryz.call48⟩,⟨⟨CZ,Tryz.call86⟩,⟨⟨gF,Tryz.call87⟩,trivial⟩⟩⟩⟩
theorem zKd:Ae Tryz.prog 6 49 (Fc Yn.plan (Tryz.f84.body.getD .skip) 0).1 (Fc Yn.plan (Tryz.f84.body.getD .skip) 0).2 BA:=Cp (G:=Yn) (n:=14) (ks:=[]) (t:=(.val 0 (.val 1 (.val 2 (.val 4 (.val 5 (.val 6 (.val 7 (.val 8 (.val 9 (.val 10 (.val 11 (.two 3 (.two 12 (.one 13 .done) 13 (.one 12 .done)) 13 (.one 3 (.one 12 .done))))))))))))))) (F:=BA.F) (eid:=0) (FX:=BA.FX) (FR:=BA.FR) (sh:=CI) Ga Ha M2 mixed (by kernel_rfl) (by kernel_rfl) ⟨fun s=>by kernel_rfl,fun s=>by kernel_rfl,fun s=>by kernel_rfl,trivial⟩
theorem zKe:Ae Tryz.prog 6 49 (Fc Yn.plan (Tryz.f84.body.getD .skip) 1).1 (Fc Yn.plan (Tryz.f84.body.getD .skip) 1).2 CA:=NM (G:=Yn) (t:=(.val 0 (.val 1 (.val 2 (.val 4 (.val 5 (.val 6 (.val 7 (.val 9 (.alt 3 (.alt 8 (.val 10 (.alt 11 (.one 12 (.one 13 (.val 14 (.val 15 (.val 16 (.val 17 (.one 18 .done))))))) (.one 12 (.one 11 (.one 13 (.val 14 (.val 15 (.val 16 (.val 17 (.one 18 .done)))))))))) (.one 12 (.one 8 (.val 10 (.one 11 (.one 13 (.val 14 (.val 15 (.val 16 (.val 17 (.one 18 .done))))))))))) (.alt 8 (.val 10 (.alt 3 (.alt 11 (.one 12 (.one 13 (.val 14 (.val 15 (.val 16 (.val 17 (.one 18 .done))))))) (.one 12 (.one 11 (.one 13 (.val 14 (.val 15 (.val 16 (.val 17 (.one 18 .done))))))))) (.alt 11 (.alt 3 (.one 12 (.one 13 (.val 14 (.val 15 (.val 16 (.val 17 (.one 18 .done))))))) (.one 12 (.alt 3 (.one 13 (.val 14 (.val 15 (.val 16 (.val 17 (.one 18 .done)))))) (.one 13 (.val 14 (.val 15 (.val 16 (.one 3 (.val 17 (.one 18 .done)))))))))) (.one 12 (.alt 3 (.one 11 (.one 13 (.val 14 (.val 15 (.val 16 (.val 17 (.one 18 .done))))))) (.one 11 (.alt 3 (.one 13 (.val 14 (.val 15 (.val 16 (.val 17 (.one 18 .done)))))) (.one 13 (.val 14 (.val 15 (.val 16 (.one 3 (.val 17 (.one 18 .done)))))))))))))) (.one 12 (.alt 3 (.one 8 (.val 10 (.one 11 (.one 13 (.val 14 (.val 15 (.val 16 (.val 17 (.one 18 .done))))))))) (.one 8 (.val 10 (.alt 3 (.one 11 (.one 13 (.val 14 (.val 15 (.val 16 (.val 17 (.one 18 .done))))))) (.one 11 (.alt 3 (.one 13 (.val 14 (.val 15 (.val 16 (.val 17 (.one 18 .done)))))) (.one 13 (.val 14 (.val 15 (.val 16 (.one 3 (.val 17 (.one 18 .done))))))))))))))))))))))))) (F:=CA.F) (eid:=0) (FX:=CA.FX) (FR:=CA.FR) (sh:=DI) Ga Ha M2 mixed (by kernel_rfl) (by kernel_rfl) ⟨fun s=>by kernel_rfl,fun s=>by kernel_rfl,fun s=>by kernel_rfl,fun s=>by kernel_rfl,fun s=>by kernel_rfl,fun s=>by kernel_rfl,fun s=>by kernel_rfl,fun s=>by kernel_rfl,fun s=>by kernel_rfl,fun s=>by kernel_rfl,fun s=>by kernel_rfl,fun s=>by kernel_rfl,fun s=>by kernel_rfl,fun s=>by kernel_rfl,fun s=>by kernel_rfl,trivial⟩
theorem zL9:GC Tryz.prog 84 L2:=Rq (G:=Yn) (c:=Tryz.f84.body.getD .skip) Ga Ha M2 mixed Tryz.func84 (by kernel_rfl) Tryz.ntmps84 (Bh (G:=Yn) (n:=0) (m:=2) (by kernel_rfl) (by kernel_rfl) trivial (by kernel_rfl) ⟨⟨trivial,Bg (L0:=BA) (by kernel_rfl) zKd⟩,Bg (L0:=CA) (by kernel_rfl) zKe⟩) [5] (fun s=>by kernel_rfl)
def Xv:Xa:=⟨⟨[2,3,4,5],⟨[.c (.one (.ptr 0 0)),.c (.one (.ptr 1 0)),zc,zc],[.box 35 [zi,(.b (.sl true .lk)),(.b (.sl true .bool)),(.b (.sl true .int)),(.b (.sl true .db)),(.b (.sl true .pk))],.box 35 [zi,(.b (.sl true .lk)),(.b (.sl true .bool)),(.b (.sl true .int)),(.b (.sl true .db)),(.b (.sl true .pk))]]⟩,[.int,.int,.int,.ls .lk,.ls .bool,.ls .int,.ls .db,.ls .pk,.int,.ls .lk,.ls .bool,.ls .int,.ls .db,.ls .pk]⟩,2,⟨[2,3,4],⟨[.c (.one (.ptr 0 0)),.c (.one (.ptr 1 0)),zc],[.box 35 [zi,(.b (.sl true .lk)),(.b (.sl true .bool)),(.b (.sl true .int)),(.b (.sl true .db)),(.b (.sl true .pk))],.box 35 [zi,(.b (.sl true .lk)),(.b (.sl true .bool)),(.b (.sl true .int)),(.b (.sl true .db)),(.b (.sl true .pk))]]⟩,[.int,.int,.ls .lk,.ls .bool,.ls .int,.ls .db,.ls .pk,.int,.ls .lk,.ls .bool,.ls .int,.ls .db,.ls .pk]⟩,zx,lp EI Ea⟩
def Yv:Xa:=⟨⟨[2,3,4],⟨[.c (.one (.ptr 0 0)),.c (.one (.ptr 1 0)),zc],[.box 35 [zi,(.b (.sl true .lk)),(.b (.sl true .bool)),(.b (.sl true .int)),(.b (.sl true .db)),(.b (.sl true .pk))],.box 35 [zi,(.b (.sl true .lk)),(.b (.sl true .bool)),(.b (.sl true .int)),(.b (.sl true .db)),(.b (.sl true .pk))]]⟩,[.int,.int,.ls .lk,.ls .bool,.ls .int,.ls .db,.ls .pk,.int,.ls .lk,.ls .bool,.ls .int,.ls .db,.ls .pk]⟩,0,⟨[2,3],⟨[.c (.one (.ptr 0 0)),.c (.one (.ptr 1 0))],[.box 35 [zi,(.b (.sl true .lk)),(.b (.sl true .bool)),(.b (.sl true .int)),(.b (.sl true .db)),(.b (.sl true .pk))],.box 35 [zi,(.b (.sl true .lk)),(.b (.sl true .bool)),(.b (.sl true .int)),(.b (.sl true .db)),(.b (.sl true .pk))]]⟩,[.int,.ls .lk,.ls .bool,.ls .int,.ls .db,.ls .pk,.int,.ls .lk,.ls .bool,.ls .int,.ls .db,.ls .pk]⟩,zx,lp FI Ea⟩
def N2:Oa:=⟨⟨[.c (.agg [zi,(.b (.sl true .lk)),(.b (.sl true .bool)),(.b (.sl true .int)),(.b (.sl true .db)),(.b (.sl true .pk))])],[]⟩,[.int,.ls .lk,.ls .bool,.ls .int,.ls .db,.ls .pk],⟨[.c (.agg [zi,(.own 0),(.own 1),(.own 2),(.own 3),(.own 4)])],[.row 60 .lk,.row 4 .bool,.row 3 .int,.row 45 .db,.row 86 .pk]⟩,[.int,.ls .lk,.ls .bool,.ls .int,.ls .db,.ls .pk],JQ⟩
def Zv:Ma:=Sa tab [(68,[],Qn),(67,[],DH),(66,[],MI)] 33 0 [] [(9,Xv),(6,Yv)]
theorem O2:Pa Tryz.prog Zv.Γ:=Ra (l:=[(68,[],Qn),(67,[],DH),(66,[],MI)]) ⟨⟨FP,Tryz.call68⟩,⟨⟨fF,Tryz.call67⟩,⟨⟨gD,Tryz.call66⟩,trivial⟩⟩⟩
theorem zKQ:Cb Tryz.prog 0 33 (Va (Va (Tryz.f40.body.getD .skip) 0) 0) Xv:=Fb (G:=Zv) (F:=Xv.F) (eid:=Xv.eid) (FX:=Xv.FX) (FR:=Xv.FR) (B:=EI) (n:=Ea) Ga Ha O2 mixed (Ja (G:=Zv) (n:=0) (by kernel_rfl) (by kernel_rfl) trivial (by kernel_rfl)) (fun s=>by kernel_rfl)
theorem zKP:Cb Tryz.prog 0 33 (Va (Tryz.f40.body.getD .skip) 0) Yv:=Fb (G:=Zv) (F:=Yv.F) (eid:=Yv.eid) (FX:=Yv.FX) (FR:=Yv.FR) (B:=FI) (n:=Ea) Ga Ha O2 mixed (Ja (G:=Zv) (n:=1) (by kernel_rfl) (by kernel_rfl) ⟨trivial,Gb (id:=9) (L0:=Xv) (by kernel_rfl) (by kernel_rfl) zKQ⟩ (by kernel_rfl)) (fun s=>by kernel_rfl)
theorem zMX:GC Tryz.prog 40 N2:=Ua (G:=Zv) (c:=Tryz.f40.body.getD .skip) Ga Ha O2 mixed Tryz.func40 (by kernel_rfl) Tryz.ntmps40 (Ja (G:=Zv) (n:=1) (by kernel_rfl) (by kernel_rfl) ⟨trivial,Gb (id:=6) (L0:=Yv) (by kernel_rfl) (by kernel_rfl) zKP⟩ (by kernel_rfl)) (fun s=>by kernel_rfl)
def P2:Oa:=⟨⟨[.c (.agg [zi,(.b (.sl true .lk)),(.b (.sl true .bool)),(.b (.sl true .int)),(.b (.sl true .db)),(.b (.sl true .pk))]),.c (.agg [zi,zi])],[]⟩,[.int,.ls .lk,.ls .bool,.ls .int,.ls .db,.ls .pk,.int,.int],⟨[.c (.agg [zi,(.b (.sl true .lk)),(.b (.sl true .bool)),(.b (.sl true .int)),(.b (.sl true .db)),(.b (.sl true .pk))])],[]⟩,[.int,.ls .lk,.ls .bool,.ls .int,.ls .db,.ls .pk],KQ⟩
def U2:Ma:=Sa tab [(61,[],Dg),(66,[],MI),(64,[],J2),(65,[],K2)] 42 0 [] []
theorem zRU:Pa Tryz.prog U2.Γ:=Ra (l:=[(61,[],Dg),(66,[],MI),(64,[],J2),(65,[],K2)]) ⟨⟨Ln,Tryz.call61⟩,⟨⟨gD,Tryz.call66⟩,⟨⟨zNs,Tryz.call64⟩,⟨⟨zNy,Tryz.call65⟩,trivial⟩⟩⟩⟩
theorem zNo:GC Tryz.prog 39 P2:=Ua (G:=U2) (c:=Tryz.f39.body.getD .skip) Ga Ha zRU mixed Tryz.func39 (by kernel_rfl) Tryz.ntmps39 (Ja (G:=U2) (n:=0) (by kernel_rfl) (by kernel_rfl) trivial (by kernel_rfl)) (fun s=>by kernel_rfl)
def DA:Xa:=⟨⟨[0,3,8],⟨[.c (.one (.ptr 0 0)),.c (.one (.ptr 6 0)),.c (.one (.ptr 7 0))],[.box 35 [zi,(.own 1),(.own 2),(.own 3),(.own 4),(.own 8)],.row 60 .lk,.row 4 .bool,.row 3 .int,.row 45 .db,.dead,.box 64 [zi,zi],.box 86 [zi,zi,zi,(.b (.sl true .en))],.row 86 .pk]⟩,[.int,.ls .lk,.ls .bool,.ls .int,.ls .db,.int,.int,.int,.int,.int,.ls .en,.ls .pk]⟩,0,⟨[0,8],⟨[.c (.one (.ptr 0 0)),.c (.one (.ptr 6 0))],[.box 35 [zi,(.own 1),(.own 2),(.own 3),(.own 4),(.own 7)],.row 60 .lk,.row 4 .bool,.row 3 .int,.row 45 .db,.dead,.box 86 [zi,zi,zi,(.b (.sl true .en))],.row 86 .pk]⟩,[.int,.ls .lk,.ls .bool,.ls .int,.ls .db,.int,.int,.int,.ls .en,.ls .pk]⟩,zx,Uv⟩
def EA:Xa:=⟨⟨[0,3],⟨[.c (.one (.ptr 0 0)),.c (.one (.ptr 6 0))],[.box 35 [zi,(.own 1),(.own 2),(.own 3),(.own 4),(.own 7)],.row 60 .lk,.row 4 .bool,.row 3 .int,.row 45 .db,.dead,.box 64 [zi,zi],.row 86 .pk]⟩,[.int,.ls .lk,.ls .bool,.ls .int,.ls .db,.int,.int,.ls .pk]⟩,0,⟨[],⟨[],[.box 35 [zi,(.own 1),(.own 2),(.own 3),(.own 4),(.own 6)],.row 60 .lk,.row 4 .bool,.row 3 .int,.row 45 .db,.dead,.row 86 .pk]⟩,[.int,.ls .lk,.ls .bool,.ls .int,.ls .db,.ls .pk]⟩,zx,Cm⟩
def FA:Xa:=⟨⟨[0,3],⟨[.c (.one (.ptr 0 0)),.c (.one (.ptr 6 0))],[.box 35 [zi,(.own 1),(.own 2),(.own 3),(.own 4),(.own 7)],.row 60 .lk,.row 4 .bool,.row 3 .int,.row 45 .db,.dead,.box 64 [zi,zi],.row 86 .pk]⟩,[.int,.ls .lk,.ls .bool,.ls .int,.ls .db,.int,.int,.ls .pk]⟩,0,⟨[],⟨[],[.box 35 [zi,(.own 1),(.own 2),(.own 3),(.own 4),(.own 6)],.row 60 .lk,.row 4 .bool,.row 3 .int,.row 45 .db,.dead,.row 86 .pk]⟩,[.int,.ls .lk,.ls .bool,.ls .int,.ls .db,.ls .pk]⟩,zx,Eh⟩
def GA:Xa:=⟨⟨[0,11,12],⟨[.c (.one (.ptr 0 0)),.c (.one (.ptr 6 0)),.c (.one (.own 7))],[.box 35 [zi,(.own 1),(.own 2),(.own 3),(.own 4),(.own 8)],.row 60 .lk,.row 4 .bool,.row 3 .int,.row 45 .db,.dead,.box 60 [zi,zi,zi],.row 48 .ls,.row 86 .pk]⟩,[.int,.ls .lk,.ls .bool,.ls .int,.ls .db,.int,.int,.int,.ls .ls,.ls .pk]⟩,0,⟨[],⟨[],[.box 35 [zi,(.own 1),(.own 2),(.own 3),(.own 4),(.own 6)],.row 60 .lk,.row 4 .bool,.row 3 .int,.row 45 .db,.dead,.row 86 .pk]⟩,[.int,.ls .lk,.ls .bool,.ls .int,.ls .db,.ls .pk]⟩,zx,Ce⟩
def OI:Oa:=⟨⟨[.c (.one (.ptr 0 0)),.c (.agg [zi,zi])],[.box 35 [zi,(.own 1),(.own 2),(.own 3),(.own 4),(.own 5)],.row 60 .lk,.row 4 .bool,.row 3 .int,.row 45 .db,.row 86 .pk]⟩,[.int,.int,.int,.ls .lk,.ls .bool,.ls .int,.ls .db,.ls .pk],⟨[.tup []],[.box 35 [zi,(.own 1),(.own 2),(.own 3),(.own 4),(.own 6)],.row 60 .lk,.row 4 .bool,.row 3 .int,.row 45 .db,.dead,.row 86 .pk]⟩,[.int,.ls .lk,.ls .bool,.ls .int,.ls .db,.ls .pk],HI⟩
def Ph:Ma:=Sa tab [(85,[],PW),(77,[],Sg),(88,[],Pn),(90,[],Ut),(86,[],Lu),(89,[],FZ),(87,[],NI),(84,[],L2)] 284 6 [(1,17,[(0,true),(1,true),(2,true),(3,true),(4,true),(5,true),(6,true),(7,true),(9,true),(10,true),(11,true),(12,true),(13,true),(14,true),(15,true),(16,true),(8,false)],[]),(3,10,[(0,true),(1,true),(2,true),(3,true),(4,true),(5,true),(6,true),(7,true),(8,true),(9,false)],[]),(5,28,tk 28,[]),(6,7,tk 7,[]),(10,9,[(0,true),(1,true),(2,true),(3,true),(4,true),(5,true),(6,true),(7,true),(8,false)],[]),(12,15,[(0,true),(1,true),(2,true),(3,true),(4,true),(5,true),(6,true),(7,true),(8,true),(9,true),(10,false),(11,true),(12,true),(13,true),(14,true)],[]),(13,7,tk 7,[]),(22,10,[(0,true),(1,true),(2,true),(3,true),(4,true),(5,true),(6,true),(7,true),(8,true),(9,false)],[]),(23,6,tk 6,[]),(24,16,tk 16,[])] [(11,DA),(17,EA),(20,FA),(25,GA)]
theorem PI:Pa Tryz.prog Ph.Γ:=Ra (l:=[(85,[],PW),(77,[],Sg),(88,[],Pn),(90,[],Ut),(86,[],Lu),(89,[],FZ),(87,[],NI),(84,[],L2)]) ⟨⟨tU,Tryz.call85⟩,⟨⟨Kp,Tryz.call77⟩,⟨⟨DP,Tryz.call88⟩,⟨⟨TY,Tryz.call90⟩,⟨⟨CZ,Tryz.call86⟩,⟨⟨xL,Tryz.call89⟩,⟨⟨gF,Tryz.call87⟩,⟨⟨zL9,Tryz.call84⟩,trivial⟩⟩⟩⟩⟩⟩⟩⟩
theorem zKf:Ae Tryz.prog 6 284 (Fc Ph.plan (Tryz.f52.body.getD .skip) 0).1 (Fc Ph.plan (Tryz.f52.body.getD .skip) 0).2 DA:=Ny (G:=Ph) (U:=[0,1,2,3,5,7]) (n:=10) (tl:=[10,11,12,13]) (ks:=[]) (t:=(.val 4 (.val 6 (.val 8 (.val 9 .done))))) (F:=DA.F) (eid:=0) (FX:=DA.FX) (FR:=DA.FR) (sh:=Uv) Ga Ha PI mixed (by kernel_rfl) (by kernel_rfl) ⟨fun s=>by kernel_rfl,trivial⟩
theorem zKg:Ae Tryz.prog 6 284 (Fc Ph.plan (Tryz.f52.body.getD .skip) 1).1 (Fc Ph.plan (Tryz.f52.body.getD .skip) 1).2 EA:=Ny (G:=Ph) (U:=[0,1,2,3,5,7]) (n:=10) (tl:=[10,11,12,13]) (ks:=[]) (t:=(.val 4 (.val 6 (.val 8 (.val 9 .done))))) (F:=EA.F) (eid:=0) (FX:=EA.FX) (FR:=EA.FR) (sh:=Cm) Ga Ha PI mixed (by kernel_rfl) (by kernel_rfl) ⟨fun s=>by kernel_rfl,trivial⟩
theorem zKh:Ae Tryz.prog 6 284 (Fc Ph.plan (Tryz.f52.body.getD .skip) 2).1 (Fc Ph.plan (Tryz.f52.body.getD .skip) 2).2 FA:=Ny (G:=Ph) (U:=[0,1,2,3,5,6,7,9,14,15,16,18]) (n:=26) (tl:=[26,27,28,29]) (ks:=[]) (t:=(.val 4 (.val 8 (.val 10 (.val 11 (.val 12 (.val 13 (.val 17 (.val 19 (.val 20 (.val 21 (.val 22 (.one 23 (.val 24 (.one 25 .done))))))))))))))) (F:=FA.F) (eid:=0) (FX:=FA.FX) (FR:=FA.FR) (sh:=Eh) Ga Ha PI mixed (by kernel_rfl) (by kernel_rfl) ⟨fun s=>by kernel_rfl,trivial⟩
theorem zKi:Ae Tryz.prog 6 284 (Fc Ph.plan (Tryz.f52.body.getD .skip) 3).1 (Fc Ph.plan (Tryz.f52.body.getD .skip) 3).2 GA:=NM (G:=Ph) (t:=(.val 0 (.val 1 (.val 2 (.val 4 (.val 6 (.val 7 (.val 8 (.val 10 (.val 12 (.val 13 (.alt 3 (.alt 5 (.alt 9 (.alt 11 (.one 14 (.val 15 (.one 16 (.val 17 (.one 18 .done))))) (.one 14 (.val 15 (.alt 11 (.one 16 (.val 17 (.one 18 .done))) (.one 16 (.one 11 (.val 17 (.one 18 .done)))))))) (.alt 11 (.alt 9 (.one 14 (.val 15 (.one 16 (.val 17 (.one 18 .done))))) (.one 14 (.one 9 (.val 15 (.one 16 (.val 17 (.one 18 .done))))))) (.one 14 (.alt 9 (.val 15 (.alt 11 (.one 16 (.val 17 (.one 18 .done))) (.one 16 (.one 11 (.val 17 (.one 18 .done)))))) (.one 11 (.one 9 (.val 15 (.one 16 (.val 17 (.one 18 .done)))))))))) (.alt 9 (.alt 5 (.alt 11 (.one 14 (.val 15 (.one 16 (.val 17 (.one 18 .done))))) (.one 14 (.val 15 (.alt 11 (.one 16 (.val 17 (.one 18 .done))) (.one 16 (.one 11 (.val 17 (.one 18 .done)))))))) (.alt 11 (.alt 5 (.one 14 (.val 15 (.one 16 (.val 17 (.one 18 .done))))) (.one 14 (.one 5 (.val 15 (.one 16 (.val 17 (.one 18 .done))))))) (.one 14 (.alt 5 (.val 15 (.alt 11 (.one 16 (.val 17 (.one 18 .done))) (.one 16 (.one 11 (.val 17 (.one 18 .done)))))) (.one 11 (.one 5 (.val 15 (.one 16 (.val 17 (.one 18 .done)))))))))) (.alt 11 (.alt 5 (.alt 9 (.one 14 (.val 15 (.one 16 (.val 17 (.one 18 .done))))) (.one 14 (.one 9 (.val 15 (.one 16 (.val 17 (.one 18 .done))))))) (.alt 9 (.alt 5 (.one 14 (.val 15 (.one 16 (.val 17 (.one 18 .done))))) (.one 14 (.one 5 (.val 15 (.one 16 (.val 17 (.one 18 .done))))))) (.one 14 (.alt 5 (.one 9 (.val 15 (.one 16 (.val 17 (.one 18 .done))))) (.one 9 (.one 5 (.val 15 (.one 16 (.val 17 (.one 18 .done)))))))))) (.one 14 (.alt 5 (.alt 9 (.val 15 (.alt 11 (.one 16 (.val 17 (.one 18 .done))) (.one 16 (.one 11 (.val 17 (.one 18 .done)))))) (.one 11 (.one 9 (.val 15 (.one 16 (.val 17 (.one 18 .done))))))) (.alt 9 (.alt 5 (.val 15 (.alt 11 (.one 16 (.val 17 (.one 18 .done))) (.one 16 (.one 11 (.val 17 (.one 18 .done)))))) (.one 11 (.one 5 (.val 15 (.one 16 (.val 17 (.one 18 .done))))))) (.one 11 (.alt 5 (.one 9 (.val 15 (.one 16 (.val 17 (.one 18 .done))))) (.one 9 (.one 5 (.val 15 (.one 16 (.val 17 (.one 18 .done)))))))))))))) (.alt 5 (.alt 3 (.alt 9 (.alt 11 (.one 14 (.val 15 (.one 16 (.val 17 (.one 18 .done))))) (.one 14 (.val 15 (.alt 11 (.one 16 (.val 17 (.one 18 .done))) (.one 16 (.one 11 (.val 17 (.one 18 .done)))))))) (.alt 11 (.alt 9 (.one 14 (.val 15 (.one 16 (.val 17 (.one 18 .done))))) (.one 14 (.one 9 (.val 15 (.one 16 (.val 17 (.one 18 .done))))))) (.one 14 (.alt 9 (.val 15 (.alt 11 (.one 16 (.val 17 (.one 18 .done))) (.one 16 (.one 11 (.val 17 (.one 18 .done)))))) (.one 11 (.one 9 (.val 15 (.one 16 (.val 17 (.one 18 .done)))))))))) (.alt 9 (.alt 3 (.alt 11 (.one 14 (.val 15 (.one 16 (.val 17 (.one 18 .done))))) (.one 14 (.val 15 (.alt 11 (.one 16 (.val 17 (.one 18 .done))) (.one 16 (.one 11 (.val 17 (.one 18 .done)))))))) (.alt 11 (.alt 3 (.one 14 (.val 15 (.one 16 (.val 17 (.one 18 .done))))) (.one 14 (.one 3 (.val 15 (.one 16 (.val 17 (.one 18 .done))))))) (.one 14 (.alt 3 (.val 15 (.alt 11 (.one 16 (.val 17 (.one 18 .done))) (.one 16 (.one 11 (.val 17 (.one 18 .done)))))) (.one 11 (.one 3 (.val 15 (.one 16 (.val 17 (.one 18 .done)))))))))) (.alt 11 (.alt 3 (.alt 9 (.one 14 (.val 15 (.one 16 (.val 17 (.one 18 .done))))) (.one 14 (.one 9 (.val 15 (.one 16 (.val 17 (.one 18 .done))))))) (.alt 9 (.alt 3 (.one 14 (.val 15 (.one 16 (.val 17 (.one 18 .done))))) (.one 14 (.one 3 (.val 15 (.one 16 (.val 17 (.one 18 .done))))))) (.one 14 (.alt 3 (.one 9 (.val 15 (.one 16 (.val 17 (.one 18 .done))))) (.one 9 (.one 3 (.val 15 (.one 16 (.val 17 (.one 18 .done)))))))))) (.one 14 (.alt 3 (.alt 9 (.val 15 (.alt 11 (.one 16 (.val 17 (.one 18 .done))) (.one 16 (.one 11 (.val 17 (.one 18 .done)))))) (.one 11 (.one 9 (.val 15 (.one 16 (.val 17 (.one 18 .done))))))) (.alt 9 (.alt 3 (.val 15 (.alt 11 (.one 16 (.val 17 (.one 18 .done))) (.one 16 (.one 11 (.val 17 (.one 18 .done)))))) (.one 11 (.one 3 (.val 15 (.one 16 (.val 17 (.one 18 .done))))))) (.one 11 (.alt 3 (.one 9 (.val 15 (.one 16 (.val 17 (.one 18 .done))))) (.one 9 (.one 3 (.val 15 (.one 16 (.val 17 (.one 18 .done)))))))))))))) (.alt 9 (.alt 3 (.alt 5 (.alt 11 (.one 14 (.val 15 (.one 16 (.val 17 (.one 18 .done))))) (.one 14 (.val 15 (.alt 11 (.one 16 (.val 17 (.one 18 .done))) (.one 16 (.one 11 (.val 17 (.one 18 .done)))))))) (.alt 11 (.alt 5 (.one 14 (.val 15 (.one 16 (.val 17 (.one 18 .done))))) (.one 14 (.one 5 (.val 15 (.one 16 (.val 17 (.one 18 .done))))))) (.one 14 (.alt 5 (.val 15 (.alt 11 (.one 16 (.val 17 (.one 18 .done))) (.one 16 (.one 11 (.val 17 (.one 18 .done)))))) (.one 11 (.one 5 (.val 15 (.one 16 (.val 17 (.one 18 .done)))))))))) (.alt 5 (.alt 3 (.alt 11 (.one 14 (.val 15 (.one 16 (.val 17 (.one 18 .done))))) (.one 14 (.val 15 (.alt 11 (.one 16 (.val 17 (.one 18 .done))) (.one 16 (.one 11 (.val 17 (.one 18 .done)))))))) (.alt 11 (.alt 3 (.one 14 (.val 15 (.one 16 (.val 17 (.one 18 .done))))) (.one 14 (.one 3 (.val 15 (.one 16 (.val 17 (.one 18 .done))))))) (.one 14 (.alt 3 (.val 15 (.alt 11 (.one 16 (.val 17 (.one 18 .done))) (.one 16 (.one 11 (.val 17 (.one 18 .done)))))) (.one 11 (.one 3 (.val 15 (.one 16 (.val 17 (.one 18 .done)))))))))) (.alt 11 (.alt 3 (.alt 5 (.one 14 (.val 15 (.one 16 (.val 17 (.one 18 .done))))) (.one 14 (.one 5 (.val 15 (.one 16 (.val 17 (.one 18 .done))))))) (.alt 5 (.alt 3 (.one 14 (.val 15 (.one 16 (.val 17 (.one 18 .done))))) (.one 14 (.one 3 (.val 15 (.one 16 (.val 17 (.one 18 .done))))))) (.one 14 (.alt 3 (.one 5 (.val 15 (.one 16 (.val 17 (.one 18 .done))))) (.one 5 (.one 3 (.val 15 (.one 16 (.val 17 (.one 18 .done)))))))))) (.one 14 (.alt 3 (.alt 5 (.val 15 (.alt 11 (.one 16 (.val 17 (.one 18 .done))) (.one 16 (.one 11 (.val 17 (.one 18 .done)))))) (.one 11 (.one 5 (.val 15 (.one 16 (.val 17 (.one 18 .done))))))) (.alt 5 (.alt 3 (.val 15 (.alt 11 (.one 16 (.val 17 (.one 18 .done))) (.one 16 (.one 11 (.val 17 (.one 18 .done)))))) (.one 11 (.one 3 (.val 15 (.one 16 (.val 17 (.one 18 .done))))))) (.one 11 (.alt 3 (.one 5 (.val 15 (.one 16 (.val 17 (.one 18 .done))))) (.one 5 (.one 3 (.val 15 (.one 16 (.val 17 (.one 18 .done)))))))))))))) (.alt 11 (.alt 3 (.alt 5 (.alt 9 (.one 14 (.val 15 (.one 16 (.val 17 (.one 18 .done))))) (.one 14 (.one 9 (.val 15 (.one 16 (.val 17 (.one 18 .done))))))) (.alt 9 (.alt 5 (.one 14 (.val 15 (.one 16 (.val 17 (.one 18 .done))))) (.one 14 (.one 5 (.val 15 (.one 16 (.val 17 (.one 18 .done))))))) (.one 14 (.alt 5 (.one 9 (.val 15 (.one 16 (.val 17 (.one 18 .done))))) (.one 9 (.one 5 (.val 15 (.one 16 (.val 17 (.one 18 .done)))))))))) (.alt 5 (.alt 3 (.alt 9 (.one 14 (.val 15 (.one 16 (.val 17 (.one 18 .done))))) (.one 14 (.one 9 (.val 15 (.one 16 (.val 17 (.one 18 .done))))))) (.alt 9 (.alt 3 (.one 14 (.val 15 (.one 16 (.val 17 (.one 18 .done))))) (.one 14 (.one 3 (.val 15 (.one 16 (.val 17 (.one 18 .done))))))) (.one 14 (.alt 3 (.one 9 (.val 15 (.one 16 (.val 17 (.one 18 .done))))) (.one 9 (.one 3 (.val 15 (.one 16 (.val 17 (.one 18 .done)))))))))) (.alt 9 (.alt 3 (.alt 5 (.one 14 (.val 15 (.one 16 (.val 17 (.one 18 .done))))) (.one 14 (.one 5 (.val 15 (.one 16 (.val 17 (.one 18 .done))))))) (.alt 5 (.alt 3 (.one 14 (.val 15 (.one 16 (.val 17 (.one 18 .done))))) (.one 14 (.one 3 (.val 15 (.one 16 (.val 17 (.one 18 .done))))))) (.one 14 (.alt 3 (.one 5 (.val 15 (.one 16 (.val 17 (.one 18 .done))))) (.one 5 (.one 3 (.val 15 (.one 16 (.val 17 (.one 18 .done)))))))))) (.one 14 (.alt 3 (.alt 5 (.one 9 (.val 15 (.one 16 (.val 17 (.one 18 .done))))) (.one 9 (.one 5 (.val 15 (.one 16 (.val 17 (.one 18 .done))))))) (.alt 5 (.alt 3 (.one 9 (.val 15 (.one 16 (.val 17 (.one 18 .done))))) (.one 9 (.one 3 (.val 15 (.one 16 (.val 17 (.one 18 .done))))))) (.one 9 (.alt 3 (.one 5 (.val 15 (.one 16 (.val 17 (.one 18 .done))))) (.one 5 (.one 3 (.val 15 (.one 16 (.val 17 (.one 18 .done)))))))))))))) (.one 14 (.alt 3 (.alt 5 (.alt 9 (.val 15 (.alt 11 (.one 16 (.val 17 (.one 18 .done))) (.one 16 (.one 11 (.val 17 (.one 18 .done)))))) (.one 11 (.one 9 (.val 15 (.one 16 (.val 17 (.one 18 .done))))))) (.alt 9 (.alt 5 (.val 15 (.alt 11 (.one 16 (.val 17 (.one 18 .done))) (.one 16 (.one 11 (.val 17 (.one 18 .done)))))) (.one 11 (.one 5 (.val 15 (.one 16 (.val 17 (.one 18 .done))))))) (.one 11 (.alt 5 (.one 9 (.val 15 (.one 16 (.val 17 (.one 18 .done))))) (.one 9 (.one 5 (.val 15 (.one 16 (.val 17 (.one 18 .done)))))))))) (.alt 5 (.alt 3 (.alt 9 (.val 15 (.alt 11 (.one 16 (.val 17 (.one 18 .done))) (.one 16 (.one 11 (.val 17 (.one 18 .done)))))) (.one 11 (.one 9 (.val 15 (.one 16 (.val 17 (.one 18 .done))))))) (.alt 9 (.alt 3 (.val 15 (.alt 11 (.one 16 (.val 17 (.one 18 .done))) (.one 16 (.one 11 (.val 17 (.one 18 .done)))))) (.one 11 (.one 3 (.val 15 (.one 16 (.val 17 (.one 18 .done))))))) (.one 11 (.alt 3 (.one 9 (.val 15 (.one 16 (.val 17 (.one 18 .done))))) (.one 9 (.one 3 (.val 15 (.one 16 (.val 17 (.one 18 .done)))))))))) (.alt 9 (.alt 3 (.alt 5 (.val 15 (.alt 11 (.one 16 (.val 17 (.one 18 .done))) (.one 16 (.one 11 (.val 17 (.one 18 .done)))))) (.one 11 (.one 5 (.val 15 (.one 16 (.val 17 (.one 18 .done))))))) (.alt 5 (.alt 3 (.val 15 (.alt 11 (.one 16 (.val 17 (.one 18 .done))) (.one 16 (.one 11 (.val 17 (.one 18 .done)))))) (.one 11 (.one 3 (.val 15 (.one 16 (.val 17 (.one 18 .done))))))) (.one 11 (.alt 3 (.one 5 (.val 15 (.one 16 (.val 17 (.one 18 .done))))) (.one 5 (.one 3 (.val 15 (.one 16 (.val 17 (.one 18 .done)))))))))) (.one 11 (.alt 3 (.alt 5 (.one 9 (.val 15 (.one 16 (.val 17 (.one 18 .done))))) (.one 9 (.one 5 (.val 15 (.one 16 (.val 17 (.one 18 .done))))))) (.alt 5 (.alt 3 (.one 9 (.val 15 (.one 16 (.val 17 (.one 18 .done))))) (.one 9 (.one 3 (.val 15 (.one 16 (.val 17 (.one 18 .done))))))) (.one 9 (.alt 3 (.one 5 (.val 15 (.one 16 (.val 17 (.one 18 .done))))) (.one 5 (.one 3 (.val 15 (.one 16 (.val 17 (.one 18 .done)))))))))))))))))))))))))))))) (F:=GA.F) (eid:=0) (FX:=GA.FX) (FR:=GA.FR) (sh:=Ce) Ga Ha PI mixed (by kernel_rfl) (by kernel_rfl) ⟨fun s=>by kernel_rfl,fun s=>by kernel_rfl,fun s=>by kernel_rfl,fun s=>by kernel_rfl,fun s=>by kernel_rfl,fun s=>by kernel_rfl,fun s=>by kernel_rfl,fun s=>by kernel_rfl,fun s=>by kernel_rfl,fun s=>by kernel_rfl,fun s=>by kernel_rfl,fun s=>by kernel_rfl,fun s=>by kernel_rfl,fun s=>by kernel_rfl,fun s=>by kernel_rfl,fun s=>by kernel_rfl,fun s=>by kernel_rfl,fun s=>by kernel_rfl,fun s=>by kernel_rfl,fun s=>by kernel_rfl,fun s=>by kernel_rfl,fun s=>by kernel_rfl,fun s=>by kernel_rfl,fun s=>by kernel_rfl,fun s=>by kernel_rfl,fun s=>by kernel_rfl,fun s=>by kernel_rfl,fun s=>by kernel_rfl,fun s=>by kernel_rfl,fun s=>by kernel_rfl,fun s=>by kernel_rfl,fun s=>by kernel_rfl,fun s=>by kernel_rfl,fun s=>by kernel_rfl,fun s=>by kernel_rfl,fun s=>by kernel_rfl,fun s=>by kernel_rfl,fun s=>by kernel_rfl,fun s=>by kernel_rfl,fun s=>by kernel_rfl,fun s=>by kernel_rfl,fun s=>by kernel_rfl,fun s=>by kernel_rfl,fun s=>by kernel_rfl,fun s=>by kernel_rfl,fun s=>by kernel_rfl,fun s=>by kernel_rfl,fun s=>by kernel_rfl,fun s=>by kernel_rfl,fun s=>by kernel_rfl,fun s=>by kernel_rfl,fun s=>by kernel_rfl,fun s=>by kernel_rfl,fun s=>by kernel_rfl,fun s=>by kernel_rfl,fun s=>by kernel_rfl,fun s=>by kernel_rfl,fun s=>by kernel_rfl,fun s=>by kernel_rfl,fun s=>by kernel_rfl,fun s=>by kernel_rfl,fun s=>by kernel_rfl,fun s=>by kernel_rfl,fun s=>by kernel_rfl,fun s=>by kernel_rfl,fun s=>by kernel_rfl,fun s=>by kernel_rfl,fun s=>by kernel_rfl,fun s=>by kernel_rfl,fun s=>by kernel_rfl,fun s=>by kernel_rfl,fun s=>by kernel_rfl,fun s=>by kernel_rfl,fun s=>by kernel_rfl,fun s=>by kernel_rfl,fun s=>by kernel_rfl,fun s=>by kernel_rfl,fun s=>by kernel_rfl,fun s=>by kernel_rfl,fun s=>by kernel_rfl,fun s=>by kernel_rfl,fun s=>by kernel_rfl,fun s=>by kernel_rfl,fun s=>by kernel_rfl,fun s=>by kernel_rfl,fun s=>by kernel_rfl,fun s=>by kernel_rfl,fun s=>by kernel_rfl,fun s=>by kernel_rfl,fun s=>by kernel_rfl,fun s=>by kernel_rfl,fun s=>by kernel_rfl,fun s=>by kernel_rfl,fun s=>by kernel_rfl,fun s=>by kernel_rfl,fun s=>by kernel_rfl,fun s=>by kernel_rfl,fun s=>by kernel_rfl,fun s=>by kernel_rfl,fun s=>by kernel_rfl,fun s=>by kernel_rfl,fun s=>by kernel_rfl,fun s=>by kernel_rfl,fun s=>by kernel_rfl,fun s=>by kernel_rfl,fun s=>by kernel_rfl,fun s=>by kernel_rfl,fun s=>by kernel_rfl,fun s=>by kernel_rfl,fun s=>by kernel_rfl,fun s=>by kernel_rfl,fun s=>by kernel_rfl,fun s=>by kernel_rfl,fun s=>by kernel_rfl,fun s=>by kernel_rfl,fun s=>by kernel_rfl,fun s=>by kernel_rfl,fun s=>by kernel_rfl,fun s=>by kernel_rfl,fun s=>by kernel_rfl,fun s=>by kernel_rfl,fun s=>by kernel_rfl,fun s=>by kernel_rfl,fun s=>by kernel_rfl,fun s=>by kernel_rfl,fun s=>by kernel_rfl,fun s=>by kernel_rfl,fun s=>by kernel_rfl,fun s=>by kernel_rfl,fun s=>by kernel_rfl,fun s=>by kernel_rfl,fun s=>by kernel_rfl,fun s=>by kernel_rfl,fun s=>by kernel_rfl,fun s=>by kernel_rfl,fun s=>by kernel_rfl,fun s=>by kernel_rfl,fun s=>by kernel_rfl,fun s=>by kernel_rfl,fun s=>by kernel_rfl,fun s=>by kernel_rfl,fun s=>by kernel_rfl,fun s=>by kernel_rfl,fun s=>by kernel_rfl,trivial⟩
theorem gJ:GC Tryz.prog 52 OI:=Rq (G:=Ph) (c:=Tryz.f52.body.getD .skip) Ga Ha PI mixed Tryz.func52 (by kernel_rfl) Tryz.ntmps52 (Bh (G:=Ph) (n:=0) (m:=4) (by kernel_rfl) (by kernel_rfl) trivial (by kernel_rfl) ⟨⟨⟨⟨trivial,Bg (L0:=DA) (by kernel_rfl) zKf⟩,Bg (L0:=EA) (by kernel_rfl) zKg⟩,Bg (L0:=FA) (by kernel_rfl) zKh⟩,Bg (L0:=GA) (by kernel_rfl) zKi⟩) [5] (fun s=>by kernel_rfl)
def Aw:Xa:=⟨⟨[0,10,11,17,18],⟨[.c (.one (.ptr 0 0)),zc,zc,zc,zc],[.box 35 [zi,(.own 1),(.own 2),(.own 3),(.own 4),(.own 6)],.row 60 .lk,.row 4 .bool,.row 3 .int,.row 45 .db,.dead,.row 86 .pk]⟩,[.int,.int,.int,.int,.int,.ls .lk,.ls .bool,.ls .int,.ls .db,.ls .pk]⟩,2,⟨[0,10,11],⟨[.c (.one (.ptr 0 0)),zc,zc],[.box 35 [zi,(.own 1),(.own 2),(.own 3),(.own 4),(.own 6)],.row 60 .lk,.row 4 .bool,.row 3 .int,.row 45 .db,.dead,.row 86 .pk]⟩,[.int,.int,.int,.ls .lk,.ls .bool,.ls .int,.ls .db,.ls .pk]⟩,zx,lp II Ea⟩
def Bw:Xa:=⟨⟨[0,10,11],⟨[.c (.one (.ptr 0 0)),zc,zc],[.box 35 [zi,(.own 1),(.own 2),(.own 3),(.own 4),(.own 6)],.row 60 .lk,.row 4 .bool,.row 3 .int,.row 45 .db,.dead,.row 86 .pk]⟩,[.int,.int,.int,.ls .lk,.ls .bool,.ls .int,.ls .db,.ls .pk]⟩,0,⟨[],⟨[],[.box 35 [zi,(.own 1),(.own 2),(.own 3),(.own 4),(.own 6)],.row 60 .lk,.row 4 .bool,.row 3 .int,.row 45 .db,.dead,.row 86 .pk]⟩,[.int,.ls .lk,.ls .bool,.ls .int,.ls .db,.ls .pk]⟩,zx,lp JI Ea⟩
def V2:Oa:=⟨⟨[.c (.one (.ptr 0 0))],[.box 35 [zi,(.own 1),(.own 2),(.own 3),(.own 4),(.own 5)],.row 60 .lk,.row 4 .bool,.row 3 .int,.row 45 .db,.row 86 .pk]⟩,[.int,.ls .lk,.ls .bool,.ls .int,.ls .db,.ls .pk],⟨[.tup []],[.box 35 [zi,(.own 1),(.own 2),(.own 3),(.own 4),(.own 6)],.row 60 .lk,.row 4 .bool,.row 3 .int,.row 45 .db,.dead,.row 86 .pk]⟩,[.int,.ls .lk,.ls .bool,.ls .int,.ls .db,.ls .pk],LQ⟩
def Cw:Ma:=Sa tab [(52,[],OI)] 27 6 [] [(4,Aw),(2,Bw)]
theorem X2:Pa Tryz.prog Cw.Γ:=Ra (l:=[(52,[],OI)]) ⟨⟨gJ,Tryz.call52⟩,trivial⟩
theorem zKk:Cb Tryz.prog 6 27 (Va (Va (Tryz.f53.body.getD .skip) 0) 0) Aw:=Fb (G:=Cw) (F:=Aw.F) (eid:=Aw.eid) (FX:=Aw.FX) (FR:=Aw.FR) (B:=II) (n:=Ea) Ga Ha X2 mixed (Ja (G:=Cw) (n:=0) (by kernel_rfl) (by kernel_rfl) trivial (by kernel_rfl)) (fun s=>by kernel_rfl)
theorem zKj:Cb Tryz.prog 6 27 (Va (Tryz.f53.body.getD .skip) 0) Bw:=Fb (G:=Cw) (F:=Bw.F) (eid:=Bw.eid) (FX:=Bw.FX) (FR:=Bw.FR) (B:=JI) (n:=Ea) Ga Ha X2 mixed (Ja (G:=Cw) (n:=1) (by kernel_rfl) (by kernel_rfl) ⟨trivial,Gb (id:=4) (L0:=Aw) (by kernel_rfl) (by kernel_rfl) zKk⟩ (by kernel_rfl)) (fun s=>by kernel_rfl)
theorem zMb:GC Tryz.prog 53 V2:=Rq (G:=Cw) (c:=Tryz.f53.body.getD .skip) Ga Ha X2 mixed Tryz.func53 (by kernel_rfl) Tryz.ntmps53 (Ja (G:=Cw) (n:=1) (by kernel_rfl) (by kernel_rfl) ⟨trivial,Gb (id:=2) (L0:=Bw) (by kernel_rfl) (by kernel_rfl) zKj⟩ (by kernel_rfl)) [5] (fun s=>by kernel_rfl)
end
section
open Go.RowKit
def Z2 (_:(Unit)):Option Y5:=some (5,[(Lk.mk (0) (1) (2)),(Lk.mk (0) (4) (3)),(Lk.mk (1) (2) (2)),(Lk.mk (1) (4) (6)),(Lk.mk (2) (3) (2)),(Lk.mk (3) (4) (3))],())
def MQ (s:Be):Option Y3:=(bif Dc s.1 (bs [100,111,119,110]) then some (1,()) else (bif Dc s.1 (bs [117,112]) then some (2,()) else (bif Dc s.1 (bs [100,101,108,105,118,101,114]) then some (3,()) else (bif Dc s.1 (bs [108,111,115,101]) then some (4,()) else (bif Dc s.1 (bs [116,119,105,99,101]) then some (5,()) else (bif Dc s.1 (bs [115,121,110,99]) then some (6,()) else some (0,())))))))
def QI (s:(ByteArray×Oe)):Option ((ByteArray×Oe)⊕(Y3⊕Y3)):=(bif decide (s.2.2.2.1<s.2.2.1) then (bif Ca s.2.2.2.1 (ByteArray.size s.1) then (bif decide ((((UInt8.toNat (ByteArray.get! s.1 (Int.toNat s.2.2.2.1))):Nat):Int)<48) then some (Sum.inr (Sum.inr ((-(1)),()))) else (bif Ca s.2.2.2.1 (ByteArray.size s.1) then (bif decide (57<(((UInt8.toNat (ByteArray.get! s.1 (Int.toNat s.2.2.2.1))):Nat):Int)) then some (Sum.inr (Sum.inr ((-(1)),()))) else (bif Ca s.2.2.2.1 (ByteArray.size s.1) then some (Sum.inl (s.1,wrap64 (wrap64 (10*s.2.1)+wrap64 (Qd .u8 ((((UInt8.toNat (ByteArray.get! s.1 (Int.toNat s.2.2.2.1))):Nat):Int)-48))),s.2.2.1,wrap64 (s.2.2.2.1+1),())) else none)) else none)) else none) else some (Sum.inr (Sum.inl (s.2.1,()))))
def HA (s:Be):Option Y3:=(Dh (nI (ByteArray.size s.1),1,2,())).bind fun r0=>(bif (!r0.1) then some ((-(1)),()) else (lp QI Ea (s.1,0,nI (ByteArray.size s.1),0,())).bind fun r1=>(match r1 with| .inl x2=>some x2| .inr y2=>some (y2.1,())))
def RI (s:KN):Option Y5:=(Dh (s.2.2.2.2.2.2.1,0,wrap64 (s.1-1),())).bind fun r0=>(bif (!r0.1) then some (0,([]:List Lk),()) else (ZO s).bind fun r1=>some r1)
def SI (F:(Int×Unit)→Option (ByteArray×Unit)) (s:(Int×Unit)):Option ((ByteArray×Unit)⊕Unit):=(F ((wrap64 (Int.tdiv s.1 ((10:Int))),()))).bind fun r0=>(bif decide (((ByteArray.size r0.1+ByteArray.size (Ro ([Qd .u8 (wrap64 (((48:Int)+Int.tmod s.1 ((10:Int)))))])))≤(9223372036854775807:Nat))) then some (Sum.inl ((Da r0.1 (Ro ([Qd .u8 (wrap64 (((48:Int)+Int.tmod s.1 ((10:Int)))))])),()))) else none)
def IA (F:(Int×Unit)→Option (ByteArray×Unit)) (s:(Int×Unit)):Option (ByteArray×Unit):=(bif decide ((s.1<(-((9223372036854775807:Int))))) then some (((bs ([(45:UInt8),(57:UInt8),(50:UInt8),(50:UInt8),(51:UInt8),(51:UInt8),(55:UInt8),(50:UInt8),(48:UInt8),(51:UInt8),(54:UInt8),(56:UInt8),(53:UInt8),(52:UInt8),(55:UInt8),(55:UInt8),(53:UInt8),(56:UInt8),(48:UInt8),(56:UInt8)])),())) else (bif decide ((s.1<(0:Int))) then (F ((wrap64 ((-s.1)),()))).bind fun r0=>(bif decide (((ByteArray.size ((bs ([(45:UInt8)])))+ByteArray.size r0.1)≤(9223372036854775807:Nat))) then some ((Da ((bs ([(45:UInt8)]))) r0.1,())) else none) else (bif decide ((s.1<(10:Int))) then some ((Ro ([Qd .u8 (wrap64 (((48:Int)+s.1)))]),())) else ((SI F) ((s.1,()))).bind fun r1=>(match r1 with| .inl x2=>some ((x2.1,()))| .inr _=>none))))
def Qp:Nat→(Int×Unit)→Option (ByteArray×Unit)
  |0=>fun _=>none
  |k+1=>IA (Qp k)
def Tk (s:Y3):Option Be:=Qp 25 s
def UI (s:(ByteArray×Int×Int×Int×List ByteArray×Unit)):Option ((ByteArray×Int×Int×Int×List ByteArray×Unit)⊕((ByteArray×Int×List ByteArray×Unit)⊕Unit)):=(bif decide (s.2.2.2.1<nI (ByteArray.size s.1)) then (bif Ca s.2.2.2.1 (ByteArray.size s.1) then (bif decide ((((UInt8.toNat (ByteArray.get! s.1 (Int.toNat s.2.2.2.1))):Nat):Int)=s.2.1) then (bif Gg s.2.2.1 s.2.2.2.1 (ByteArray.size s.1) then (bif decide ((List.length s.2.2.2.2.1+List.length [ByteArray.extract s.1 (Int.toNat s.2.2.1) (Int.toNat s.2.2.2.1)])≤(33554432:Nat)) then some (Sum.inl (s.1,s.2.1,wrap64 (s.2.2.2.1+1),wrap64 (s.2.2.2.1+1),(s.2.2.2.2.1++[ByteArray.extract s.1 (Int.toNat s.2.2.1) (Int.toNat s.2.2.2.1)]),())) else none) else none) else some (Sum.inl (s.1,s.2.1,s.2.2.1,wrap64 (s.2.2.2.1+1),s.2.2.2.2))) else none) else some (Sum.inr (Sum.inl (s.1,s.2.2.1,s.2.2.2.2))))
def VI (s:(ByteArray×Y3)):Option (List ByteArray×Unit):=(lp UI Ea (s.1,s.2.1,0,0,([]:List ByteArray),())).bind fun r0=>(match r0 with| .inl x1=>(bif Gg x1.2.1 (((ByteArray.size x1.1):Nat):Int) (ByteArray.size x1.1) then (bif decide ((List.length x1.2.2.1+List.length [ByteArray.extract x1.1 (Int.toNat x1.2.1) (Int.toNat (((ByteArray.size x1.1):Nat):Int))])≤(33554432:Nat)) then some ((x1.2.2.1++[ByteArray.extract x1.1 (Int.toNat x1.2.1) (Int.toNat (((ByteArray.size x1.1):Nat):Int))]),()) else none) else none)| .inr _=>none)
def WI (s:(List ByteArray×Oe)):Option ((List ByteArray×Oe)⊕(Y3⊕Y3)):=(bif Ca s.2.1 (List.length s.1) then (bif decide (s.2.2.2.1<nI (ByteArray.size (Aa .str s.1 (Int.toNat s.2.1)))) then (bif Ca s.2.1 (List.length s.1) then (bif Ca s.2.2.2.1 (ByteArray.size (Aa .str s.1 (Int.toNat s.2.1))) then (bif decide ((((UInt8.toNat (ByteArray.get! (Aa .str s.1 (Int.toNat s.2.1)) (Int.toNat s.2.2.2.1))):Nat):Int)<(48:Int)) then some (Sum.inr (Sum.inr ((-(1)),()))) else (bif Ca s.2.1 (List.length s.1) then (bif Ca s.2.2.2.1 (ByteArray.size (Aa .str s.1 (Int.toNat s.2.1))) then (bif decide ((57:Int)<(((UInt8.toNat (ByteArray.get! (Aa .str s.1 (Int.toNat s.2.1)) (Int.toNat s.2.2.2.1))):Nat):Int)) then some (Sum.inr (Sum.inr ((-(1)),()))) else (bif Ca s.2.1 (List.length s.1) then (bif Ca s.2.2.2.1 (ByteArray.size (Aa .str s.1 (Int.toNat s.2.1))) then some (Sum.inl (s.1,s.2.1,wrap64 (wrap64 (10*s.2.2.1)+wrap64 (Qd .u8 ((((UInt8.toNat (ByteArray.get! (Aa .str s.1 (Int.toNat s.2.1)) (Int.toNat s.2.2.2.1))):Nat):Int)-(48:Int)))),wrap64 (s.2.2.2.1+1),())) else none) else none)) else none) else none)) else none) else none) else some (Sum.inr (Sum.inl (s.2.2.1,())))) else none)
def Dw (s:(List ByteArray×Y3)):Option Y3:=(bif decide (nI (List.length s.1)≤s.2.1) then some ((-(1)),()) else (bif Ca s.2.1 (List.length s.1) then (Vf (nI (ByteArray.size (Aa .str s.1 (Int.toNat s.2.1))),1,2,())).bind fun r0=>(bif (!r0.1) then some ((-(1)),()) else (lp WI Ea (s.1,s.2.1,0,0,())).bind fun r1=>(match r1 with| .inl x2=>some x2| .inr y2=>some (y2.1,()))) else none))
def JA (s:(ByteArray×Int×List ByteArray×Unit)):Option ((ByteArray×Int×List ByteArray×Unit)⊕((Unit)⊕Y3)):=(bif decide (s.2.1<nI (List.length s.2.2.1)) then (bif Ca s.2.1 (List.length s.2.2.1) then (bif Dc (Aa .str s.2.2.1 (Int.toNat s.2.1)) s.1 then some (Sum.inr (Sum.inr (s.2.1,()))) else some (Sum.inl (s.1,wrap64 (s.2.1+1),s.2.2))) else none) else some (Sum.inr (Sum.inl ())))
def NQ (s:Be):Option Y3:=(lp JA Ea (s.1,1,[(bs ([]:List UInt8)),(bs [100,111,119,110]),(bs [117,112]),(bs [100,101,108,105,118,101,114]),(bs [108,111,115,101]),(bs [116,119,105,99,101]),(bs [115,121,110,99])],())).bind fun r0=>(match r0 with| .inl _=>some (0,())| .inr y1=>some (y1.1,()))
def Ew (_:(Unit)):Option Y5:=some (5,[(Lk.mk (0) (1) (2)),(Lk.mk (0) (4) (3)),(Lk.mk (1) (2) (2)),(Lk.mk (1) (4) (6)),(Lk.mk (2) (3) (2)),(Lk.mk (3) (4) (3))],())
def XI (s:(List Int×ByteArray×Y3)):Option ((List Int×ByteArray×Y3)⊕(Be⊕Unit)):=(bif decide (s.2.2.1<nI (List.length s.1)) then (bif decide ((ByteArray.size s.2.1+ByteArray.size (bs [32]))≤(9223372036854775807:Nat)) then (bif Ca s.2.2.1 (List.length s.1) then (Tk (Aa .int s.1 (Int.toNat s.2.2.1),())).bind fun r0=>(bif decide ((ByteArray.size (Da s.2.1 (bs [32]))+ByteArray.size r0.1)≤(9223372036854775807:Nat)) then some (Sum.inl (s.1,Da (Da s.2.1 (bs [32])) r0.1,wrap64 (s.2.2.1+1),())) else none) else none) else none) else some (Sum.inr (Sum.inl (s.2.1,()))))
def KA (s:Y2):Option Be:=(lp XI Ea (s.1,(bs ([]:List UInt8)),0,())).bind fun r0=>(match r0 with| .inl x1=>some x1| .inr _=>none)
def YI (s:(List Lb×ByteArray×Y3)):Option ((List Lb×ByteArray×Y3)⊕(Be⊕Unit)):=(bif decide (s.2.2.1<nI (List.length s.1)) then (bif Ca s.2.2.1 (List.length s.1) then (bif decide ((Aa .lb s.1 (Int.toNat s.2.2.1)).k=(1:Int)) then (bif decide ((ByteArray.size s.2.1+ByteArray.size (bs [32,110]))≤(9223372036854775807:Nat)) then (bif Ca s.2.2.1 (List.length s.1) then (Tk ((Aa .lb s.1 (Int.toNat s.2.2.1)).a,())).bind fun r0=>(bif decide ((ByteArray.size (Da s.2.1 (bs [32,110]))+ByteArray.size r0.1)≤(9223372036854775807:Nat)) then some (Sum.inl (s.1,Da (Da s.2.1 (bs [32,110])) r0.1,wrap64 (s.2.2.1+1),())) else none) else none) else none) else (bif decide ((ByteArray.size s.2.1+ByteArray.size (bs [32,108]))≤(9223372036854775807:Nat)) then (bif Ca s.2.2.1 (List.length s.1) then (Tk ((Aa .lb s.1 (Int.toNat s.2.2.1)).a,())).bind fun r1=>(bif decide ((ByteArray.size (Da s.2.1 (bs [32,108]))+ByteArray.size r1.1)≤(9223372036854775807:Nat)) then some (Sum.inl (s.1,Da (Da s.2.1 (bs [32,108])) r1.1,wrap64 (s.2.2.1+1),())) else none) else none) else none)) else none) else some (Sum.inr (Sum.inl (s.2.1,()))))
def OQ (s:(List Lb×Unit)):Option Be:=(lp YI Ea (s.1,(bs ([]:List UInt8)),0,())).bind fun r0=>(match r0 with| .inl x1=>some x1| .inr _=>none)
def ZI (s:(ByteArray×Int×Y0)):Option ((ByteArray×Int×Y0)⊕(Be⊕Unit)):=(bif decide (s.2.1<nI (List.length s.2.2.2.2.2.2.2.1)) then (bif Ca s.2.1 (List.length s.2.2.2.2.2.2.2.1) then (bif Ca s.2.1 (List.length s.2.2.2.2.2.2.2.1) then (bif Ca s.2.1 (List.length s.2.2.2.2.2.2.2.1) then (Tk (s.2.1,())).bind fun r0=>(bif decide ((ByteArray.size s.1+ByteArray.size r0.1)≤(9223372036854775807:Nat)) then (bif decide ((ByteArray.size (Da s.1 r0.1)+ByteArray.size (bs [32]))≤(9223372036854775807:Nat)) then (Tk ((Aa .pk s.2.2.2.2.2.2.2.1 (Int.toNat s.2.1)).t,())).bind fun r1=>(bif decide ((ByteArray.size (Da (Da s.1 r0.1) (bs [32]))+ByteArray.size r1.1)≤(9223372036854775807:Nat)) then (bif decide ((ByteArray.size (Da (Da (Da s.1 r0.1) (bs [32])) r1.1)+ByteArray.size (bs [32]))≤(9223372036854775807:Nat)) then (Tk (((Aa .pk s.2.2.2.2.2.2.2.1 (Int.toNat s.2.1)).p).o,())).bind fun r2=>(bif decide ((ByteArray.size (Da (Da (Da (Da s.1 r0.1) (bs [32])) r1.1) (bs [32]))+ByteArray.size r2.1)≤(9223372036854775807:Nat)) then (bif decide ((ByteArray.size (Da (Da (Da (Da (Da s.1 r0.1) (bs [32])) r1.1) (bs [32])) r2.1)+ByteArray.size (bs [32]))≤(9223372036854775807:Nat)) then (Tk (((Aa .pk s.2.2.2.2.2.2.2.1 (Int.toNat s.2.1)).p).s,())).bind fun r3=>(bif decide ((ByteArray.size (Da (Da (Da (Da (Da (Da s.1 r0.1) (bs [32])) r1.1) (bs [32])) r2.1) (bs [32]))+ByteArray.size r3.1)≤(9223372036854775807:Nat)) then (bif decide ((ByteArray.size (Da (Da (Da (Da (Da (Da (Da s.1 r0.1) (bs [32])) r1.1) (bs [32])) r2.1) (bs [32])) r3.1)+ByteArray.size (bs [10]))≤(9223372036854775807:Nat)) then some (Sum.inl (Da (Da (Da (Da (Da (Da (Da (Da s.1 r0.1) (bs [32])) r1.1) (bs [32])) r2.1) (bs [32])) r3.1) (bs [10]),wrap64 (s.2.1+1),s.2.2)) else none) else none) else none) else none) else none) else none) else none) else none) else none) else none) else none) else some (Sum.inr (Sum.inl (s.1,()))))
def PQ (s:Y0):Option Be:=(lp ZI Ea ((bs ([]:List UInt8)),0,s)).bind fun r0=>(match r0 with| .inl x1=>some x1| .inr _=>none)
def LA (s:(ByteArray×Int×Int×Y0)):Option ((ByteArray×Int×Int×Y0)⊕((ByteArray×Int×Y0)⊕Unit)):=(bif Ca s.2.1 (List.length s.2.2.2.2.2.2.2.1) then (bif decide (s.2.2.1<nI (List.length (Aa .db s.2.2.2.2.2.2.2.1 (Int.toNat s.2.1)))) then (bif decide ((ByteArray.size s.1+ByteArray.size (bs [32]))≤(9223372036854775807:Nat)) then (bif Ca s.2.1 (List.length s.2.2.2.2.2.2.2.1) then (bif Ca s.2.2.1 (List.length (Aa .db s.2.2.2.2.2.2.2.1 (Int.toNat s.2.1))) then (Tk ((Aa .ls (Aa .db s.2.2.2.2.2.2.2.1 (Int.toNat s.2.1)) (Int.toNat s.2.2.1)).s,())).bind fun r0=>(bif decide ((ByteArray.size (Da s.1 (bs [32]))+ByteArray.size r0.1)≤(9223372036854775807:Nat)) then some (Sum.inl (Da (Da s.1 (bs [32])) r0.1,s.2.1,wrap64 (s.2.2.1+1),s.2.2.2)) else none) else none) else none) else none) else some (Sum.inr (Sum.inl (s.1,s.2.1,s.2.2.2)))) else none)
def AJ (s:(ByteArray×Int×Y0)):Option ((ByteArray×Int×Y0)⊕(Be⊕Unit)):=(bif decide (s.2.1<nI (List.length s.2.2.2.2.2.2.1)) then (bif decide ((ByteArray.size s.1+ByteArray.size (bs [110,111,100,101,32]))≤(9223372036854775807:Nat)) then (Tk (s.2.1,())).bind fun r0=>(bif decide ((ByteArray.size (Da s.1 (bs [110,111,100,101,32]))+ByteArray.size r0.1)≤(9223372036854775807:Nat)) then (lp LA Ea (Da (Da s.1 (bs [110,111,100,101,32])) r0.1,s.2.1,0,s.2.2)).bind fun r1=>(match r1 with| .inl x2=>(bif decide ((ByteArray.size x2.1+ByteArray.size (bs [10]))≤(9223372036854775807:Nat)) then some (Sum.inl (Da x2.1 (bs [10]),wrap64 (x2.2.1+1),x2.2.2)) else none)| .inr _=>none) else none) else none) else some (Sum.inr (Sum.inl (s.1,()))))
def QQ (s:Y0):Option Be:=(lp AJ Ea ((bs ([]:List UInt8)),0,s)).bind fun r0=>(match r0 with| .inl x1=>some x1| .inr _=>none)
def RQ (s:IN):Option Be:=(Dw (s.2.2.2.2.2.2.1,1,())).bind fun r0=>(Dw (s.2.2.2.2.2.2.1,2,())).bind fun r1=>(bif Ca (0) (List.length s.2.2.2.2.2.2.1) then (bif Dc (Aa .str s.2.2.2.2.2.2.1 (Int.toNat (0))) (bs [112,97,116,104]) then (Iz (s.1,s.2.1,s.2.2.1,s.2.2.2.1,s.2.2.2.2.1,s.2.2.2.2.2.1,r0)).bind fun r2=>(XP (r2.1,r2.2.1,r0.1,r1)).bind fun r3=>(KA r3).bind fun r4=>(bif decide ((ByteArray.size (bs [112,97,116,104])+ByteArray.size r4.1)≤(9223372036854775807:Nat)) then (bif decide ((ByteArray.size (Da (bs [112,97,116,104]) r4.1)+ByteArray.size (bs [10]))≤(9223372036854775807:Nat)) then some (Da (Da (bs [112,97,116,104]) r4.1) (bs [10]),()) else none) else none) else (bif Dc (Aa .str s.2.2.2.2.2.2.1 (Int.toNat (0))) (bs [115,101,101,110]) then (Iz (s.1,s.2.1,s.2.2.1,s.2.2.2.1,s.2.2.2.2.1,s.2.2.2.2.2.1,r0)).bind fun r5=>(VP (r5.1,r5.2.1,r1)).bind fun r6=>(KA r6).bind fun r7=>(bif decide ((ByteArray.size (bs [115,101,101,110])+ByteArray.size r7.1)≤(9223372036854775807:Nat)) then (bif decide ((ByteArray.size (Da (bs [115,101,101,110]) r7.1)+ByteArray.size (bs [10]))≤(9223372036854775807:Nat)) then some (Da (Da (bs [115,101,101,110]) r7.1) (bs [10]),()) else none) else none) else (bif Dc (Aa .str s.2.2.2.2.2.2.1 (Int.toNat (0))) (bs [114,101,112,97,105,114]) then (Ew ()).bind fun r8=>(Dw (s.2.2.2.2.2.2.1,3,())).bind fun r9=>(ZP (r8.1,r8.2.1,r0.1,r1.1,r9)).bind fun r10=>(bif (!r10.1) then some ((bs [110,111,32,114,101,112,97,105,114,10]),()) else (OQ r10.2).bind fun r11=>(bif decide ((ByteArray.size (bs [114,101,112,97,105,114])+ByteArray.size r11.1)≤(9223372036854775807:Nat)) then (bif decide ((ByteArray.size (Da (bs [114,101,112,97,105,114]) r11.1)+ByteArray.size (bs [10]))≤(9223372036854775807:Nat)) then some (Da (Da (bs [114,101,112,97,105,114]) r11.1) (bs [10]),()) else none) else none)) else (bif Dc (Aa .str s.2.2.2.2.2.2.1 (Int.toNat (0))) (bs [111,114,100,101,114]) then (Ew ()).bind fun r12=>(Un (r12.1,r12.2.1,r0.1,r1)).bind fun r13=>(KA r13).bind fun r14=>(bif decide ((ByteArray.size (bs [111,114,100,101,114])+ByteArray.size r14.1)≤(9223372036854775807:Nat)) then (bif decide ((ByteArray.size (Da (bs [111,114,100,101,114]) r14.1)+ByteArray.size (bs [10]))≤(9223372036854775807:Nat)) then some (Da (Da (bs [111,114,100,101,114]) r14.1) (bs [10]),()) else none) else none) else (bif Dc (Aa .str s.2.2.2.2.2.2.1 (Int.toNat (0))) (bs [110,101,116]) then (PQ (s.1,s.2.1,s.2.2.1,s.2.2.2.1,s.2.2.2.2.1,s.2.2.2.2.2.1,())).bind fun r15=>some r15 else some ((bs [119,104,97,116,10]),())))))) else none)
def SQ (s:(Int×List Lk×List Bool×List Int×List (List Ls)×List Pk×Be)):Option (Int×List Lk×List Bool×List Int×List (List Ls)×List Pk×Be):=(VI (s.2.2.2.2.2.2.1,32,())).bind fun r0=>(bif Ca (0) (List.length r0.1) then (NQ (Aa .str r0.1 (Int.toNat (0)),())).bind fun r1=>(Dw (r0.1,1,())).bind fun r2=>(bif decide (0<r1.1) then (KQ (s.1,s.2.1,s.2.2.1,s.2.2.2.1,s.2.2.2.2.1,s.2.2.2.2.2.1,r1.1,r2)).bind fun r3=>some (r3.1,r3.2.1,r3.2.2.1,r3.2.2.2.1,r3.2.2.2.2.1,r3.2.2.2.2.2.1,(bs ([]:List UInt8)),()) else (bif Ca (0) (List.length r0.1) then (bif Dc (Aa .str r0.1 (Int.toNat (0))) (bs [99,97,108,109]) then (JQ (s.1,s.2.1,s.2.2.1,s.2.2.2.1,s.2.2.2.2.1,s.2.2.2.2.2.1,())).bind fun r4=>some (r4.1,r4.2.1,r4.2.2.1,r4.2.2.2.1,r4.2.2.2.2.1,r4.2.2.2.2.2.1,(bs ([]:List UInt8)),()) else (RQ (s.1,s.2.1,s.2.2.1,s.2.2.2.1,s.2.2.2.2.1,s.2.2.2.2.2.1,r0)).bind fun r5=>some (s.1,s.2.1,s.2.2.1,s.2.2.2.1,s.2.2.2.2.1,s.2.2.2.2.2.1,r5)) else none)) else none)
def TQ (s:(ByteArray×Int×IN)):Option ((ByteArray×Int×ByteArray×Int×List Lk×List Bool×List Int×List (List Ls)×List Pk×List ByteArray×Y0)⊕Unit):=(bif Ca s.2.1 (List.length s.2.2.2.2.2.2.2.2.1) then (SQ (s.2.2.1,s.2.2.2.1,s.2.2.2.2.1,s.2.2.2.2.2.1,s.2.2.2.2.2.2.1,s.2.2.2.2.2.2.2.1,Aa .str s.2.2.2.2.2.2.2.2.1 (Int.toNat s.2.1),())).bind fun r0=>some (Sum.inl (s.1,s.2.1,r0.2.2.2.2.2.2.1,s.2.2.1,s.2.2.2.1,s.2.2.2.2.1,s.2.2.2.2.2.1,s.2.2.2.2.2.2.1,s.2.2.2.2.2.2.2.1,s.2.2.2.2.2.2.2.2.1,r0.1,r0.2.1,r0.2.2.1,r0.2.2.2.1,r0.2.2.2.2.1,r0.2.2.2.2.2.1,())) else none)
def MA (s:(ByteArray×Int×IN)):Option ((ByteArray×Int×IN)⊕((ByteArray×Y0)⊕Unit)):=(bif decide (wrap64 (s.2.1+1)<nI (List.length s.2.2.2.2.2.2.2.2.1)) then (TQ s).bind fun r0=>(match r0 with| .inl x1=>(bif decide ((ByteArray.size x1.1+ByteArray.size x1.2.2.1)≤(9223372036854775807:Nat)) then some (Sum.inl (Da x1.1 x1.2.2.1,wrap64 (x1.2.1+1),x1.2.2.2.2.2.2.2.2.2.2.1,x1.2.2.2.2.2.2.2.2.2.2.2.1,x1.2.2.2.2.2.2.2.2.2.2.2.2.1,x1.2.2.2.2.2.2.2.2.2.2.2.2.2.1,x1.2.2.2.2.2.2.2.2.2.2.2.2.2.2.1,x1.2.2.2.2.2.2.2.2.2.2.2.2.2.2.2.1,x1.2.2.2.2.2.2.2.2.2.1,())) else none)| .inr _=>none) else some (Sum.inr (Sum.inl (s.1,s.2.2.1,s.2.2.2.1,s.2.2.2.2.1,s.2.2.2.2.2.1,s.2.2.2.2.2.2.1,s.2.2.2.2.2.2.2.1,()))))
def Dm (s:Be):Option Be:=(bif decide (600<nI (ByteArray.size s.1)) then some ((bs [116,111,111,32,108,111,110,103,10]),()) else (Ew ()).bind fun r0=>(XO r0).bind fun r1=>(VI (s.1,10,())).bind fun r2=>(lp MA Ea ((bs ([]:List UInt8)),0,r1.1,r1.2.2.1,r1.2.2.2.1,r1.2.2.2.2.1,r1.2.2.2.2.2.1,r1.2.2.2.2.2.2.1,r2)).bind fun r3=>(match r3 with| .inl x4=>(QQ x4.2).bind fun r5=>(bif decide ((ByteArray.size x4.1+ByteArray.size r5.1)≤(9223372036854775807:Nat)) then some (Da x4.1 r5.1,()) else none)| .inr _=>none))
def BJ (s:(ByteArray×List Int×Int×Y3)):Option ((ByteArray×List Int×Int×Y3)⊕(Be⊕Unit)):=(bif decide (s.2.2.2.1<s.2.2.1) then (bif Ca s.2.2.2.1 (List.length s.2.1) then (Er (Aa .int s.2.1 (Int.toNat s.2.2.2.1),())).bind fun r0=>(bif decide ((ByteArray.size (bs [32])+ByteArray.size r0.1)≤(9223372036854775807:Nat)) then (bif decide ((ByteArray.size s.1+ByteArray.size (Da (bs [32]) r0.1))≤(9223372036854775807:Nat)) then some (Sum.inl (Da s.1 (Da (bs [32]) r0.1),s.2.1,s.2.2.1,wrap64 (s.2.2.2.1+1),())) else none) else none) else none) else some (Sum.inr (Sum.inl (s.1,()))))
def Rp (s:(ByteArray×Y2)):Option Be:=(lp BJ Ea (s.1,s.2.1,nI (List.length s.2.1),0,())).bind fun r0=>(match r0 with| .inl x1=>(bif decide ((ByteArray.size x1.1+ByteArray.size (bs [10]))≤(9223372036854775807:Nat)) then some (Da x1.1 (bs [10]),()) else none)| .inr _=>none)
def NA (s:(ByteArray×Int×Int×Int×List Lk×List Bool×List Int×List (List Ls)×List Lb×List Pk×Unit)):Option ((ByteArray×Int×Int×Int×List Lk×List Bool×List Int×List (List Ls)×List Lb×List Pk×Unit)⊕((ByteArray×Y0)⊕Unit)):=(bif decide (s.2.2.1<s.2.1) then (bif Ca s.2.2.1 (List.length s.2.2.2.2.2.2.2.2.1) then (bif decide ((Aa .lb s.2.2.2.2.2.2.2.2.1 (Int.toNat s.2.2.1)).k=(1:Int)) then (Er ((Aa .lb s.2.2.2.2.2.2.2.2.1 (Int.toNat s.2.2.1)).a,())).bind fun r0=>(bif decide ((ByteArray.size (bs [32,110])+ByteArray.size r0.1)≤(9223372036854775807:Nat)) then (bif decide ((ByteArray.size s.1+ByteArray.size (Da (bs [32,110]) r0.1))≤(9223372036854775807:Nat)) then some (Sum.inl (Da s.1 (Da (bs [32,110]) r0.1),s.2.1,wrap64 (s.2.2.1+1),s.2.2.2)) else none) else none) else (Er ((Aa .lb s.2.2.2.2.2.2.2.2.1 (Int.toNat s.2.2.1)).a,())).bind fun r1=>(bif decide ((ByteArray.size (bs [32,108])+ByteArray.size r1.1)≤(9223372036854775807:Nat)) then (bif decide ((ByteArray.size s.1+ByteArray.size (Da (bs [32,108]) r1.1))≤(9223372036854775807:Nat)) then some (Sum.inl (Da s.1 (Da (bs [32,108]) r1.1),s.2.1,wrap64 (s.2.2.1+1),s.2.2.2)) else none) else none)) else none) else some (Sum.inr (Sum.inl (s.1,s.2.2.2.1,s.2.2.2.2.1,s.2.2.2.2.2.1,s.2.2.2.2.2.2.1,s.2.2.2.2.2.2.2.1,s.2.2.2.2.2.2.2.2.2))))
def UQ (s:(ByteArray×Int×Int×Int×Int×List Lk×List Bool×List Int×List (List Ls)×Int×Int×Int×List En×List Pk×Unit)):Option ((ByteArray×Int×Int×Y0)⊕Unit):=(Er (s.2.1,())).bind fun r0=>(Rp (r0.1,[s.2.2.2.2.2.2.2.2.2.1,s.2.2.2.2.2.2.2.2.2.2.1,s.2.2.2.2.2.2.2.2.2.2.2.1],())).bind fun r1=>(bif decide ((ByteArray.size s.1+ByteArray.size r1.1)≤(9223372036854775807:Nat)) then some (Sum.inl (Da s.1 r1.1,s.2.2.1,s.2.2.2.1,s.2.2.2.2.1,s.2.2.2.2.2.1,s.2.2.2.2.2.2.1,s.2.2.2.2.2.2.2.1,s.2.2.2.2.2.2.2.2.1,s.2.2.2.2.2.2.2.2.2.2.2.2.2)) else none)
def OA (s:(ByteArray×Int×Int×Y0)):Option ((ByteArray×Int×Int×Y0)⊕((ByteArray×Y0)⊕Unit)):=(bif decide (s.2.2.1<s.2.1) then (bif Ca s.2.2.1 (List.length s.2.2.2.2.2.2.2.2.1) then (UQ (s.1,s.2.2.1,s.2.1,s.2.2.1,s.2.2.2.1,s.2.2.2.2.1,s.2.2.2.2.2.1,s.2.2.2.2.2.2.1,s.2.2.2.2.2.2.2.1,(Aa .pk s.2.2.2.2.2.2.2.2.1 (Int.toNat s.2.2.1)).t,((Aa .pk s.2.2.2.2.2.2.2.2.1 (Int.toNat s.2.2.1)).p).o,((Aa .pk s.2.2.2.2.2.2.2.2.1 (Int.toNat s.2.2.1)).p).s,((Aa .pk s.2.2.2.2.2.2.2.2.1 (Int.toNat s.2.2.1)).p).e,s.2.2.2.2.2.2.2.2)).bind fun r0=>(match r0 with| .inl x1=>some (Sum.inl (x1.1,x1.2.1,wrap64 (x1.2.2.1+1),x1.2.2.2))| .inr _=>none) else none) else some (Sum.inr (Sum.inl (s.1,s.2.2.2))))
def VQ (s:(ByteArray×Y0)):Option (ByteArray×Y0):=(PD (s.1,(bs [32]),())).bind fun r0=>(bif decide ((List.length r0.1+List.length [(bs ([]:List UInt8)),(bs ([]:List UInt8)),(bs ([]:List UInt8))])≤(33554432:Nat)) then (bif Ca (1) (List.length (r0.1++[(bs ([]:List UInt8)),(bs ([]:List UInt8)),(bs ([]:List UInt8))])) then (bif Ca (2) (List.length (r0.1++[(bs ([]:List UInt8)),(bs ([]:List UInt8)),(bs ([]:List UInt8))])) then (bif Ca (3) (List.length (r0.1++[(bs ([]:List UInt8)),(bs ([]:List UInt8)),(bs ([]:List UInt8))])) then (HA (Aa .str (r0.1++[(bs ([]:List UInt8)),(bs ([]:List UInt8)),(bs ([]:List UInt8))]) (Int.toNat (1)),())).bind fun r1=>(HA (Aa .str (r0.1++[(bs ([]:List UInt8)),(bs ([]:List UInt8)),(bs ([]:List UInt8))]) (Int.toNat (2)),())).bind fun r2=>(HA (Aa .str (r0.1++[(bs ([]:List UInt8)),(bs ([]:List UInt8)),(bs ([]:List UInt8))]) (Int.toNat (3)),())).bind fun r3=>(bif Ca (0) (List.length (r0.1++[(bs ([]:List UInt8)),(bs ([]:List UInt8)),(bs ([]:List UInt8))])) then (MQ (Aa .str (r0.1++[(bs ([]:List UInt8)),(bs ([]:List UInt8)),(bs ([]:List UInt8))]) (Int.toNat (0)),())).bind fun r4=>(bif decide (0<r4.1) then (HI (r4.1,r1.1,s.2)).bind fun r5=>some ((bs ([]:List UInt8)),r5) else (bif Ca (0) (List.length (r0.1++[(bs ([]:List UInt8)),(bs ([]:List UInt8)),(bs ([]:List UInt8))])) then (bif Dc (Aa .str (r0.1++[(bs ([]:List UInt8)),(bs ([]:List UInt8)),(bs ([]:List UInt8))]) (Int.toNat (0))) (bs [99,97,108,109]) then (LQ s.2).bind fun r6=>some ((bs ([]:List UInt8)),r6) else (bif Dc (Aa .str (r0.1++[(bs ([]:List UInt8)),(bs ([]:List UInt8)),(bs ([]:List UInt8))]) (Int.toNat (0))) (bs [112,97,116,104]) then (RI (s.2.1,s.2.2.1,s.2.2.2.1,s.2.2.2.2.1,s.2.2.2.2.2.1,s.2.2.2.2.2.2.1,r1)).bind fun r7=>(Ns (r7.1,r7.2.1,r1.1,r2)).bind fun r8=>(Rp ((bs [112,97,116,104]),r8)).bind fun r9=>some (r9.1,s.2) else (bif Dc (Aa .str (r0.1++[(bs ([]:List UInt8)),(bs ([]:List UInt8)),(bs ([]:List UInt8))]) (Int.toNat (0))) (bs [115,101,101,110]) then (RI (s.2.1,s.2.2.1,s.2.2.2.1,s.2.2.2.2.1,s.2.2.2.2.2.1,s.2.2.2.2.2.2.1,r1)).bind fun r10=>(TN (r10.1,r10.2.1,r2)).bind fun r11=>(Rp ((bs [115,101,101,110]),r11)).bind fun r12=>some (r12.1,s.2) else (bif Dc (Aa .str (r0.1++[(bs ([]:List UInt8)),(bs ([]:List UInt8)),(bs ([]:List UInt8))]) (Int.toNat (0))) (bs [114,101,112,97,105,114]) then (UP (s.2.1,s.2.2.1,r1.1,r2.1,r3)).bind fun r13=>(bif (!r13.1) then some ((bs [110,111,32,114,101,112,97,105,114,10]),s.2) else (lp NA Ea ((bs [114,101,112,97,105,114]),nI (List.length r13.2.1),0,s.2.1,s.2.2.1,s.2.2.2.1,s.2.2.2.2.1,s.2.2.2.2.2.1,r13.2.1,s.2.2.2.2.2.2)).bind fun r14=>(match r14 with| .inl x15=>(bif decide ((ByteArray.size x15.1+ByteArray.size (bs [10]))≤(9223372036854775807:Nat)) then some (Da x15.1 (bs [10]),x15.2) else none)| .inr _=>none)) else (bif Dc (Aa .str (r0.1++[(bs ([]:List UInt8)),(bs ([]:List UInt8)),(bs ([]:List UInt8))]) (Int.toNat (0))) (bs [111,114,100,101,114]) then (Tn (s.2.1,s.2.2.1,r1.1,r2)).bind fun r16=>(Rp ((bs [111,114,100,101,114]),r16)).bind fun r17=>some (r17.1,s.2) else (bif Dc (Aa .str (r0.1++[(bs ([]:List UInt8)),(bs ([]:List UInt8)),(bs ([]:List UInt8))]) (Int.toNat (0))) (bs [110,101,116]) then (lp OA Ea ((bs ([]:List UInt8)),nI (List.length s.2.2.2.2.2.2.1),0,s.2)).bind fun r18=>(match r18 with| .inl x19=>some x19| .inr _=>none) else some ((bs [119,104,97,116,10]),s.2))))))) else none)) else none) else none) else none) else none) else none)
def PA (s:(ByteArray×List ByteArray×Int×Int×Y0)):Option ((ByteArray×List ByteArray×Int×Int×Y0)⊕((ByteArray×Y0)⊕Unit)):=(bif decide (s.2.2.2.1<s.2.2.1) then (bif Ca s.2.2.2.1 (List.length s.2.1) then (VQ (Aa .str s.2.1 (Int.toNat s.2.2.2.1),s.2.2.2.2)).bind fun r0=>(bif decide ((ByteArray.size s.1+ByteArray.size r0.1)≤(9223372036854775807:Nat)) then some (Sum.inl (Da s.1 r0.1,s.2.1,s.2.2.1,wrap64 (s.2.2.2.1+1),r0.2)) else none) else none) else some (Sum.inr (Sum.inl (s.1,s.2.2.2.2))))
def QA (s:(ByteArray×Int×Int×List Ls×Int×Int×List Int×List (List Ls)×Unit)):Option ((ByteArray×Int×Int×List Ls×Int×Int×List Int×List (List Ls)×Unit)⊕((ByteArray×Int×Int×List Int×List (List Ls)×Unit)⊕Unit)):=(bif decide (s.2.2.2.2.2.1<s.2.2.2.2.1) then (bif Ca s.2.2.2.2.2.1 (List.length s.2.2.2.1) then (bif decide ((List.length s.2.2.2.2.2.2.1+List.length [(Aa .ls s.2.2.2.1 (Int.toNat s.2.2.2.2.2.1)).s])≤(33554432:Nat)) then some (Sum.inl (s.1,s.2.1,s.2.2.1,s.2.2.2.1,s.2.2.2.2.1,wrap64 (s.2.2.2.2.2.1+1),(s.2.2.2.2.2.2.1++[(Aa .ls s.2.2.2.1 (Int.toNat s.2.2.2.2.2.1)).s]),s.2.2.2.2.2.2.2)) else none) else none) else some (Sum.inr (Sum.inl (s.1,s.2.1,s.2.2.1,s.2.2.2.2.2.2))))
def RA (s:(ByteArray×Int×Int×List (List Ls)×Unit)):Option ((ByteArray×Int×Int×List (List Ls)×Unit)⊕(Be⊕Unit)):=(bif decide (s.2.2.1<s.2.1) then (bif Ca s.2.2.1 (List.length s.2.2.2.1) then (lp QA Ea (s.1,s.2.1,s.2.2.1,Aa .db s.2.2.2.1 (Int.toNat s.2.2.1),nI (List.length (Aa .db s.2.2.2.1 (Int.toNat s.2.2.1))),0,[s.2.2.1],s.2.2.2)).bind fun r0=>(match r0 with| .inl x1=>(Rp ((bs [110,111,100,101]),x1.2.2.2.1,())).bind fun r2=>(bif decide ((ByteArray.size x1.1+ByteArray.size r2.1)≤(9223372036854775807:Nat)) then some (Sum.inl (Da x1.1 r2.1,x1.2.1,wrap64 (x1.2.2.1+1),x1.2.2.2.2)) else none)| .inr _=>none) else none) else some (Sum.inr (Sum.inl (s.1,()))))
def Ef (s:Be):Option Be:=(bif decide (600<nI (ByteArray.size s.1)) then some ((bs [116,111,111,32,108,111,110,103,10]),()) else (Z2 ()).bind fun r0=>(AP r0).bind fun r1=>(PD (s.1,(bs [10]),())).bind fun r2=>(bif Gg (0) (wrap64 (nI (List.length r2.1)-1)) (List.length r2.1) then (lp PA Ea ((bs ([]:List UInt8)),List.take (Int.toNat (wrap64 (nI (List.length r2.1)-1))-Int.toNat (0)) (List.drop (Int.toNat (0)) r2.1),nI (List.length (List.take (Int.toNat (wrap64 (nI (List.length r2.1)-1))-Int.toNat (0)) (List.drop (Int.toNat (0)) r2.1))),0,r1.1,r1.2.2)).bind fun r3=>(match r3 with| .inl x4=>(lp RA Ea (x4.1,nI (List.length x4.2.2.2.2.2.1),0,x4.2.2.2.2.2.1,())).bind fun r5=>(match r5 with| .inl x6=>some x6| .inr _=>none)| .inr _=>none) else none))
def C3 (s:Be):Option Y7:=(bif decide (1048576<nI (ByteArray.size s.1)) then some (true,()) else (Dm s).bind fun r0=>(Ef s).bind fun r1=>(bif (!(Dc r1.1 r0.1)) then some (false,()) else some (true,())))
end
section
open Go.RowKit
def D3:Oa:=⟨⟨[],[]⟩,[],⟨[.c (.agg [zi,(.own 0)])],[.row 60 .lk]⟩,[.int,.ls .lk],Z2⟩
def E3:Ma:=Sa tab [] 9 0 [] []
theorem zQ2:Pa Tryz.prog E3.Γ:=Ra (l:=[]) trivial
theorem zMq:GC Tryz.prog 25 D3:=Ua (G:=E3) (c:=Tryz.f25.body.getD .skip) Ga Ha zQ2 mixed Tryz.func25 (by kernel_rfl) Tryz.ntmps25 (Ja (G:=E3) (n:=0) (by kernel_rfl) (by kernel_rfl) trivial (by kernel_rfl)) (fun s=>by kernel_rfl)
def F3:Oa:=⟨⟨[.c (.one (.b .str))],[]⟩,[.str],⟨[zc],[]⟩,[.int],MQ⟩
def G3:Ma:=Sa tab [] 16 0 [] []
theorem zQ1:Pa Tryz.prog G3.Γ:=Ra (l:=[]) trivial
theorem zMp:GC Tryz.prog 51 F3:=Ua (G:=G3) (c:=Tryz.f51.body.getD .skip) Ga Ha zQ1 mixed Tryz.func51 (by kernel_rfl) Tryz.ntmps51 (Ja (G:=G3) (n:=0) (by kernel_rfl) (by kernel_rfl) trivial (by kernel_rfl)) (fun s=>by kernel_rfl)
def Fw:Xa:=⟨⟨[0,3,10,11],⟨[.c (.one (.b .str)),zc,zc,zc],[]⟩,[.str,.int,.int,.int]⟩,0,⟨[3],⟨[zc],[]⟩,[.int]⟩,⟨[2],⟨[zc],[]⟩,[.int]⟩,lp QI Ea⟩
def I3:Oa:=⟨⟨[.c (.one (.b .str))],[]⟩,[.str],⟨[zc],[]⟩,[.int],HA⟩
def CJ:Ma:=Sa tab [(77,[],Sg)] 34 0 [] [(5,Fw)]
theorem gK:Pa Tryz.prog CJ.Γ:=Ra (l:=[(77,[],Sg)]) ⟨⟨Kp,Tryz.call77⟩,trivial⟩
theorem zKv:Cb Tryz.prog 0 34 (Va (Tryz.f50.body.getD .skip) 0) Fw:=Fb (G:=CJ) (F:=Fw.F) (eid:=Fw.eid) (FX:=Fw.FX) (FR:=Fw.FR) (B:=QI) (n:=Ea) Ga Ha gK mixed (Ja (G:=CJ) (n:=0) (by kernel_rfl) (by kernel_rfl) trivial (by kernel_rfl)) (fun s=>by kernel_rfl)
theorem zMs:GC Tryz.prog 50 I3:=Ua (G:=CJ) (c:=Tryz.f50.body.getD .skip) Ga Ha gK mixed Tryz.func50 (by kernel_rfl) Tryz.ntmps50 (Ja (G:=CJ) (n:=1) (by kernel_rfl) (by kernel_rfl) ⟨trivial,Gb (id:=5) (L0:=Fw) (by kernel_rfl) (by kernel_rfl) zKv⟩ (by kernel_rfl)) (fun s=>by kernel_rfl)
def J3:Oa:=⟨⟨[.c (.agg [zi,(.b (.sl false .lk)),(.b (.sl false .bool)),(.b (.sl false .int)),(.b (.sl false .db)),(.b (.sl false .pk))]),zc],[]⟩,[.int,.ls .lk,.ls .bool,.ls .int,.ls .db,.ls .pk,.int],⟨[.c (.agg [zi,(.own 0)])],[.row 60 .lk]⟩,[.int,.ls .lk],RI⟩
def K3:Ma:=Sa tab [(77,[],Sg),(93,[],GZ)] 16 0 [] []
theorem zQR:Pa Tryz.prog K3.Γ:=Ra (l:=[(77,[],Sg),(93,[],GZ)]) ⟨⟨Kp,Tryz.call77⟩,⟨⟨xN,Tryz.call93⟩,trivial⟩⟩
theorem zMf:GC Tryz.prog 55 J3:=Ua (G:=K3) (c:=Tryz.f55.body.getD .skip) Ga Ha zQR mixed Tryz.func55 (by kernel_rfl) Tryz.ntmps55 (Ja (G:=K3) (n:=0) (by kernel_rfl) (by kernel_rfl) trivial (by kernel_rfl)) (fun s=>by kernel_rfl)
def SA (F:(Int×Unit)→Option (ByteArray×Unit)):Xa:=⟨⟨[0],⟨[zc],[]⟩,[.int]⟩,0,⟨[2],⟨[.c (.one (.b .str))],[]⟩,[.str]⟩,zx,(SI F)⟩
def Sp (F:(Int×Unit)→Option (ByteArray×Unit)):Oa:=⟨⟨[zc],[]⟩,[.int],⟨[.c (.one (.b .str))],[]⟩,[.str],F⟩
def Zn:Oa:=Sp Tk
def TA (F:(Int×Unit)→Option (ByteArray×Unit)):Ma:=Sa tab [(42,[],(Sp F))] 28 0 [] [(7,(SA F))]
theorem gL (F:(Int×Unit)→Option (ByteArray×Unit)) (hF:GC Tryz.prog 42 (Sp F)):Pa Tryz.prog (TA F).Γ:=Ra (l:=[(42,[],(Sp F))]) ⟨⟨hF,Tryz.call42⟩,trivial⟩
theorem zLz (F:(Int×Unit)→Option (ByteArray×Unit)) (hF:GC Tryz.prog 42 (Sp F)):Ae Tryz.prog 0 28 (Fc (TA F).plan (Tryz.f42.body.getD .skip) 0).1 (Fc (TA F).plan (Tryz.f42.body.getD .skip) 0).2 (SA F):=Cp (G:=TA F) (n:=9) (ks:=[]) (t:=(.val 0 (.val 1 (.val 3 (.val 4 (.val 5 (.val 6 (.two 2 (.one 7 (.one 8 .done)) 7 (.two 2 (.one 8 .done) 8 (.one 2 .done)))))))))) (F:=(SA F).F) (eid:=0) (FX:=(SA F).FX) (FR:=(SA F).FR) (sh:=(SI F)) Ga Ha (gL F hF) mixed (by kernel_rfl) (by kernel_rfl) ⟨fun s=>by kernel_rfl,fun s=>by kernel_rfl,fun s=>by kernel_rfl,trivial⟩
theorem zNL (F:(Int×Unit)→Option (ByteArray×Unit)) (hF:GC Tryz.prog 42 (Sp F)):GC Tryz.prog 42 (Sp (IA F)):=Ua (G:=TA F) (c:=Tryz.f42.body.getD .skip) Ga Ha (gL F hF) mixed Tryz.func42 (by kernel_rfl) Tryz.ntmps42 (Bh (G:=TA F) (n:=0) (m:=1) (by kernel_rfl) (by kernel_rfl) trivial (by kernel_rfl) ⟨trivial,Bg (L0:=(SA F)) (by kernel_rfl) (zLz F hF)⟩) (fun s=>by kernel_rfl)
theorem gM:∀k,GC Tryz.prog 42 (Sp (Qp k))
  |0=>fun s r h=>by have h:(none:Option (ByteArray×Unit))=some r:=h;cases h
  |k+1=>zNL _ (gM k)
theorem WQ:GC Tryz.prog 42 Zn:=gM 25
def Gw:Xa:=⟨⟨[0,1,5,6,7],⟨[.c (.one (.b .str)),.c (.one (.b (.int .u8))),.c (.one (.own 0)),zc,zc],[.row 9 .str]⟩,[.str,.int,.int,.int,.ls .str]⟩,0,⟨[0,5,6],⟨[.c (.one (.b .str)),.c (.one (.own 0)),zc],[.row 9 .str]⟩,[.str,.int,.ls .str]⟩,zx,lp UI Ea⟩
def DJ:Oa:=⟨⟨[.c (.one (.b .str)),.c (.one (.b (.int .u8)))],[]⟩,[.str,.int],⟨[.c (.one (.own 0))],[.row 9 .str]⟩,[.ls .str],VI⟩
def EJ:Ma:=Sa tab [] 35 0 [] [(4,Gw)]
theorem gN:Pa Tryz.prog EJ.Γ:=Ra (l:=[]) trivial
theorem zLr:Cb Tryz.prog 0 35 (Va (Tryz.f21.body.getD .skip) 0) Gw:=Fb (G:=EJ) (F:=Gw.F) (eid:=Gw.eid) (FX:=Gw.FX) (FR:=Gw.FR) (B:=UI) (n:=Ea) Ga Ha gN mixed (Ja (G:=EJ) (n:=0) (by kernel_rfl) (by kernel_rfl) trivial (by kernel_rfl)) (fun s=>by kernel_rfl)
theorem gO:GC Tryz.prog 21 DJ:=Ua (G:=EJ) (c:=Tryz.f21.body.getD .skip) Ga Ha gN mixed Tryz.func21 (by kernel_rfl) Tryz.ntmps21 (Ja (G:=EJ) (n:=1) (by kernel_rfl) (by kernel_rfl) ⟨trivial,Gb (id:=4) (L0:=Gw) (by kernel_rfl) (by kernel_rfl) zLr⟩ (by kernel_rfl)) (fun s=>by kernel_rfl)
def Hw:Xa:=⟨⟨[0,1,5,6],⟨[.c (.one (.b (.sl false .str))),zc,zc,zc],[]⟩,[.ls .str,.int,.int,.int]⟩,0,⟨[5],⟨[zc],[]⟩,[.int]⟩,⟨[4],⟨[zc],[]⟩,[.int]⟩,lp WI Ea⟩
def FJ:Oa:=⟨⟨[.c (.one (.b (.sl false .str))),zc],[]⟩,[.ls .str,.int],⟨[zc],[]⟩,[.int],Dw⟩
def GJ:Ma:=Sa tab [(61,[],Dg)] 57 0 [] [(5,Hw)]
theorem gP:Pa Tryz.prog GJ.Γ:=Ra (l:=[(61,[],Dg)]) ⟨⟨Ln,Tryz.call61⟩,trivial⟩
theorem zLv:Cb Tryz.prog 0 57 (Va (Tryz.f38.body.getD .skip) 0) Hw:=Fb (G:=GJ) (F:=Hw.F) (eid:=Hw.eid) (FX:=Hw.FX) (FR:=Hw.FR) (B:=WI) (n:=Ea) Ga Ha gP mixed (Ja (G:=GJ) (n:=0) (by kernel_rfl) (by kernel_rfl) trivial (by kernel_rfl)) (fun s=>by kernel_rfl)
theorem gQ:GC Tryz.prog 38 FJ:=Ua (G:=GJ) (c:=Tryz.f38.body.getD .skip) Ga Ha gP mixed Tryz.func38 (by kernel_rfl) Tryz.ntmps38 (Ja (G:=GJ) (n:=1) (by kernel_rfl) (by kernel_rfl) ⟨trivial,Gb (id:=5) (L0:=Hw) (by kernel_rfl) (by kernel_rfl) zLv⟩ (by kernel_rfl)) (fun s=>by kernel_rfl)
def Iw:Xa:=⟨⟨[0,3,4],⟨[.c (.one (.b .str)),.c (.one (.own 0)),zc],[.row 9 .str]⟩,[.str,.int,.ls .str]⟩,0,⟨[],⟨[],[]⟩,[]⟩,⟨[2],⟨[zc],[]⟩,[.int]⟩,lp JA Ea⟩
def L3:Oa:=⟨⟨[.c (.one (.b .str))],[]⟩,[.str],⟨[zc],[]⟩,[.int],NQ⟩
def HJ:Ma:=Sa tab [] 19 0 [] [(3,Iw)]
theorem gR:Pa Tryz.prog HJ.Γ:=Ra (l:=[]) trivial
theorem zLs:Cb Tryz.prog 0 19 (Va (Tryz.f37.body.getD .skip) 0) Iw:=Fb (G:=HJ) (F:=Iw.F) (eid:=Iw.eid) (FX:=Iw.FX) (FR:=Iw.FR) (B:=JA) (n:=Ea) Ga Ha gR mixed (Ja (G:=HJ) (n:=0) (by kernel_rfl) (by kernel_rfl) trivial (by kernel_rfl)) (fun s=>by kernel_rfl)
theorem zNC:GC Tryz.prog 37 L3:=Ua (G:=HJ) (c:=Tryz.f37.body.getD .skip) Ga Ha gR mixed Tryz.func37 (by kernel_rfl) Tryz.ntmps37 (Ja (G:=HJ) (n:=1) (by kernel_rfl) (by kernel_rfl) ⟨trivial,Gb (id:=3) (L0:=Iw) (by kernel_rfl) (by kernel_rfl) zLs⟩ (by kernel_rfl)) (fun s=>by kernel_rfl)
def IJ:Oa:=⟨⟨[],[]⟩,[],⟨[.c (.agg [zi,(.own 0)])],[.row 60 .lk]⟩,[.int,.ls .lk],Ew⟩
def M3:Ma:=Sa tab [] 9 0 [] []
theorem zR7:Pa Tryz.prog M3.Γ:=Ra (l:=[]) trivial
theorem gS:GC Tryz.prog 20 IJ:=Ua (G:=M3) (c:=Tryz.f20.body.getD .skip) Ga Ha zR7 mixed Tryz.func20 (by kernel_rfl) Tryz.ntmps20 (Ja (G:=M3) (n:=0) (by kernel_rfl) (by kernel_rfl) trivial (by kernel_rfl)) (fun s=>by kernel_rfl)
def Jw:Xa:=⟨⟨[0,3,4],⟨[.c (.one (.b (.sl false .int))),.c (.one (.b .str)),zc],[]⟩,[.ls .int,.str,.int]⟩,0,⟨[3],⟨[.c (.one (.b .str))],[]⟩,[.str]⟩,zx,lp XI Ea⟩
def N3:Oa:=⟨⟨[.c (.one (.b (.sl false .int)))],[]⟩,[.ls .int],⟨[.c (.one (.b .str))],[]⟩,[.str],KA⟩
def JJ:Ma:=Sa tab [(42,[],Zn)] 20 0 [] [(3,Jw)]
theorem gT:Pa Tryz.prog JJ.Γ:=Ra (l:=[(42,[],Zn)]) ⟨⟨WQ,Tryz.call42⟩,trivial⟩
theorem zLt:Cb Tryz.prog 0 20 (Va (Tryz.f69.body.getD .skip) 0) Jw:=Fb (G:=JJ) (F:=Jw.F) (eid:=Jw.eid) (FX:=Jw.FX) (FR:=Jw.FR) (B:=XI) (n:=Ea) Ga Ha gT mixed (Ja (G:=JJ) (n:=0) (by kernel_rfl) (by kernel_rfl) trivial (by kernel_rfl)) (fun s=>by kernel_rfl)
theorem zNE:GC Tryz.prog 69 N3:=Ua (G:=JJ) (c:=Tryz.f69.body.getD .skip) Ga Ha gT mixed Tryz.func69 (by kernel_rfl) Tryz.ntmps69 (Ja (G:=JJ) (n:=1) (by kernel_rfl) (by kernel_rfl) ⟨trivial,Gb (id:=3) (L0:=Jw) (by kernel_rfl) (by kernel_rfl) zLt⟩ (by kernel_rfl)) (fun s=>by kernel_rfl)
def Kw:Xa:=⟨⟨[0,3,4],⟨[.c (.one (.b (.sl false .lb))),.c (.one (.b .str)),zc],[]⟩,[.ls .lb,.str,.int]⟩,0,⟨[3],⟨[.c (.one (.b .str))],[]⟩,[.str]⟩,zx,lp YI Ea⟩
def O3:Oa:=⟨⟨[.c (.one (.b (.sl false .lb)))],[]⟩,[.ls .lb],⟨[.c (.one (.b .str))],[]⟩,[.str],OQ⟩
def KJ:Ma:=Sa tab [(42,[],Zn)] 36 0 [] [(3,Kw)]
theorem gU:Pa Tryz.prog KJ.Γ:=Ra (l:=[(42,[],Zn)]) ⟨⟨WQ,Tryz.call42⟩,trivial⟩
theorem zLw:Cb Tryz.prog 0 36 (Va (Tryz.f74.body.getD .skip) 0) Kw:=Fb (G:=KJ) (F:=Kw.F) (eid:=Kw.eid) (FX:=Kw.FX) (FR:=Kw.FR) (B:=YI) (n:=Ea) Ga Ha gU mixed (Ja (G:=KJ) (n:=0) (by kernel_rfl) (by kernel_rfl) trivial (by kernel_rfl)) (fun s=>by kernel_rfl)
theorem zNH:GC Tryz.prog 74 O3:=Ua (G:=KJ) (c:=Tryz.f74.body.getD .skip) Ga Ha gU mixed Tryz.func74 (by kernel_rfl) Tryz.ntmps74 (Ja (G:=KJ) (n:=1) (by kernel_rfl) (by kernel_rfl) ⟨trivial,Gb (id:=3) (L0:=Kw) (by kernel_rfl) (by kernel_rfl) zLw⟩ (by kernel_rfl)) (fun s=>by kernel_rfl)
def Lw:Xa:=⟨⟨[1,3,4],⟨[.c (.one (.ptr 0 0)),.c (.one (.b .str)),zc],[.box 35 [zi,(.b (.sl false .lk)),(.b (.sl false .bool)),(.b (.sl false .int)),(.b (.sl false .db)),(.b (.sl false .pk))]]⟩,[.str,.int,.int,.ls .lk,.ls .bool,.ls .int,.ls .db,.ls .pk]⟩,0,⟨[3],⟨[.c (.one (.b .str))],[]⟩,[.str]⟩,zx,lp ZI Ea⟩
def P3:Oa:=⟨⟨[.c (.agg [zi,(.b (.sl false .lk)),(.b (.sl false .bool)),(.b (.sl false .int)),(.b (.sl false .db)),(.b (.sl false .pk))])],[]⟩,[.int,.ls .lk,.ls .bool,.ls .int,.ls .db,.ls .pk],⟨[.c (.one (.b .str))],[]⟩,[.str],PQ⟩
def LJ:Ma:=Sa tab [(42,[],Zn)] 47 0 [(5,32,[(0,true),(1,true),(5,true),(6,true),(7,true),(8,true),(9,true),(10,true),(14,true),(15,true),(16,true),(17,true),(18,true),(19,true),(20,true),(24,true),(25,true),(26,true),(27,true),(28,true),(29,true),(30,true),(2,false),(3,true),(4,true),(11,false),(12,true),(13,true),(21,false),(22,true),(23,true),(31,false)],[])] [(3,Lw)]
theorem gV:Pa Tryz.prog LJ.Γ:=Ra (l:=[(42,[],Zn)]) ⟨⟨WQ,Tryz.call42⟩,trivial⟩
theorem zLu:Cb Tryz.prog 0 47 (Va (Tryz.f76.body.getD .skip) 0) Lw:=Fb (G:=LJ) (F:=Lw.F) (eid:=Lw.eid) (FX:=Lw.FX) (FR:=Lw.FR) (B:=ZI) (n:=Ea) Ga Ha gV mixed (Ja (G:=LJ) (n:=0) (by kernel_rfl) (by kernel_rfl) trivial (by kernel_rfl)) (fun s=>by kernel_rfl)
theorem zNF:GC Tryz.prog 76 P3:=Ua (G:=LJ) (c:=Tryz.f76.body.getD .skip) Ga Ha gV mixed Tryz.func76 (by kernel_rfl) Tryz.ntmps76 (Ja (G:=LJ) (n:=1) (by kernel_rfl) (by kernel_rfl) ⟨trivial,Gb (id:=3) (L0:=Lw) (by kernel_rfl) (by kernel_rfl) zLu⟩ (by kernel_rfl)) (fun s=>by kernel_rfl)
def Mw:Xa:=⟨⟨[1,3,4,5],⟨[.c (.one (.ptr 0 0)),.c (.one (.b .str)),zc,zc],[.box 35 [zi,(.b (.sl false .lk)),(.b (.sl false .bool)),(.b (.sl false .int)),(.b (.sl false .db)),(.b (.sl false .pk))]]⟩,[.str,.int,.int,.int,.ls .lk,.ls .bool,.ls .int,.ls .db,.ls .pk]⟩,2,⟨[1,3,4],⟨[.c (.one (.ptr 0 0)),.c (.one (.b .str)),zc],[.box 35 [zi,(.b (.sl false .lk)),(.b (.sl false .bool)),(.b (.sl false .int)),(.b (.sl false .db)),(.b (.sl false .pk))]]⟩,[.str,.int,.int,.ls .lk,.ls .bool,.ls .int,.ls .db,.ls .pk]⟩,zx,lp LA Ea⟩
def Nw:Xa:=⟨⟨[1,3,4],⟨[.c (.one (.ptr 0 0)),.c (.one (.b .str)),zc],[.box 35 [zi,(.b (.sl false .lk)),(.b (.sl false .bool)),(.b (.sl false .int)),(.b (.sl false .db)),(.b (.sl false .pk))]]⟩,[.str,.int,.int,.ls .lk,.ls .bool,.ls .int,.ls .db,.ls .pk]⟩,0,⟨[3],⟨[.c (.one (.b .str))],[]⟩,[.str]⟩,zx,lp AJ Ea⟩
def Q3:Oa:=⟨⟨[.c (.agg [zi,(.b (.sl false .lk)),(.b (.sl false .bool)),(.b (.sl false .int)),(.b (.sl false .db)),(.b (.sl false .pk))])],[]⟩,[.int,.ls .lk,.ls .bool,.ls .int,.ls .db,.ls .pk],⟨[.c (.one (.b .str))],[]⟩,[.str],QQ⟩
def Ow:Ma:=Sa tab [(42,[],Zn)] 44 0 [] [(7,Mw),(3,Nw)]
theorem T3:Pa Tryz.prog Ow.Γ:=Ra (l:=[(42,[],Zn)]) ⟨⟨WQ,Tryz.call42⟩,trivial⟩
theorem zLy:Cb Tryz.prog 0 44 (Va (Va (Tryz.f23.body.getD .skip) 0) 0) Mw:=Fb (G:=Ow) (F:=Mw.F) (eid:=Mw.eid) (FX:=Mw.FX) (FR:=Mw.FR) (B:=LA) (n:=Ea) Ga Ha T3 mixed (Ja (G:=Ow) (n:=0) (by kernel_rfl) (by kernel_rfl) trivial (by kernel_rfl)) (fun s=>by kernel_rfl)
theorem zLx:Cb Tryz.prog 0 44 (Va (Tryz.f23.body.getD .skip) 0) Nw:=Fb (G:=Ow) (F:=Nw.F) (eid:=Nw.eid) (FX:=Nw.FX) (FR:=Nw.FR) (B:=AJ) (n:=Ea) Ga Ha T3 mixed (Ja (G:=Ow) (n:=1) (by kernel_rfl) (by kernel_rfl) ⟨trivial,Gb (id:=7) (L0:=Mw) (by kernel_rfl) (by kernel_rfl) zLy⟩ (by kernel_rfl)) (fun s=>by kernel_rfl)
theorem zNI:GC Tryz.prog 23 Q3:=Ua (G:=Ow) (c:=Tryz.f23.body.getD .skip) Ga Ha T3 mixed Tryz.func23 (by kernel_rfl) Tryz.ntmps23 (Ja (G:=Ow) (n:=1) (by kernel_rfl) (by kernel_rfl) ⟨trivial,Gb (id:=3) (L0:=Nw) (by kernel_rfl) (by kernel_rfl) zLx⟩ (by kernel_rfl)) (fun s=>by kernel_rfl)
def U3:Oa:=⟨⟨[.c (.agg [zi,(.b (.sl false .lk)),(.b (.sl false .bool)),(.b (.sl false .int)),(.b (.sl false .db)),(.b (.sl false .pk))]),.c (.one (.b (.sl false .str)))],[]⟩,[.int,.ls .lk,.ls .bool,.ls .int,.ls .db,.ls .pk,.ls .str],⟨[.c (.one (.b .str))],[]⟩,[.str],RQ⟩
def V3:Ma:=Sa tab [(71,[],JZ),(38,[],FJ),(72,[],A1),(20,[],IJ),(69,[],N3),(74,[],O3),(70,[],M1),(75,[],U1),(76,[],P3),(73,[],X1)] 67 0 [] []
theorem zR5:Pa Tryz.prog V3.Γ:=Ra (l:=[(71,[],JZ),(38,[],FJ),(72,[],A1),(20,[],IJ),(69,[],N3),(74,[],O3),(70,[],M1),(75,[],U1),(76,[],P3),(73,[],X1)]) ⟨⟨xV,Tryz.call71⟩,⟨⟨gQ,Tryz.call38⟩,⟨⟨zE,Tryz.call72⟩,⟨⟨gS,Tryz.call20⟩,⟨⟨zNE,Tryz.call69⟩,⟨⟨zNH,Tryz.call74⟩,⟨⟨zR,Tryz.call70⟩,⟨⟨zX,Tryz.call75⟩,⟨⟨zNF,Tryz.call76⟩,⟨⟨zMU,Tryz.call73⟩,trivial⟩⟩⟩⟩⟩⟩⟩⟩⟩⟩
theorem zNz:GC Tryz.prog 41 U3:=Ua (G:=V3) (c:=Tryz.f41.body.getD .skip) Ga Ha zR5 mixed Tryz.func41 (by kernel_rfl) Tryz.ntmps41 (Ja (G:=V3) (n:=0) (by kernel_rfl) (by kernel_rfl) trivial (by kernel_rfl)) (fun s=>by kernel_rfl)
def W3:Oa:=⟨⟨[.c (.agg [zi,(.b (.sl true .lk)),(.b (.sl true .bool)),(.b (.sl true .int)),(.b (.sl true .db)),(.b (.sl true .pk))]),.c (.one (.b .str))],[]⟩,[.int,.ls .lk,.ls .bool,.ls .int,.ls .db,.ls .pk,.str],⟨[.tup [(.agg [zi,(.b (.sl true .lk)),(.b (.sl true .bool)),(.b (.sl true .int)),(.b (.sl true .db)),(.b (.sl true .pk))]),(.one (.b .str))]],[]⟩,[.int,.ls .lk,.ls .bool,.ls .int,.ls .db,.ls .pk,.str],SQ⟩
def X3:Ma:=Sa tab [(40,[],N2),(39,[],P2),(21,[],DJ),(38,[],FJ),(37,[],L3),(41,[],U3)] 33 0 [(7,4,[(0,true),(1,true),(2,true),(3,false)],[])] []
theorem zR9:Pa Tryz.prog X3.Γ:=Ra (l:=[(40,[],N2),(39,[],P2),(21,[],DJ),(38,[],FJ),(37,[],L3),(41,[],U3)]) ⟨⟨zMX,Tryz.call40⟩,⟨⟨zNo,Tryz.call39⟩,⟨⟨gO,Tryz.call21⟩,⟨⟨gQ,Tryz.call38⟩,⟨⟨zNC,Tryz.call37⟩,⟨⟨zNz,Tryz.call41⟩,trivial⟩⟩⟩⟩⟩⟩
theorem zND:GC Tryz.prog 22 W3:=Ua (G:=X3) (c:=Tryz.f22.body.getD .skip) Ga Ha zR9 mixed Tryz.func22 (by kernel_rfl) Tryz.ntmps22 (Ja (G:=X3) (n:=0) (by kernel_rfl) (by kernel_rfl) trivial (by kernel_rfl)) (fun s=>by kernel_rfl)
def UA:Xa:=⟨⟨[3,5,6,7],⟨[.c (.one (.ptr 0 0)),.c (.one (.b .str)),.c (.one (.own 1)),zc],[.box 35 [zi,(.b (.sl true .lk)),(.b (.sl true .bool)),(.b (.sl true .int)),(.b (.sl true .db)),(.b (.sl true .pk))],.row 9 .str]⟩,[.str,.int,.int,.ls .lk,.ls .bool,.ls .int,.ls .db,.ls .pk,.ls .str]⟩,0,⟨[3,5,6,7,8,9],⟨[.c (.one (.ptr 0 0)),.c (.one (.b .str)),.c (.one (.own 1)),zc,.c (.one (.ptr 2 0)),.c (.one (.b .str))],[.box 35 [zi,(.b (.sl true .lk)),(.b (.sl true .bool)),(.b (.sl true .int)),(.b (.sl true .db)),(.b (.sl true .pk))],.row 9 .str,.box 35 [zi,(.b (.sl true .lk)),(.b (.sl true .bool)),(.b (.sl true .int)),(.b (.sl true .db)),(.b (.sl true .pk))]]⟩,[.str,.int,.str,.int,.ls .lk,.ls .bool,.ls .int,.ls .db,.ls .pk,.ls .str,.int,.ls .lk,.ls .bool,.ls .int,.ls .db,.ls .pk]⟩,zx,TQ⟩
def Pw:Xa:=⟨⟨[3,5,6,7],⟨[.c (.one (.ptr 0 0)),.c (.one (.b .str)),.c (.one (.own 1)),zc],[.box 35 [zi,(.b (.sl true .lk)),(.b (.sl true .bool)),(.b (.sl true .int)),(.b (.sl true .db)),(.b (.sl true .pk))],.row 9 .str]⟩,[.str,.int,.int,.ls .lk,.ls .bool,.ls .int,.ls .db,.ls .pk,.ls .str]⟩,0,⟨[3,5],⟨[.c (.one (.ptr 0 0)),.c (.one (.b .str))],[.box 35 [zi,(.b (.sl true .lk)),(.b (.sl true .bool)),(.b (.sl true .int)),(.b (.sl true .db)),(.b (.sl true .pk))]]⟩,[.str,.int,.ls .lk,.ls .bool,.ls .int,.ls .db,.ls .pk]⟩,zx,lp MA Ea⟩
def Qh:Oa:=⟨⟨[.c (.one (.b .str))],[]⟩,[.str],⟨[.c (.one (.b .str))],[]⟩,[.str],Dm⟩
def Tp:Ma:=Sa tab [(19,[],AZ),(21,[],DJ),(20,[],IJ),(23,[],Q3),(22,[],W3)] 44 0 [] [(9,UA),(7,Pw)]
theorem Z3:Pa Tryz.prog Tp.Γ:=Ra (l:=[(19,[],AZ),(21,[],DJ),(20,[],IJ),(23,[],Q3),(22,[],W3)]) ⟨⟨xD,Tryz.call19⟩,⟨⟨gO,Tryz.call21⟩,⟨⟨gS,Tryz.call20⟩,⟨⟨zNI,Tryz.call23⟩,⟨⟨zND,Tryz.call22⟩,trivial⟩⟩⟩⟩⟩
theorem zKH:Ae Tryz.prog 0 44 (Fc Tp.plan (Va (Tryz.f14.body.getD .skip) 0) 0).1 (Fc Tp.plan (Va (Tryz.f14.body.getD .skip) 0) 0).2 UA:=NM (G:=Tp) (t:=(.val 1 (.val 2 (.val 3 (.alt 0 (.alt 4 (.alt 5 (.val 6 (.val 7 (.val 8 (.one 9 (.one 10 (.val 11 .done)))))) (.one 9 (.one 5 (.val 6 (.val 7 (.val 8 (.one 10 (.val 11 .done)))))))) (.one 9 (.one 4 (.one 5 (.val 6 (.val 7 (.val 8 (.one 10 (.val 11 .done))))))))) (.alt 4 (.alt 0 (.alt 5 (.val 6 (.val 7 (.val 8 (.one 9 (.one 10 (.val 11 .done)))))) (.one 9 (.one 5 (.val 6 (.val 7 (.val 8 (.one 10 (.val 11 .done)))))))) (.one 9 (.one 0 (.one 5 (.val 6 (.val 7 (.val 8 (.one 10 (.val 11 .done))))))))) (.one 9 (.alt 0 (.one 4 (.one 5 (.val 6 (.val 7 (.val 8 (.one 10 (.val 11 .done))))))) (.one 4 (.one 0 (.one 5 (.val 6 (.val 7 (.val 8 (.one 10 (.val 11 .done)))))))))))))))) (F:=UA.F) (eid:=0) (FX:=UA.FX) (FR:=UA.FR) (sh:=TQ) Ga Ha Z3 mixed (by kernel_rfl) (by kernel_rfl) ⟨fun s=>by kernel_rfl,fun s=>by kernel_rfl,fun s=>by kernel_rfl,fun s=>by kernel_rfl,fun s=>by kernel_rfl,fun s=>by kernel_rfl,fun s=>by kernel_rfl,fun s=>by kernel_rfl,trivial⟩
theorem zKG:Cb Tryz.prog 0 44 (Va (Tryz.f14.body.getD .skip) 0) Pw:=Fb (G:=Tp) (F:=Pw.F) (eid:=Pw.eid) (FX:=Pw.FX) (FR:=Pw.FR) (B:=MA) (n:=Ea) Ga Ha Z3 mixed (Bh (G:=Tp) (n:=0) (m:=1) (by kernel_rfl) (by kernel_rfl) trivial (by kernel_rfl) ⟨trivial,Bg (L0:=UA) (by kernel_rfl) zKH⟩) (fun s=>by kernel_rfl)
theorem Qw:GC Tryz.prog 14 Qh:=Ua (G:=Tp) (c:=Tryz.f14.body.getD .skip) Ga Ha Z3 mixed Tryz.func14 (by kernel_rfl) Tryz.ntmps14 (Ja (G:=Tp) (n:=1) (by kernel_rfl) (by kernel_rfl) ⟨trivial,Gb (id:=7) (L0:=Pw) (by kernel_rfl) (by kernel_rfl) zKG⟩ (by kernel_rfl)) (fun s=>by kernel_rfl)
def Rw:Xa:=⟨⟨[0,7,8,9],⟨[.c (.one (.b .str)),.c (.one (.b (.sl false .int))),zc,zc],[]⟩,[.str,.ls .int,.int,.int]⟩,0,⟨[0],⟨[.c (.one (.b .str))],[]⟩,[.str]⟩,zx,lp BJ Ea⟩
def MJ:Oa:=⟨⟨[.c (.one (.b .str)),.c (.one (.b (.sl false .int)))],[]⟩,[.str,.ls .int],⟨[.c (.one (.b .str))],[]⟩,[.str],Rp⟩
def NJ:Ma:=Sa tab [(58,[],RD)] 21 0 [] [(2,Rw)]
theorem gW:Pa Tryz.prog NJ.Γ:=Ra (l:=[(58,[],RD)]) ⟨⟨dD,Tryz.call58⟩,trivial⟩
theorem zKu:Cb Tryz.prog 0 21 (Va (Tryz.f28.body.getD .skip) 0) Rw:=Fb (G:=NJ) (F:=Rw.F) (eid:=Rw.eid) (FX:=Rw.FX) (FR:=Rw.FR) (B:=BJ) (n:=Ea) Ga Ha gW mixed (Ja (G:=NJ) (n:=0) (by kernel_rfl) (by kernel_rfl) trivial (by kernel_rfl)) (fun s=>by kernel_rfl)
theorem gX:GC Tryz.prog 28 MJ:=Ua (G:=NJ) (c:=Tryz.f28.body.getD .skip) Ga Ha gW mixed Tryz.func28 (by kernel_rfl) Tryz.ntmps28 (Ja (G:=NJ) (n:=1) (by kernel_rfl) (by kernel_rfl) ⟨trivial,Gb (id:=2) (L0:=Rw) (by kernel_rfl) (by kernel_rfl) zKu⟩ (by kernel_rfl)) (fun s=>by kernel_rfl)
def Sw:Xa:=⟨⟨[12,89,90,91],⟨[.c (.one (.b .str)),.c (.one (.own 6)),zc,zc],[.box 35 [zi,(.own 1),(.own 2),(.own 3),(.own 4),(.own 7)],.row 60 .lk,.row 4 .bool,.row 3 .int,.row 45 .db,.dead,.row 84 .lb,.row 86 .pk]⟩,[.str,.int,.int,.int,.ls .lk,.ls .bool,.ls .int,.ls .db,.ls .lb,.ls .pk]⟩,1,⟨[12],⟨[.c (.one (.b .str))],[.box 35 [zi,(.own 1),(.own 2),(.own 3),(.own 4),(.own 6)],.row 60 .lk,.row 4 .bool,.row 3 .int,.row 45 .db,.dead,.row 86 .pk]⟩,[.str,.int,.ls .lk,.ls .bool,.ls .int,.ls .db,.ls .pk]⟩,zx,lp NA Ea⟩
def VA:Xa:=⟨⟨[16,17,18,123,124,125],⟨[.c (.one (.b .str)),zc,.c (.one (.ptr 6 0)),.c (.one (.own 7)),zc,zc],[.box 35 [zi,(.own 1),(.own 2),(.own 3),(.own 4),(.own 7)],.row 60 .lk,.row 4 .bool,.row 3 .int,.row 45 .db,.dead,.box 86 [zi,zi,zi,(.b (.sl true .en))],.row 86 .pk]⟩,[.str,.int,.int,.int,.int,.ls .lk,.ls .bool,.ls .int,.ls .db,.int,.int,.int,.ls .en,.ls .pk]⟩,0,⟨[16,123,124,125],⟨[.c (.one (.b .str)),.c (.one (.own 6)),zc,zc],[.box 35 [zi,(.own 1),(.own 2),(.own 3),(.own 4),(.own 6)],.row 60 .lk,.row 4 .bool,.row 3 .int,.row 45 .db,.dead,.row 86 .pk]⟩,[.str,.int,.int,.int,.ls .lk,.ls .bool,.ls .int,.ls .db,.ls .pk]⟩,zx,UQ⟩
def Tw:Xa:=⟨⟨[16,123,124,125],⟨[.c (.one (.b .str)),.c (.one (.own 6)),zc,zc],[.box 35 [zi,(.own 1),(.own 2),(.own 3),(.own 4),(.own 6)],.row 60 .lk,.row 4 .bool,.row 3 .int,.row 45 .db,.dead,.row 86 .pk]⟩,[.str,.int,.int,.int,.ls .lk,.ls .bool,.ls .int,.ls .db,.ls .pk]⟩,3,⟨[16],⟨[.c (.one (.b .str))],[.box 35 [zi,(.own 1),(.own 2),(.own 3),(.own 4),(.own 6)],.row 60 .lk,.row 4 .bool,.row 3 .int,.row 45 .db,.dead,.row 86 .pk]⟩,[.str,.int,.ls .lk,.ls .bool,.ls .int,.ls .db,.ls .pk]⟩,zx,lp OA Ea⟩
def A4:Oa:=⟨⟨[.c (.one (.ptr 0 0)),.c (.one (.b .str))],[.box 35 [zi,(.own 1),(.own 2),(.own 3),(.own 4),(.own 5)],.row 60 .lk,.row 4 .bool,.row 3 .int,.row 45 .db,.row 86 .pk]⟩,[.str,.int,.ls .lk,.ls .bool,.ls .int,.ls .db,.ls .pk],⟨[.c (.one (.b .str))],[.box 35 [zi,(.own 1),(.own 2),(.own 3),(.own 4),(.own 6)],.row 60 .lk,.row 4 .bool,.row 3 .int,.row 45 .db,.dead,.row 86 .pk]⟩,[.str,.int,.ls .lk,.ls .bool,.ls .int,.ls .db,.ls .pk],VQ⟩
def Em:Ma:=Sa tab [(26,[],QD),(58,[],RD),(54,[],MF),(56,[],JX),(51,[],F3),(50,[],I3),(55,[],J3),(57,[],Z0),(59,[],K1),(52,[],OI),(53,[],V2),(28,[],MJ)] 146 6 [(2,11,[(0,true),(1,true),(2,true),(4,true),(5,true),(6,true),(8,true),(9,true),(10,true),(3,false),(7,false)],[])] [(21,Sw),(36,VA),(34,Tw)]
theorem XQ:Pa Tryz.prog Em.Γ:=Ra (l:=[(26,[],QD),(58,[],RD),(54,[],MF),(56,[],JX),(51,[],F3),(50,[],I3),(55,[],J3),(57,[],Z0),(59,[],K1),(52,[],OI),(53,[],V2),(28,[],MJ)]) ⟨⟨dC,Tryz.call26⟩,⟨⟨dD,Tryz.call58⟩,⟨⟨eP,Tryz.call54⟩,⟨⟨uO,Tryz.call56⟩,⟨⟨zMp,Tryz.call51⟩,⟨⟨zMs,Tryz.call50⟩,⟨⟨zMf,Tryz.call55⟩,⟨⟨zC,Tryz.call57⟩,⟨⟨zP,Tryz.call59⟩,⟨⟨gJ,Tryz.call52⟩,⟨⟨zMb,Tryz.call53⟩,⟨⟨gX,Tryz.call28⟩,trivial⟩⟩⟩⟩⟩⟩⟩⟩⟩⟩⟩⟩
theorem zKn:Ae Tryz.prog 6 146 (Fc Em.plan (Va (Tryz.f27.body.getD .skip) 1) 0).1 (Fc Em.plan (Va (Tryz.f27.body.getD .skip) 1) 0).2 VA:=Cp (G:=Em) (n:=13) (ks:=[]) (t:=(.val 0 (.val 1 (.val 3 (.val 4 (.val 5 (.val 6 (.val 7 (.val 8 (.val 9 (.val 10 (.two 2 (.one 11 (.one 12 .done)) 11 (.one 2 (.one 12 .done)))))))))))))) (F:=VA.F) (eid:=0) (FX:=VA.FX) (FR:=VA.FR) (sh:=UQ) Ga Ha XQ mixed (by kernel_rfl) (by kernel_rfl) ⟨fun s=>by kernel_rfl,fun s=>by kernel_rfl,trivial⟩
theorem zKl:Cb Tryz.prog 6 146 (Va (Tryz.f27.body.getD .skip) 0) Sw:=Fb (G:=Em) (F:=Sw.F) (eid:=Sw.eid) (FX:=Sw.FX) (FR:=Sw.FR) (B:=NA) (n:=Ea) Ga Ha XQ mixed (Ja (G:=Em) (n:=0) (by kernel_rfl) (by kernel_rfl) trivial (by kernel_rfl)) (fun s=>by kernel_rfl)
theorem zKm:Cb Tryz.prog 6 146 (Va (Tryz.f27.body.getD .skip) 1) Tw:=Fb (G:=Em) (F:=Tw.F) (eid:=Tw.eid) (FX:=Tw.FX) (FR:=Tw.FR) (B:=OA) (n:=Ea) Ga Ha XQ mixed (Bh (G:=Em) (n:=0) (m:=1) (by kernel_rfl) (by kernel_rfl) trivial (by kernel_rfl) ⟨trivial,Bg (L0:=VA) (by kernel_rfl) zKn⟩) (fun s=>by kernel_rfl)
theorem zMc:GC Tryz.prog 27 A4:=Rq (G:=Em) (c:=Tryz.f27.body.getD .skip) Ga Ha XQ mixed Tryz.func27 (by kernel_rfl) Tryz.ntmps27 (Ja (G:=Em) (n:=2) (by kernel_rfl) (by kernel_rfl) ⟨⟨trivial,Gb (id:=21) (L0:=Sw) (by kernel_rfl) (by kernel_rfl) zKl⟩,Gb (id:=34) (L0:=Tw) (by kernel_rfl) (by kernel_rfl) zKm⟩ (by kernel_rfl)) [5] (fun s=>by kernel_rfl)
def Uw:Xa:=⟨⟨[3,6,28,29,30],⟨[.c (.one (.ptr 0 0)),.c (.one (.b .str)),.c (.one (.b (.sl true .str))),zc,zc],[.box 35 [zi,(.own 1),(.own 2),(.own 3),(.own 4),(.own 5)],.row 60 .lk,.row 4 .bool,.row 3 .int,.row 45 .db,.row 86 .pk]⟩,[.str,.ls .str,.int,.int,.int,.ls .lk,.ls .bool,.ls .int,.ls .db,.ls .pk]⟩,0,⟨[3,6],⟨[.c (.one (.ptr 0 0)),.c (.one (.b .str))],[.box 35 [zi,(.own 1),(.own 2),(.own 3),(.own 4),(.own 5)],.row 60 .lk,.row 4 .bool,.row 3 .int,.row 45 .db,.row 86 .pk]⟩,[.str,.int,.ls .lk,.ls .bool,.ls .int,.ls .db,.ls .pk]⟩,zx,lp PA Ea⟩
def Vw:Xa:=⟨⟨[6,11,40,41,42,49,50,51],⟨[.c (.one (.b .str)),.c (.one (.own 0)),.c (.one (.own 1)),zc,zc,.c (.one (.b (.sl true .ls))),zc,zc],[.row 3 .int,.row 45 .db]⟩,[.str,.int,.int,.ls .ls,.int,.int,.ls .int,.ls .db]⟩,4,⟨[6,11,40,41,42],⟨[.c (.one (.b .str)),.c (.one (.own 0)),.c (.one (.own 1)),zc,zc],[.row 3 .int,.row 45 .db]⟩,[.str,.int,.int,.ls .int,.ls .db]⟩,zx,lp QA Ea⟩
def Ww:Xa:=⟨⟨[6,40,41,42],⟨[.c (.one (.b .str)),.c (.one (.own 0)),zc,zc],[.row 45 .db]⟩,[.str,.int,.int,.ls .db]⟩,2,⟨[6],⟨[.c (.one (.b .str))],[]⟩,[.str]⟩,zx,lp RA Ea⟩
def Rh:Oa:=⟨⟨[.c (.one (.b .str))],[]⟩,[.str],⟨[.c (.one (.b .str))],[]⟩,[.str],Ef⟩
def Ao:Ma:=Sa tab [(26,[],QD),(24,[],HZ),(25,[],D3),(28,[],MJ),(27,[],A4)] 67 0 [] [(6,Uw),(15,Vw),(11,Ww)]
theorem YQ:Pa Tryz.prog Ao.Γ:=Ra (l:=[(26,[],QD),(24,[],HZ),(25,[],D3),(28,[],MJ),(27,[],A4)]) ⟨⟨dC,Tryz.call26⟩,⟨⟨xR,Tryz.call24⟩,⟨⟨zMq,Tryz.call25⟩,⟨⟨gX,Tryz.call28⟩,⟨⟨zMc,Tryz.call27⟩,trivial⟩⟩⟩⟩⟩
theorem zJT:Cb Tryz.prog 0 67 (Va (Tryz.f15.body.getD .skip) 0) Uw:=Fb (G:=Ao) (F:=Uw.F) (eid:=Uw.eid) (FX:=Uw.FX) (FR:=Uw.FR) (B:=PA) (n:=Ea) Ga Ha YQ mixed (Ja (G:=Ao) (n:=0) (by kernel_rfl) (by kernel_rfl) trivial (by kernel_rfl)) (fun s=>by kernel_rfl)
theorem zJS:Cb Tryz.prog 0 67 (Va (Va (Tryz.f15.body.getD .skip) 1) 0) Vw:=Fb (G:=Ao) (F:=Vw.F) (eid:=Vw.eid) (FX:=Vw.FX) (FR:=Vw.FR) (B:=QA) (n:=Ea) Ga Ha YQ mixed (Ja (G:=Ao) (n:=0) (by kernel_rfl) (by kernel_rfl) trivial (by kernel_rfl)) (fun s=>by kernel_rfl)
theorem zJR:Cb Tryz.prog 0 67 (Va (Tryz.f15.body.getD .skip) 1) Ww:=Fb (G:=Ao) (F:=Ww.F) (eid:=Ww.eid) (FX:=Ww.FX) (FR:=Ww.FR) (B:=RA) (n:=Ea) Ga Ha YQ mixed (Ja (G:=Ao) (n:=1) (by kernel_rfl) (by kernel_rfl) ⟨trivial,Gb (id:=15) (L0:=Vw) (by kernel_rfl) (by kernel_rfl) zJS⟩ (by kernel_rfl)) (fun s=>by kernel_rfl)
theorem Xw:GC Tryz.prog 15 Rh:=Ua (G:=Ao) (c:=Tryz.f15.body.getD .skip) Ga Ha YQ mixed Tryz.func15 (by kernel_rfl) Tryz.ntmps15 (Ja (G:=Ao) (n:=2) (by kernel_rfl) (by kernel_rfl) ⟨⟨trivial,Gb (id:=6) (L0:=Uw) (by kernel_rfl) (by kernel_rfl) zJT⟩,Gb (id:=11) (L0:=Ww) (by kernel_rfl) (by kernel_rfl) zJR⟩ (by kernel_rfl)) (fun s=>by kernel_rfl)
def zFN:Oa:=⟨⟨[.c (.one (.b .str))],[]⟩,[.str],⟨[.c (.one (.b .bool))],[]⟩,[.bool],C3⟩
def B4:Ma:=Sa tab [(14,[],Qh),(15,[],Rh)] 15 0 [] []
theorem zQ6:Pa Tryz.prog B4.Γ:=Ra (l:=[(14,[],Qh),(15,[],Rh)]) ⟨⟨Qw,Tryz.call14⟩,⟨⟨Xw,Tryz.call15⟩,trivial⟩⟩
theorem zMu:GC Tryz.prog 3 zFN:=Ua (G:=B4) (c:=Tryz.f3.body.getD .skip) Ga Ha zQ6 mixed Tryz.func3 (by kernel_rfl) Tryz.ntmps3 (Ja (G:=B4) (n:=0) (by kernel_rfl) (by kernel_rfl) trivial (by kernel_rfl)) (fun s=>by kernel_rfl)
end
end Go.Proofs.YtjffopopheiinaaGreatDoor
section
namespace Go.Proofs.YtjffopopheiinaaGreatDoor
open Go.RowKit
theorem Tc (zs:List Int) (i:Nat):Aa .int zs i=iz zs i:=by
  induction zs generalizing i with
  |nil=>rfl
  |cons z r ih=>cases i with
   |zero=>rfl
   |succ i=>exact (ih i).trans (by simp [iz])
theorem Ff (ls:List Lk) (i:Nat):Aa .lk ls i=lk ls i:=by
  induction ls generalizing i with
  |nil=>rfl
  |cons z r ih=>cases i with
   |zero=>rfl
   |succ i=>exact (ih i).trans (by simp [lk])
abbrev Bb {α:Type} (l:List α):Prop:=l.length≤4611686018427387904
theorem Fm (a b c:Int):Dh (a,b,c,())=some (Db a b c,()):=by
  unfold Dh Db
  by_cases h:b≤a<;>simp [h]
theorem Uk (a b c:Int):Vf (a,b,c,())=some (Db a b c,()):=by
  unfold Vf Db
  by_cases h:b≤a<;>simp [h]
theorem Jb {n:Nat} (h:n≤4611686018427387904):n<Ea:=by unfold Ea;omega
theorem Wa (k:Nat):Int.toNat (k:Int)=k:=rfl
theorem WA (k:Nat):Int.toNat ((k:Int)-1)=k-1:=by omega
theorem C4 (n:Int) (ls:List Lk) (hl:Bb ls):Vy (n,ls,())=some (gv n ls,()):=by
  unfold Vy
  simp only [Fm,Option.bind_some,Ta]
  cases h1:Db n 1 8 with
  |false=>simp;rw [SV fun g=>Bi h1 ⟨g.1,g.2.1⟩]
  |true =>
  have h1:=He h1
  by_cases h2:ls.length≤14
  case neg => 
    have:(14:Int)<ls.length:=by omega
    simp [this];rw [SV fun g=>h2 g.2.2.1]
  have h2':¬(14:Int)<ls.length:=by omega
  simp only [h2',decide_false,cond_false,Bool.not_true]
  refine Ba.out (Ba.bnd (R:=fun r=>match r with| .inl _=>gv n ls=true| .inr y=>y.1=gv n ls) ?_ ?_)
  ·refine Ba.count ls.length (fun k s=>s=(ls,(ls.length:Int),(k:Int),n,ls,())∧∀i,i<k→Ch n ls i) ?_ (Nat.zero_le _) (Jb (by omega)) ⟨rfl,fun i hi=>by omega⟩
   rintro k s hk ⟨rfl,hok⟩
   simp (disch:=omega) only [NN,Ff,Wa,WA,Na,Fm,Option.bind_some]
   repeat' (first
     |refine Ba.some ?_
     |fail
     |(refine Ba.gd (by first|exact Ia (by omega) (by omega)|(simp (disch:=omega) only [Na];exact Ia (by omega) (by omega))) ?_)
     |(refine Ba.ite (fun h=>?_) (fun h=>?_)<;>try simp only [decide_eq_true_eq,decide_eq_false_iff_not,Bool.not_eq_true',Bool.not_eq_false',Hh,Ih,Bool.and_eq_true,Bool.or_eq_true,Bool.and_eq_false_iff,Bool.or_eq_false_iff,El] at h))
   all_goals dsimp only
   all_goals first
     |exact (cE (k:=k) (by omega) fun _ _ g=>by unfold Ch at g;omega).symm
     |(refine ⟨by omega,rfl,fun i hi=>?_⟩
       by_cases e:i<k
       ·exact hok i e
       ·obtain rfl:i=k:=by omega
        unfold Ch
        omega)
     |(obtain rfl:k=ls.length:=by omega
       exact decide_eq_true ⟨h1.1,h1.2,h2,hok⟩)
  ·rintro (r|r) hr
   ·exact .some (by simp [hr])
   ·obtain ⟨b,u⟩:=r
    have hr:b=gv n ls:=hr
    exact .some (by first | rw [hr] | exact Prod.ext hr rfl)
theorem Yw (n:Int) (ls:List Lk) (hl:Bb ls):Hn (n,ls,())=some (gv n ls,()):=by
  unfold Hn
  refine Ba.out (Ba.bnd (R:=fun r=>match r with| .inl x=>x=(n,ls,())∧gv n ls=(Db n 1 8&&decide ((ls.length:Int)≤14))| .inr y=>y.1=false∧gv n ls=false) ?_ ?_)
  ·refine Ba.count ls.length (fun k s=>s=((k:Int),n,ls,())∧(1≤n→n≤8→∀i,i<k→Ch n ls i)) ?_ (Nat.zero_le _) (Jb (by omega)) ⟨rfl,fun _ _ i hi=>by omega⟩
   rintro k s hk ⟨rfl,hok⟩
   simp (disch:=omega) only [ON,Ff,Wa,WA,Na,Ta,Uk,Option.bind_some]
   repeat' (first
     |refine Ba.some ?_
     |fail
     |(refine Ba.gd (by first|exact Ia (by omega) (by omega)|(simp (disch:=omega) only [Na];exact Ia (by omega) (by omega))) ?_)
     |(refine Ba.ite (fun h=>?_) (fun h=>?_)<;>try simp only [decide_eq_true_eq,decide_eq_false_iff_not,Bool.not_eq_true',Bool.not_eq_false',Hh,Ih,Bool.and_eq_true,Bool.or_eq_true,Bool.and_eq_false_iff,Bool.or_eq_false_iff,El] at h))
   all_goals dsimp only
   all_goals first
     |(refine ⟨rfl,cE (k:=k) (by omega) fun h1 h2 g=>?_⟩
       unfold Ch at g
       have e1:wrap64 (n-1)=n-1:=Na (by omega) (by omega)
       have e2:wrap64 ((lk ls k).a+1)=(lk ls k).a+1:=Na (by omega) (by omega)
       simp only [e1,e2] at *
       omega)
     |(refine ⟨by omega,rfl,fun h1 h2 i hi=>?_⟩
       by_cases e:i<k
       ·exact hok h1 h2 i e
       ·obtain rfl:i=k:=by omega
        have e1:wrap64 (n-1)=n-1:=Na (by omega) (by omega)
        simp only [e1] at *
        have e2:wrap64 ((lk ls i).a+1)=(lk ls i).a+1:=Na (by omega) (by omega)
        simp only [e2] at *
        unfold Ch
        omega)
     |exact ⟨rfl,sD (show ls.length=k by omega) hok▸(by rw [show ls.length=k by omega])⟩
  ·rintro (r|r) hr
   ·have hr:r=(n,ls,())∧gv n ls=(Db n 1 8&&decide ((ls.length:Int)≤14)):=hr
    obtain ⟨rfl,hr⟩:=hr
    simp only [Uk,Option.bind_some,Ta,hr]
    cases Db n 1 8<;>exact .some rfl
   ·obtain ⟨b,u⟩:=r
    have hr:b=false∧gv n ls=false:=hr
    exact .some (by first | rw [hr.1,hr.2] | exact Prod.ext hr.1 (Prod.ext hr.2 rfl))
theorem gY {n:Int} {ls:List Lk} (h:gv n ls=true):1≤n∧n≤8:=⟨(Py h).1,(Py h).2.1⟩
theorem Up (n m:Int) (ls:List Lk) (h0:0≤n) (h1:n≤10000):In (n,ls,m,())=some (Db m 0 (n-1),()):=by
  unfold In
  simp (disch:=omega) only [Uk,Na,Option.bind_some]
theorem Zw (n m:Int) (ls:List Lk) (hl:Bb ls):Sr (n,ls,m,())=some (gv n ls&&Db m 0 (n-1),()):=by
  unfold Sr
  simp only [C4 n ls hl,Option.bind_some]
  cases h:gv n ls with
  |false=>rfl
  |true =>
   have:=gY h
   simp (disch:=omega) only [Fm,Na,Option.bind_some,cond_true,Bool.true_and]
end Go.Proofs.YtjffopopheiinaaGreatDoor
namespace Go.Proofs.YtjffopopheiinaaGreatDoor
open Go.RowKit
theorem OJ (n:Int) (ls:List Lk) (a b:Int) (hl:Bb ls):Jp (n,ls,a,b,())=some (Ac ls a b,()):=by
  unfold Jp
  refine Ba.out (Ba.bnd (R:=fun r=>match r with| .inl _=>Ac ls a b= -1| .inr y=>y.1=Ac ls a b) ?_ ?_)
  ·refine Ba.count ls.length (fun k s=>s=(a,b,(k:Int),n,ls,())∧∀i,i<k→Of (min a b) (max a b) (lk ls i)=false) ?_ (Nat.zero_le _) (Jb (by omega)) ⟨rfl,fun i hi=>by omega⟩
   rintro k s hk ⟨rfl,hok⟩
   simp (disch:=omega) only [MN,Ff,Wa,Na,Ta]
   repeat' (first
     |refine Ba.some ?_
     |fail
     |(refine Ba.gd (by first|exact Ia (by omega) (by omega)|(simp (disch:=omega) only [Na];exact Ia (by omega) (by omega))) ?_)
     |(refine Ba.ite (fun h=>?_) (fun h=>?_)<;>try simp only [decide_eq_true_eq,decide_eq_false_iff_not,Bool.not_eq_true',Bool.not_eq_false',Hh,Ih,Bool.and_eq_true,Bool.or_eq_true,Bool.and_eq_false_iff,Bool.or_eq_false_iff,El] at h))
   all_goals try dsimp only
   all_goals first
     |(exact (cR (by omega) (XV (by assumption) (by assumption)) hok).symm)
     |(refine ⟨by omega,rfl,fun i hi=>?_⟩
       by_cases e:i<k
       ·exact hok i e
       ·obtain rfl:i=k:=by omega
        exact cT (by omega))
     |exact cS fun i hi=>hok i (by omega)
  ·rintro (r|r) hr
   ·have hr:Ac ls a b= -1:=hr
    exact .some (by first | rw [hr] | exact Prod.ext hr rfl)
   ·obtain ⟨z,u⟩:=r
    have hr:z=Ac ls a b:=hr
    exact .some (by first | rw [hr] | exact Prod.ext hr rfl)
theorem D4 (n:Int) (ls:List Lk) (a b:Int) (hl:Bb ls):Xy (n,ls,a,b,())=some (Ac ls a b,()):=by
  unfold Xy TW
  refine Ba.out (Ba.bnd (R:=fun r=>r.1=Ac ls a b) (Ba.bnd (R:=fun r=>match r with| .inl _=>Ac ls a b= -1| .inr y=>y.1=Ac ls a b) ?_ ?_) ?_)
  ·refine Ba.count ls.length (fun k s=>s=(ls,a,b,(ls.length:Int),(k:Int),())∧∀i,i<k→Of (min a b) (max a b) (lk ls i)=false) ?_ (Nat.zero_le _) (Jb (by omega)) ⟨by simp [Ta],fun i hi=>by omega⟩
   rintro k s hk ⟨rfl,hok⟩
   have e1:∀x y z p q:Int,RN (x,y,z,p,q,())=some (decide (x=min p q)&&decide (y=max p q),()):=fun x y z p q=>by
     unfold RN
     by_cases h:x=min p q<;>simp [h]
   simp (disch:=omega) only [SN,Ff,Wa,Na,Ta,e1,Option.bind_some]
   repeat' (first
     |refine Ba.some ?_
     |fail
     |(refine Ba.gd (by first|exact Ia (by omega) (by omega)|(simp (disch:=omega) only [Na];exact Ia (by omega) (by omega))) ?_)
     |(refine Ba.ite (fun h=>?_) (fun h=>?_)<;>try simp only [decide_eq_true_eq,decide_eq_false_iff_not,Bool.not_eq_true',Bool.not_eq_false',Hh,Ih,Bool.and_eq_true,Bool.or_eq_true,Bool.and_eq_false_iff,Bool.or_eq_false_iff,El] at h))
   all_goals try dsimp only
   all_goals first
     |(exact (cR (by omega) (XV (by omega) (by omega)) hok).symm)
     |(refine ⟨by omega,rfl,fun i hi=>?_⟩
       by_cases e:i<k
       ·exact hok i e
       ·obtain rfl:i=k:=by omega
        exact cT (by omega))
     |exact cS fun i hi=>hok i (by omega)
  ·rintro (r|r) hr
   ·have hr:Ac ls a b= -1:=hr
    exact .some (by first | rw [hr] | exact Prod.ext hr rfl)
   ·exact .some hr
  ·rintro ⟨z,u⟩ hr
   have hr:z=Ac ls a b:=hr
   exact .some (by first | rw [hr] | exact Prod.ext hr rfl)
theorem zF0 (a b c n:Int):LN (a,b,c,n,())=some (Ar ⟨a,b,c⟩ n,FD ⟨a,b,c⟩ n,()):=by
  unfold LN Ar FD
  by_cases h:n=a
  ·simp [h]
  ·by_cases h':n=b
   ·subst h';simp [h]
   ·simp [h,h']
theorem E4 (n:Int) (ls:List Lk) (m:Int) (hl:ls.length≤16777216):Rr (n,ls,m,())=some (Rg (Qg ls m ls.length),()):=by
  unfold Rr
  refine Ba.out (Ba.bnd (R:=fun r=>match r with| .inl x=>x.1=Qg ls m ls.length| .inr _=>False) ?_ ?_)
  ·refine Ba.count ls.length (fun k s=>s=(m,ls,(ls.length:Int),(k:Int),Qg ls m k,())) ?_ (Nat.zero_le _) (Jb (by omega)) (by simp [Ta,Qg])
   rintro k s hk rfl
   have hlen:=cU ls m k
   simp (disch:=omega) only [PN,Ff,Wa,Na,Ta,zF0,Option.bind_some,List.length_singleton]
   repeat' (first
     |refine Ba.some ?_
     |(refine Ba.gd (decide_eq_true (by omega)) ?_)
     |(refine Ba.gd (by first|exact Ia (by omega) (by omega)|(simp (disch:=omega) only [Na];exact Ia (by omega) (by omega))) ?_)
     |(refine Ba.ite (fun h=>?_) (fun h=>?_)<;>try simp only [decide_eq_true_eq,decide_eq_false_iff_not,Bool.not_eq_true',Bool.not_eq_false',Hh,Ih,Bool.and_eq_true,Bool.or_eq_true,Bool.and_eq_false_iff,Bool.or_eq_false_iff,El] at h))
   all_goals try dsimp only
   all_goals first
     |(refine ⟨by omega,?_⟩
       rw [sJ ls m k (by omega)]
       simp [*])
     |(obtain rfl:k=ls.length:=by omega
       rfl)
  ·rintro (r|r) hr
   ·have hr:r.1=Qg ls m ls.length:=hr
    show Ba ((EN (r.1,())).bind _) _
    rw [hr]
    have hlen:=cU ls m ls.length
    unfold EN
    rw [decide_eq_true (show (Qg ls m ls.length).length≤16777216 by omega)]
    exact .some rfl
   ·exact hr.elim
theorem zF6 (n:Int) (ls:List Lk) (m:Int) (hl:Bb ls):YD (n,ls,m,())=some (if gv n ls then Hc ls m 8 else [],()):=by
  unfold YD
  refine Ba.out (Ba.bnd (R:=fun r=>match r with| .inl x=>x.1=if gv n ls then Hc ls m 8 else []| .inr _=>False) ?_ ?_)
  ·cases hg:gv n ls with
   |false =>
    refine Ba.count 0 (fun k s=>s=(m,(0:Int),n,ls,([]:List Int),())) ?_ (Nat.zero_le _) (Jb (by omega)) rfl
    rintro k s hk rfl
    simp only [XD,Yw n ls hl,Option.bind_some,hg]
    exact .some (by simp)
   |true =>
    refine Ba.count 8 (fun k s=>s=(m,(k:Int),n,ls,Hc ls m k,())) ?_ (Nat.zero_le _) (Jb (by omega)) rfl
    rintro k s hk rfl
    have hlen:=Br ls m k
    simp (disch:=omega) only [XD,Yw n ls hl,OJ _ _ _ _ hl,Option.bind_some,hg,Na,List.length_singleton,cond_true]
    repeat' (first
      |refine Ba.some ?_
      |(refine Ba.gd (decide_eq_true (by omega)) ?_)
      |(refine Ba.gd (by first|exact Ia (by omega) (by omega)|(simp (disch:=omega) only [Na];exact Ia (by omega) (by omega))) ?_)
      |(refine Ba.ite (fun h=>?_) (fun h=>?_)<;>try simp only [decide_eq_true_eq,decide_eq_false_iff_not,Bool.not_eq_true',Bool.not_eq_false',Hh,Ih,Bool.and_eq_true,Bool.or_eq_true,Bool.and_eq_false_iff,Bool.or_eq_false_iff,El] at h))
    all_goals try dsimp only
    all_goals first
      |(refine ⟨by omega,?_⟩
        rw [YV]
        simp [*])
      |(obtain rfl:k=8:=by omega
        rfl)
  ·rintro (r|r) hr
   ·have hr:r.1=if gv n ls then Hc ls m 8 else []:=hr
    exact .some (by first | rw [hr] | exact Prod.ext hr rfl)
   ·exact hr.elim
def rx {β:Type} (d:List Int) (x y:Nat) (c:Int) (K:List Int→Option β):Option β:=(bif decide (0≤iz d x) then (bif decide (iz d y<0) then K (d.set y (wrap64 (iz d x+c))) else (bif decide (wrap64 (iz d x+c)<iz d y) then K (d.set y (wrap64 (iz d x+c))) else K d)) else K d)
theorem ZQ {β:Type} {d:List Int} {x y:Nat} {c:Int} (K:List Int→Option β) (h1:iz d x≤10000) (hc:0≤c∧c≤20):rx d x y c K=K (relax d x y c):=by
  unfold rx relax Vq
  by_cases h0:0≤iz d x
  ·have e:wrap64 (iz d x+c)=iz d x+c:=Na (by omega) (by omega)
   by_cases h2:iz d y<0
   ·simp [h0,h2,e]
   ·by_cases h3:iz d x+c<iz d y<;>simp [h0,h2,h3,e]
  ·simp [h0]
end Go.Proofs.YtjffopopheiinaaGreatDoor
namespace Go.Proofs.YtjffopopheiinaaGreatDoor
open Go.RowKit
section
variable {n:Nat} {ls:List Lk}
theorem zF1 (h:GV n ls) {d:List Int} (hd:d.length=n) {m:Int} (hb:Bd d m) (hm:m≤9000) {k:Nat} (hk:k<ls.length) (p q r:Int) (t:List Lk):Wy (p,q,ls,(ls.length:Int),(k:Int),r,t,d,())=some (.inl (p,q,ls,(ls.length:Int),((k+1:Nat):Int),r,t,Ye d (lk ls k),())):=by
  obtain ⟨x,y,hx,hy,hxy,hyn,hc1,hc2⟩:=h.at_ hk
  have h14:=h.2.2.1
  have gk:Ca (k:Int) ls.length=true:=Ia (by omega) (by omega)
  have g1:Ca (lk ls k).a d.length=true:=Ia (by omega) (by omega)
  have g2:Ca (lk ls k).b d.length=true:=Ia (by omega) (by omega)
  have hlt:(k:Int)<ls.length:=by omega
  have hA:iz d (lk ls k).a.toNat≤10000:=by have:=(hb (lk ls k).a.toNat).2;omega
  have hB:iz (relax d (lk ls k).a.toNat (lk ls k).b.toNat (lk ls k).c) (lk ls k).b.toNat≤10000:=by have:=(UM hb (lk ls k).a.toNat (lk ls k).b.toNat (lk ls k).c hc1 hc2 (lk ls k).b.toNat).2;omega
  have hC:0≤(lk ls k).c∧(lk ls k).c≤20:=by omega
  have ek:wrap64 ((k:Int)+1)=(k:Int)+1:=Na (by omega) (by omega)
  simp only [Wy,Wa,Ff,Tc,List.length_set,g1,g2,gk,cond_true,decide_eq_true hlt,ek]
  show rx (β:=(Int×Int×List Lk×Int×Int×Int×List Lk×List Int×Unit)⊕((Int×Int×Int×List Lk×List Int×Unit)⊕Unit)) d (lk ls k).a.toNat (lk ls k).b.toNat (lk ls k).c (fun d'=>rx d' (lk ls k).b.toNat (lk ls k).a.toNat (lk ls k).c (fun d''=>some (.inl (p,q,ls,(ls.length:Int),(k:Int)+1,r,t,d'',()))))=_
  rw [ZQ _ hA hC,ZQ _ hB hC]
  rfl
theorem zF2 (h:GV n ls) {d:List Int} (hd:d.length=n) {m:Int} (hb:Bd d m) (hm:m≤9000) {k:Nat} (hk:k<ls.length) (p q:Int):Yy (p,(k:Int),q,ls,d,())=some (.inl (p,((k+1:Nat):Int),q,ls,Ye d (lk ls k),())):=by
  obtain ⟨x,y,hx,hy,hxy,hyn,hc1,hc2⟩:=h.at_ hk
  have h14:=h.2.2.1
  have gk:Ca (k:Int) ls.length=true:=Ia (by omega) (by omega)
  have g1:Ca (lk ls k).a d.length=true:=Ia (by omega) (by omega)
  have g2:Ca (lk ls k).b d.length=true:=Ia (by omega) (by omega)
  have hlt:(k:Int)<ls.length:=by omega
  have hA:iz d (lk ls k).a.toNat≤10000:=by have:=(hb (lk ls k).a.toNat).2;omega
  have hB:iz (relax d (lk ls k).a.toNat (lk ls k).b.toNat (lk ls k).c) (lk ls k).b.toNat≤10000:=by have:=(UM hb (lk ls k).a.toNat (lk ls k).b.toNat (lk ls k).c hc1 hc2 (lk ls k).b.toNat).2;omega
  have hC:0≤(lk ls k).c∧(lk ls k).c≤20:=by omega
  have ek:wrap64 ((k:Int)+1)=(k:Int)+1:=Na (by omega) (by omega)
  simp only [Yy,Wa,Ff,Tc,List.length_set,g1,g2,gk,cond_true,Ta,decide_eq_true hlt,ek]
  show rx (β:=(Int×Int×Int×List Lk×List Int×Unit)⊕((Int×Int×List Lk×List Int×Unit)⊕Unit)) d (lk ls k).a.toNat (lk ls k).b.toNat (lk ls k).c (fun d'=>rx d' (lk ls k).b.toNat (lk ls k).a.toNat (lk ls k).c (fun d''=>some (.inl (p,(k:Int)+1,q,ls,d'',()))))=_
  rw [ZQ _ hA hC,ZQ _ hB hC]
  rfl
end
end Go.Proofs.YtjffopopheiinaaGreatDoor
namespace Go.Proofs.YtjffopopheiinaaGreatDoor
open Go.RowKit
section
variable {n:Nat} {ls:List Lk}
theorem XA (h:GV n ls) {f:Nat} (hf:f<n):Sl ((n:Int),ls,(f:Int),())=some (Tb n ls f,()):=by
  have h14:=h.2.2.1
  have h8:=h.2.1
  unfold Sl
  have er:SD ([-1],(n:Int),())=some (List.replicate n (-1),()):=by
    show (bif decide ((0:Int)<n∧(n:Int)≤64) then _ else none)=_
    rw [decide_eq_true (show (0:Int)<n∧(n:Int)≤64 by omega)]
    rfl
  simp only [er,Option.bind_some,List.length_replicate,Ia (show (0:Int)≤f by omega) (show (f:Int)<n by omega),cond_true,Wa]
  refine Ba.out (Ba.bnd (R:=fun r=>match r with| .inl x=>x.1=Tb n ls f| .inr _=>False) ?_ ?_)
  ·refine Ba.count n (fun k s=>s=((n:Int),(k:Int),(n:Int),ls,dst n ls f k 0,())) ?_ (Nat.zero_le _) (Jb (by omega)) rfl
   rintro k s hk rfl
   simp (disch:=omega) only [QN,Ta]
   refine Ba.ite (fun hlt=>?_) (fun hlt=>?_)
   ·have hlt:=oT hlt
    refine Ba.bnd (R:=fun r=>match r with| .inl x=>x=((n:Int),(k:Int),(n:Int),ls,dst n ls f k ls.length,())| .inr _=>False) ?_ ?_
    ·refine Ba.count ls.length (fun i s=>s=((n:Int),(k:Int),ls,(ls.length:Int),(i:Int),(n:Int),ls,dst n ls f k i,())) ?_ (Nat.zero_le _) (Jb (by omega)) rfl
     rintro i s hi rfl
     by_cases hil:i<ls.length
     ·rw [zF1 h (cH _ _ _ _ _) (UV n ls f k i h.cheap h14 (by omega)) (by omega) hil]
      exact .some ⟨hil,by rw [cI _ _ _ _ _ hil]⟩
     ·obtain rfl:i=ls.length:=by omega
      unfold Wy
      simp only [dF (show ¬(ls.length:Int)<ls.length by omega),cond_false]
      exact .some rfl
    ·rintro (r|r) hr
     ·obtain rfl:=hr
      refine .some ⟨by omega,?_⟩
      dsimp only
      rw [cJ,Na (by omega) (by omega)]
      rfl
     ·exact hr.elim
   ·have hlt:=oF hlt
    obtain rfl:k=n:=by omega
    exact .some rfl
  ·rintro (r|r) hr
   ·have hr:r.1=Tb n ls f:=hr
    exact .some (by first | rw [hr] | exact Prod.ext hr rfl)
   ·exact hr.elim
theorem PJ (h:GV n ls) {f:Nat} (hf:f<n):Kn ((n:Int),ls,(f:Int),())=some (Tb n ls f,()):=by
  have h14:=h.2.2.1
  have h8:=h.2.1
  unfold Kn
  refine Ba.out (Ba.bnd (R:=fun r=>match r with| .inl x=>x=((f:Int),(n:Int),ls,List.replicate n (-1),())| .inr _=>False) ?_ ?_)
  ·refine Ba.count n (fun k s=>s=((f:Int),(k:Int),(n:Int),ls,List.replicate k (-1),())) ?_ (Nat.zero_le _) (Jb (by omega)) rfl
   rintro k s hk rfl
   simp (disch:=omega) only [UN,Na,List.length_singleton,List.length_replicate]
   repeat' (first
     |refine Ba.some ?_
     |(refine Ba.gd (decide_eq_true (by omega)) ?_)
     |(refine Ba.gd (by first|exact Ia (by omega) (by omega)|(simp (disch:=omega) only [Na];exact Ia (by omega) (by omega))) ?_)
     |(refine Ba.ite (fun h=>?_) (fun h=>?_)<;>try simp only [decide_eq_true_eq,decide_eq_false_iff_not,Bool.not_eq_true',Bool.not_eq_false',Hh,Ih,Bool.and_eq_true,Bool.or_eq_true,Bool.and_eq_false_iff,Bool.or_eq_false_iff,El] at h))
   all_goals try dsimp only
   ·exact ⟨by omega,by rw [List.replicate_succ'];rfl⟩
   ·obtain rfl:k=n:=by omega
    rfl
  rintro (r|r) hr
  case inr=>exact hr.elim
  obtain rfl:=hr
  simp only [List.length_replicate,Ia (show (0:Int)≤f by omega) (show (f:Int)<n by omega),cond_true,Wa]
  refine Ba.bnd (R:=fun r=>match r with| .inl x=>x.1=Tb n ls f| .inr _=>False) ?_ ?_
  ·refine Ba.count n (fun k s=>s=((k:Int),(n:Int),ls,dst n ls f k 0,())) ?_ (Nat.zero_le _) (Jb (by omega)) rfl
   rintro k s hk rfl
   simp (disch:=omega) only [VN,Ta]
   refine Ba.ite (fun hlt=>?_) (fun hlt=>?_)
   ·have hlt:=oT hlt
    refine Ba.bnd (R:=fun r=>match r with| .inl x=>x=((k:Int),(n:Int),ls,dst n ls f k ls.length,())| .inr _=>False) ?_ ?_
    ·refine Ba.count ls.length (fun i s=>s=((k:Int),(i:Int),(n:Int),ls,dst n ls f k i,())) ?_ (Nat.zero_le _) (Jb (by omega)) rfl
     rintro i s hi rfl
     by_cases hil:i<ls.length
     ·rw [zF2 h (cH _ _ _ _ _) (UV n ls f k i h.cheap h14 (by omega)) (by omega) hil]
      exact .some ⟨hil,by rw [cI _ _ _ _ _ hil]⟩
     ·obtain rfl:i=ls.length:=by omega
      unfold Yy
      simp only [Ta,dF (show ¬(ls.length:Int)<ls.length by omega),cond_false]
      exact .some rfl
    ·rintro (r|r) hr
     ·obtain rfl:=hr
      refine .some ⟨by omega,?_⟩
      dsimp only
      rw [cJ,Na (by omega) (by omega)]
      rfl
     ·exact hr.elim
   ·have hlt:=oF hlt
    obtain rfl:k=n:=by omega
    exact .some rfl
  ·rintro (r|r) hr
   ·have hr:r.1=Tb n ls f:=hr
    exact .some (by first | rw [hr] | exact Prod.ext hr rfl)
   ·exact hr.elim
end
def Gm (n:Int) (ls:List Lk) (t:Int):List Int:=if gv n ls&&Db t 0 (n-1) then Tb n.toNat ls t.toNat else []
theorem Bo {n:Int} {ls:List Lk} (h:gv n ls=true):∃N:Nat,n=N∧GV N ls:=by
  have:=gY h
  exact ⟨n.toNat,by omega,by rw [show ((n.toNat:Nat):Int)=n by omega];exact Py h⟩
theorem zDM (n t:Int) (ls:List Lk) (hl:Bb ls):TN (n,ls,t,())=some (Gm n ls t,()):=by
  unfold TN Gm
  simp only [Zw n t ls hl,Option.bind_some]
  cases h:gv n ls with
  |false=>rfl
  |true =>
   obtain ⟨N,rfl,hG⟩:=Bo h
   cases ht:Db t 0 ((N:Int)-1) with
   |false=>rfl
   |true =>
    have ht:=He ht
    obtain ⟨T,rfl⟩:=Int.eq_ofNat_of_zero_le ht.1
    simp only [XA hG (show T<N by omega),Option.bind_some]
    rfl
end Go.Proofs.YtjffopopheiinaaGreatDoor
namespace Go.Proofs.YtjffopopheiinaaGreatDoor
open Go.RowKit
section
variable {N:Nat} {la lb:List Lk} {bs:List Int}
end
end Go.Proofs.YtjffopopheiinaaGreatDoor
namespace Go.Proofs.YtjffopopheiinaaGreatDoor
open Go.RowKit
section
variable {N:Nat} {la lb:List Lk} {bs:List Int}
end
end Go.Proofs.YtjffopopheiinaaGreatDoor
namespace Go.Proofs.YtjffopopheiinaaGreatDoor
open Go.RowKit
section
variable {N:Nat} {la lb:List Lk} {bs:List Int}
end
end Go.Proofs.YtjffopopheiinaaGreatDoor
end
namespace Go.Proofs.YtjffopopheiinaaGreatDoor
section
open Go.RowKit
def en (es:List En) (i:Nat):En:=es.getD i ⟨0,0⟩
def Ib (db:List Ls) (i:Nat):Ls:=db.getD i ⟨0,0,[]⟩
theorem YA (es:List En) (i:Nat):Aa .en es i=en es i:=by
  induction es generalizing i with
  |nil=>rfl
  |cons z r ih=>cases i with
   |zero=>rfl
   |succ i=>exact (ih i).trans (by simp [en])
theorem Tg (es:List Ls) (i:Nat):Aa .ls es i=Ib es i:=by
  induction es generalizing i with
  |nil=>rfl
  |cons z r ih=>cases i with
   |zero=>rfl
   |succ i=>exact (ih i).trans (by simp [Ib])
theorem Rj {es:List En} {i:Nat} (h:i<es.length):en es i=es[i]:=by simp [en,h]
theorem Ld {es:List Ls} {i:Nat} (h:i<es.length):Ib es i=es[i]:=by simp [Ib,h]
def Sj (o:Int) (es:List En) (i:Nat):Prop:=0≤(en es i).n∧(en es i).n≤7∧(en es i).n≠o∧1≤(en es i).c∧(en es i).c≤20∧(0<i→(en es (i-1)).n<(en es i).n)
instance (o:Int) (es:List En) (i:Nat):Decidable (Sj o es i):=by unfold Sj;infer_instance
def Gf (l:Ls):Prop:=0≤l.o∧l.o≤7∧1≤l.s∧l.s≤99∧∀i,i<l.e.length→Sj l.o l.e i
instance (l:Ls):Decidable (Gf l):=by unfold Gf;infer_instance
def Li (o s:Int) (es:List En):Bool:=decide (Gf ⟨o,s,es⟩)
theorem gZ {o s:Int} {es:List En} (h:¬Gf ⟨o,s,es⟩):Li o s es=false:=dF h
theorem zDQ (o s:Int) (es:List En) (hl:Bb es):DO (o,s,es,())=some (Li o s es,()):=by
  unfold DO
  simp only [Fm,Option.bind_some,Ta]
  cases h1:Db o 0 7 with
  |false=>simp;exact gZ fun g=>Bi h1 ⟨g.1,g.2.1⟩
  |true =>
  cases h2:Db s 1 99 with
  |false=>simp;exact gZ fun g=>Bi h2 ⟨g.2.2.1,g.2.2.2.1⟩
  |true =>
  have h1:=He h1
  have h2:=He h2
  simp only [Bool.not_true,cond_false]
  refine Ba.out (Ba.bnd (R:=fun r=>match r with| .inl _=>Li o s es=true| .inr y=>y.1=false∧Li o s es=false) ?_ ?_)
  ·refine Ba.count es.length (fun k t=>t=(es,(es.length:Int),(k:Int),o,s,es,())∧∀i,i<k→Sj o es i) ?_ (Nat.zero_le _) (Jb (by omega)) ⟨rfl,fun i hi=>by omega⟩
   rintro k t hk ⟨rfl,hok⟩
   simp (disch:=omega) only [CO,YA,Wa,WA,Na,Fm,Option.bind_some]
   repeat' (first
     |refine Ba.some ?_
     |fail
     |(refine Ba.gd (by first|exact Ia (by omega) (by omega)|(simp (disch:=omega) only [Na];exact Ia (by omega) (by omega))) ?_)
     |(refine Ba.ite (fun h=>?_) (fun h=>?_)<;>try simp only [decide_eq_true_eq,decide_eq_false_iff_not,Bool.not_eq_true',Bool.not_eq_false',Hh,Ih,Bool.and_eq_true,Bool.or_eq_true,Bool.and_eq_false_iff,Bool.or_eq_false_iff,El] at h))
   all_goals try dsimp only
   all_goals first
     |(refine ⟨rfl,dF fun g=>?_⟩
       have:=g.2.2.2.2 k (by dsimp only;omega)
       unfold Sj at this
       dsimp only at this
       omega)
     |(refine ⟨by omega,rfl,fun i hi=>?_⟩
       by_cases e:i<k
       ·exact hok i e
       ·obtain rfl:i=k:=by omega
        unfold Sj
        omega)
     |exact decide_eq_true ⟨h1.1,h1.2,h2.1,h2.2,fun i hi=>hok i (by dsimp only at hi;omega)⟩
  ·rintro (r|r) hr
   ·have hr:Li o s es=true:=hr
    exact .some (by first | rw [hr] | exact Prod.ext hr rfl)
   ·obtain ⟨b,u⟩:=r
    have hr:b=false∧Li o s es=false:=hr
    exact .some (by first | rw [hr.1,hr.2] | exact Prod.ext hr.1 (Prod.ext hr.2 rfl))
theorem hI (o s:Int) (es:List En) (hl:Bb es):KE (o,s,es,())=some (Li o s es,()):=by
  unfold KE
  refine Ba.out (Ba.bnd (R:=fun r=>match r with| .inl x=>x=(o,s,es,())∧∀i,i<es.length→Sj o es i| .inr y=>y.1=false∧Li o s es=false) ?_ ?_)
  ·refine Ba.count es.length (fun k t=>t=((k:Int),o,s,es,())∧∀i,i<k→Sj o es i) ?_ (Nat.zero_le _) (Jb (by omega)) ⟨rfl,fun i hi=>by omega⟩
   rintro k t hk ⟨rfl,hok⟩
   simp (disch:=omega) only [ZN,YA,Wa,WA,Na,Ta,Uk,Option.bind_some]
   repeat' (first
     |refine Ba.some ?_
     |fail
     |(refine Ba.gd (by first|exact Ia (by omega) (by omega)|(simp (disch:=omega) only [Na];exact Ia (by omega) (by omega))) ?_)
     |(refine Ba.ite (fun h=>?_) (fun h=>?_)<;>try simp only [decide_eq_true_eq,decide_eq_false_iff_not,Bool.not_eq_true',Bool.not_eq_false',Hh,Ih,Bool.and_eq_true,Bool.or_eq_true,Bool.and_eq_false_iff,Bool.or_eq_false_iff,El] at h))
   all_goals try dsimp only
   all_goals first
     |(refine ⟨rfl,dF fun g=>?_⟩
       have:=g.2.2.2.2 k (by dsimp only;omega)
       unfold Sj at this
       dsimp only at this
       omega)
     |(refine ⟨by omega,rfl,fun i hi=>?_⟩
       by_cases e:i<k
       ·exact hok i e
       ·obtain rfl:i=k:=by omega
        unfold Sj
        omega)
     |exact ⟨rfl,fun i hi=>hok i (by omega)⟩
  ·rintro (r|r) hr
   ·have hr:r=(o,s,es,())∧∀i,i<es.length→Sj o es i:=hr
    obtain ⟨rfl,hq⟩:=hr
    simp only [Uk,Option.bind_some]
    cases h1:Db o 0 7 with
    |false=>exact .some (by rw [show Li o s es=false from dF fun g=>Bi h1 ⟨g.1,g.2.1⟩])
    |true =>
     cases h2:Db s 1 99 with
     |false=>exact .some (by rw [show Li o s es=false from dF fun g=>Bi h2 ⟨g.2.2.1,g.2.2.2.1⟩])
     |true =>
      have h1:=He h1
      have h2:=He h2
      exact .some (by rw [show Li o s es=true from decide_eq_true ⟨h1.1,h1.2,h2.1,h2.2,hq⟩])
   ·obtain ⟨b,u⟩:=r
    have hr:b=false∧Li o s es=false:=hr
    exact .some (by first | rw [hr.1,hr.2] | exact Prod.ext hr.1 (Prod.ext hr.2 rfl))
def Md (db:List Ls):Prop:=∀i,i<db.length→Gf (Ib db i)∧(0<i→(Ib db (i-1)).o<(Ib db i).o)
instance (db:List Ls):Decidable (Md db):=by unfold Md;infer_instance
def Sh (db:List Ls):Bool:=decide (Md db)
theorem zDL (db:List Ls) (hl:Bb db) (he:∀l∈db,Bb l.e):EO (db,())=some (Sh db,()):=by
  unfold EO
  refine Ba.out (Ba.bnd (R:=fun r=>match r with| .inl _=>Sh db=true| .inr y=>y.1=false∧Sh db=false) ?_ ?_)
  ·refine Ba.count db.length (fun k t=>t=(db,db,(db.length:Int),(k:Int),())∧∀i,i<k→Gf (Ib db i)∧(0<i→(Ib db (i-1)).o<(Ib db i).o)) ?_ (Nat.zero_le _) (Jb (by omega)) ⟨by simp [Ta],fun i hi=>by omega⟩
   rintro k t hk ⟨rfl,hok⟩
   by_cases hlt:k<db.length
   ·have hf:Bb (Ib db k).e:=he _ (by rw [Ld hlt];exact List.getElem_mem hlt)
    simp (disch:=omega) only [LE,Tg,Wa,WA,Na,zDQ _ _ _ hf,Option.bind_some]
    repeat' (first
      |refine Ba.some ?_
      |fail
      |(refine Ba.gd (by first|exact Ia (by omega) (by omega)|(simp (disch:=omega) only [Na];exact Ia (by omega) (by omega))) ?_)
      |(refine Ba.ite (fun h=>?_) (fun h=>?_)<;>try simp only [decide_eq_true_eq,decide_eq_false_iff_not,Bool.not_eq_true',Bool.not_eq_false',Hh,Ih,Bool.and_eq_true,Bool.or_eq_true,Bool.and_eq_false_iff,Bool.or_eq_false_iff,El] at h))
    all_goals try dsimp only
    all_goals first
      |(refine ⟨rfl,dF fun g=>?_⟩
        have:=g k hlt
        first|exact oF (by assumption) this.1|omega)
      |(refine ⟨by omega,rfl,fun i hi=>?_⟩
        by_cases e:i<k
        ·exact hok i e
        ·obtain rfl:i=k:=by omega
         exact ⟨oT (by assumption),fun _=>by omega⟩)
      |omega
   ·obtain rfl:k=db.length:=by omega
    unfold LE
    simp only [dF (show ¬(db.length:Int)<db.length by omega),cond_false]
    exact .some (decide_eq_true hok)
  ·rintro (r|r) hr
   ·have hr:Sh db=true:=hr
    exact .some (by first | rw [hr] | exact Prod.ext hr rfl)
   ·obtain ⟨b,u⟩:=r
    have hr:b=false∧Sh db=false:=hr
    exact .some (by first | rw [hr.1,hr.2] | exact Prod.ext hr.1 (Prod.ext hr.2 rfl))
def fd (db:List Ls) (o:Int):Option Ls:=db.find? fun l=>decide (l.o=o)
def ec (es:List En) (b:Int):Int:=match es.find? (fun e=>decide (e.n=b)) with|some e=>e.c|none=>0
def Th (db:List Ls) (a b:Int):Int:=match fd db a with|some l=>ec l.e b|none=>0
theorem AR {α:Type} {p:α→Bool} {l:List α} {k:Nat} (hk:k<l.length) (h:p l[k]=true) (hn:∀i (hi:i<l.length),i<k→p l[i]=false):l.find? p=some l[k]:=by
  rw [List.find?_eq_some_iff_getElem]
  exact ⟨h,k,hk,rfl,fun j hj=>by simp [hn j (by omega) hj]⟩
theorem BR {α:Type} {p:α→Bool} {l:List α} (hn:∀i (hi:i<l.length),p l[i]=false):l.find? p=none:=by
  rw [List.find?_eq_none]
  intro x hx
  obtain ⟨i,hi,rfl⟩:=List.getElem_of_mem hx
  simp [hn i hi]
theorem F4 (db:List Ls) (o:Int) (hl:Bb db):Bz (db,o,())=some (match fd db o with|some l=>(l.o,l.s,l.e,true,())|none=>(0,0,[],false,())):=by
  unfold Bz
  refine Ba.out (Ba.bnd (R:=fun r=>match r with| .inl _=>fd db o=none| .inr y=>∃l,fd db o=some l∧y=(true,l.o,l.s,l.e,())) ?_ ?_)
  ·refine Ba.count db.length (fun k t=>t=(db,o,(k:Int),0,0,[],())∧∀i,i<k→(Ib db i).o≠o) ?_ (Nat.zero_le _) (Jb (by omega)) ⟨rfl,fun i hi=>by omega⟩
   rintro k t hk ⟨rfl,hok⟩
   simp (disch:=omega) only [YN,Tg,Wa,Na,Ta]
   repeat' (first
     |refine Ba.some ?_
     |fail
     |(refine Ba.gd (by first|exact Ia (by omega) (by omega)|(simp (disch:=omega) only [Na];exact Ia (by omega) (by omega))) ?_)
     |(refine Ba.ite (fun h=>?_) (fun h=>?_)<;>try simp only [decide_eq_true_eq,decide_eq_false_iff_not,Bool.not_eq_true',Bool.not_eq_false',Hh,Ih,Bool.and_eq_true,Bool.or_eq_true,Bool.and_eq_false_iff,Bool.or_eq_false_iff,El] at h))
   all_goals try dsimp only
   ·have hlt:k<db.length:=by omega
    refine ⟨Ib db k,?_,rfl⟩
    unfold fd
    rw [Ld hlt]
    exact AR hlt (decide_eq_true (by rw [←Ld hlt];assumption)) fun i hi hik=>dF (by rw [←Ld hi];exact hok i hik)
   ·refine ⟨by omega,rfl,fun i hi=>?_⟩
    by_cases e:i<k
    ·exact hok i e
    ·obtain rfl:i=k:=by omega
     assumption
   ·exact BR fun i hi=>dF (by rw [←Ld hi];exact hok i (by omega))
  ·rintro (r|r) hr
   ·have hr:fd db o=none:=hr
    exact .some (by first | rw [hr] | exact Prod.ext hr rfl)
   ·obtain ⟨l,h1,rfl⟩:=hr
    exact .some (by rw [h1])
theorem zE7 (db:List Ls) (a b:Int) (hl:Bb db) (he:∀l∈db,Bb l.e):TE (db,a,b,())=some (Th db a b,()):=by
  unfold TE
  simp only [F4 db a hl,Option.bind_some]
  have loop:∀(x y:Int) (es:List En),Bb es→Ba (lp SE Ea (b,0,x,y,es,())) fun r=>match r with| .inl _=>ec es b=0| .inr z=>z.1=ec es b:=fun x y es hf=>by
    refine Ba.count es.length (fun k t=>t=(b,(k:Int),x,y,es,())∧∀i,i<k→(en es i).n≠b) ?_ (Nat.zero_le _) (Jb (by omega)) ⟨rfl,fun i hi=>by omega⟩
    rintro k t hk ⟨rfl,hok⟩
    simp (disch:=omega) only [SE,YA,Wa,Na,Ta]
    repeat' (first
      |refine Ba.some ?_
      |fail
      |(refine Ba.gd (by first|exact Ia (by omega) (by omega)|(simp (disch:=omega) only [Na];exact Ia (by omega) (by omega))) ?_)
      |(refine Ba.ite (fun h=>?_) (fun h=>?_)<;>try simp only [decide_eq_true_eq,decide_eq_false_iff_not,Bool.not_eq_true',Bool.not_eq_false',Hh,Ih,Bool.and_eq_true,Bool.or_eq_true,Bool.and_eq_false_iff,Bool.or_eq_false_iff,El] at h))
    all_goals try dsimp only
    ·have hlt:k<es.length:=by omega
     unfold ec
     rw [AR (k:=k) hlt (decide_eq_true (by rw [←Rj hlt];assumption)) fun i hi hik=>dF (by rw [←Rj hi];exact hok i hik),Rj hlt]
    ·refine ⟨by omega,rfl,fun i hi=>?_⟩
     by_cases e:i<k
     ·exact hok i e
     ·obtain rfl:i=k:=by omega
      assumption
    ·unfold ec
     rw [BR (p:=fun e:En=>decide (e.n=b)) (l:=es) fun i hi=>dF (by rw [←Rj hi];exact hok i (by omega))]
  unfold Th
  cases h:fd db a with
  |none =>
   refine Ba.out (Ba.bnd (loop 0 0 [] (by simp)) ?_)
   rintro (r|r) hr
   ·exact .some rfl
   ·obtain ⟨z,u⟩:=r
    have hr:z=ec [] b:=hr
    exact .some (by rw [hr];rfl)
  |some l =>
   have hm:l∈db:=List.mem_of_find?_eq_some h
   refine Ba.out (Ba.bnd (loop l.o l.s l.e (he l hm)) ?_)
   rintro (r|r) hr
   ·have hr:ec l.e b=0:=hr
    exact .some (by dsimp only;rw [hr])
   ·obtain ⟨z,u⟩:=r
    have hr:z=ec l.e b:=hr
    exact .some (by first | rw [hr] | exact Prod.ext hr rfl)
end
section
open Go.RowKit
theorem yAa {i j:Nat} (h:i+j≤4611686018427387904):wrap64 (Gl .u64 (Qd .u64 (wrap64 ((i:Int)+(j:Int)))) 1)=(((i+j) / 2:Nat):Int):=by
  rw [Na (x:=(i:Int)+j) (by omega) (by omega)]
  have e:Qd .u64 ((i:Int)+j)=(i:Int)+j:=by
    simp [Qd,IntKind.wrap,IntKind.signed,IntKind.bits]
    omega
  rw [e]
  unfold Gl
  rw [show (1:Int).toNat=1 from rfl,show min 1 (IntKind.bits .u64)=1 from rfl]
  rw [Int.fdiv_eq_ediv_of_nonneg _ (by decide)]
  rw [Na (by omega) (by omega)]
  omega
def ZA (db:List Ls) (o:Int) (i:Nat):Prop:=i≤db.length∧(∀x,x<i→(Ib db x).o<o)∧∀x,i≤x→x<db.length→o≤(Ib db x).o
def Tj (db:List Ls) (o:Int) (i:Nat):Bool:=decide (i<db.length∧(Ib db i).o=o)
def Vk (db:List Ls):Prop:=∀i j,i<j→j<db.length→(Ib db i).o<(Ib db j).o
theorem Md.srt {db:List Ls} (h:Md db):Vk db:=by
  have step:∀d i,i+d+1<db.length→(Ib db i).o<(Ib db (i+d+1)).o:=fun d=>by
    induction d with
    |zero=>intro i hi;exact (h (i+1) hi).2 (by omega)
    |succ d ih =>
     intro i hi
     have h1:=ih i (by omega)
     have h2:=(h (i+(d+1)+1) hi).2 (by omega)
     rw [Nat.add_sub_cancel] at h2
     rw [show i+(d+1)=i+d+1 by omega] at h2 ⊢
     omega
  intro i j hij hj
  have:=step (j-i-1) i (by omega)
  rwa [show i+(j-i-1)+1=j by omega] at this
theorem hJ (a b:Int):JE (a,b,())=some (if a<b then -1 else if b<a then 1 else 0,()):=by
  have e:∀x:Int,IE (x,())=some (false,()):=fun x=>by simp [IE]
  unfold JE
  simp only [e,Option.bind_some,cond_false]
  by_cases h1:a<b
  ·simp [h1]
  ·by_cases h2:b<a<;>simp [h1,h2]
theorem hO (db:List Ls) (o:Int) (hs:Vk db) (hl:db.length≤2000000000):∃i:Nat,ZA db o i∧Cz (db,o,())=some ((i:Int),Tj db o i,()):=by
  have hmono:∀i j,i≤j→j<db.length→(Ib db i).o≤(Ib db j).o:=fun i j hij hj=>by
    rcases Nat.eq_or_lt_of_le hij with e|e
    ·subst e;exact Int.le_refl _
    ·have:=hs i j e hj;omega
  have key:Ba (Cz (db,o,())) fun r=>∃i:Nat,ZA db o i∧r=((i:Int),Tj db o i,()):=by
    unfold Cz MX
    refine Ba.bnd (R:=fun r=>∃i:Nat,ZA db o i∧r=((i:Int),Tj db o i,())) (Ba.bnd (R:=fun r=>match r with| .inl x=>∃i:Nat,ZA db o i∧x=(db,o,(db.length:Int),(i:Int),())| .inr _=>False) ?_ ?_) ?_
    ·refine Ba.loop (fun s=>∃i j:Nat,s=(db,o,(db.length:Int),(i:Int),(j:Int),())∧i≤j∧j≤db.length∧(∀x,x<i→(Ib db x).o<o)∧∀x,j≤x→x<db.length→o≤(Ib db x).o) (fun s=>(s.2.2.2.2.1-s.2.2.2.1).toNat) ?_ Ea _ ?_ ?_
     ·rintro _ ⟨i,j,rfl,hij,hj,h1,h2⟩
      simp only [HO,yAa (show i+j≤4611686018427387904 by omega),Tg,Wa,NE,hJ,Option.bind_some]
      refine Ba.ite (fun hlt=>?_) (fun hlt=>?_)
      ·have hlt:=oT hlt
       have hm:(i+j) / 2<j∧i≤(i+j) / 2:=by omega
       generalize (i+j) / 2=m at *
       refine Ba.gd (Ia (by omega) (by omega)) (Ba.ite (fun hc=>?_) (fun hc=>?_))
       ·have hc:=oT hc
        have hc:(Ib db m).o<o:=by
          by_cases h:(Ib db m).o<o
          ·exact h
          ·rw [if_neg h] at hc
           split at hc<;>omega
        rw [Na (by omega) (by omega)]
        refine .some ⟨⟨m+1,j,rfl,by omega,hj,fun x hx=>?_,h2⟩,by dsimp only;omega⟩
        have:=hmono x m (by omega) (by omega)
        omega
       ·have hc:=oF hc
        have hc:o≤(Ib db m).o:=by
          by_cases h:(Ib db m).o<o
          ·rw [if_pos h] at hc;omega
          ·omega
        refine .some ⟨⟨i,m,rfl,by omega,by omega,h1,fun x hx hxl=>?_⟩,by dsimp only;omega⟩
        have:=hmono m x hx hxl
        omega
      ·have hlt:=oF hlt
       obtain rfl:i=j:=by omega
       exact .some ⟨i,⟨hj,h1,h2⟩,rfl⟩
     ·rw [Ta];dsimp only;unfold Ea;omega
     ·exact ⟨0,db.length,by rw [Ta];rfl,by omega,by omega,fun x hx=>by omega,fun x hx hxl=>by omega⟩
    ·rintro (r|r) hr
     case inr=>exact hr.elim
     obtain ⟨i,hi,rfl⟩:=hr
     simp only [Tg,Wa,NE,hJ,Option.bind_some]
     refine Ba.ite (fun hlt=>?_) (fun hlt=>?_)
     ·have hlt:=oT hlt
      refine Ba.gd (Ia (by omega) (by omega)) (.some ⟨i,hi,?_⟩)
      have hge:=hi.2.2 i (Nat.le_refl _) (by omega)
      unfold Tj
      by_cases h:(Ib db i).o=o
      ·rw [decide_eq_true (show i<db.length∧(Ib db i).o=o from ⟨by omega,h⟩),h,if_neg (by omega),if_neg (by omega)];rfl
      ·rw [dF (show ¬(i<db.length∧(Ib db i).o=o) from fun g=>h g.2),if_neg (by omega),if_pos (by omega)];rfl
     ·have hlt:=oF hlt
      refine .some ⟨i,hi,?_⟩
      unfold Tj
      rw [dF (show ¬(i<db.length∧(Ib db i).o=o) from fun g=>by omega)]
    ·rintro _ ⟨i,hi,rfl⟩
     exact .some ⟨i,hi,rfl⟩
  obtain ⟨r,h1,i,h2,h3⟩:=key
  exact ⟨i,h2,by rw [h1,h3]⟩
theorem hU {db:List Ls} {o:Int} {i:Nat} (hs:Vk db) (h:ZA db o i):fd db o=if Tj db o i then some (Ib db i) else none:=by
  unfold Tj
  by_cases hc:i<db.length∧(Ib db i).o=o
  ·rw [decide_eq_true hc,if_pos rfl]
   unfold fd
   rw [Ld hc.1]
   exact AR hc.1 (decide_eq_true (by rw [←Ld hc.1];exact hc.2)) fun x hx hxi=>dF (by rw [←Ld hx];have:=h.2.1 x hxi;omega)
  ·rw [dF hc]
   unfold fd
   refine BR (p:=fun l:Ls=>decide (l.o=o)) (l:=db) fun x hx=>dF ?_
   rw [←Ld hx]
   rcases Nat.lt_or_ge x i with h1|h1
   ·have:=h.2.1 x h1;omega
   ·intro e
    have h2:=h.2.2 x h1 hx
    have h3:=h.2.2 i (Nat.le_refl _) (by omega)
    rcases Nat.eq_or_lt_of_le h1 with e2|e2
    ·subst e2;exact hc ⟨hx,e⟩
    ·have:=hs i x e2 hx;omega
end
section
open Go.RowKit
theorem CR:∀{l l':List Int},l.Pairwise (·<·)→l'.Pairwise (·<·)→(∀x,x∈l↔x∈l')→l=l'
  |[],[],_,_,_=>rfl
  |[],y::s,_,_,h=>by have:=(h y).2 (List.mem_cons_self ..);simp at this
  |x::r,[],_,_,h=>by have:=(h x).1 (List.mem_cons_self ..);simp at this
  |x::r,y::s,h1,h2,h=>by
   have h1:=List.pairwise_cons.1 h1
   have h2:=List.pairwise_cons.1 h2
   have e:x=y:=by
     rcases List.mem_cons.1 ((h x).1 (List.mem_cons_self ..)) with e|hx
     ·exact e
     ·rcases List.mem_cons.1 ((h y).2 (List.mem_cons_self ..)) with e|hy
      ·exact e.symm
      ·have q1:=h1.1 y hy
       have q2:=h2.1 x hx
       omega
   subst e
   have:r=s:=CR h1.2 h2.2 fun z=>by
     constructor
     ·intro hz
      rcases List.mem_cons.1 ((h z).1 (List.mem_cons_of_mem _ hz)) with e|hz'
      ·subst e;have:=h1.1 z hz;omega
      ·exact hz'
     ·intro hz
      rcases List.mem_cons.1 ((h z).2 (List.mem_cons_of_mem _ hz)) with e|hz'
      ·subst e;have:=h2.1 z hz;omega
      ·exact hz'
   rw [this]
theorem yAb {x:Int} {l:List Int}:x∈Rg l↔x∈l:=List.mem_mergeSort
theorem yAc {l:List Int} (h:l.Pairwise (·≠·)):(Rg l).Pairwise (·<·):=by
  have h1:(Rg l).Pairwise (fun a b=>decide (a≤b)=true):=List.pairwise_mergeSort (fun a b c h1 h2=>decide_eq_true (by have:=oT h1;have:=oT h2;omega)) (fun a b=>by simp;omega) l
  have h2:(Rg l).Nodup:=(List.mergeSort_perm l _).nodup_iff.2 h
  refine List.Pairwise.imp ?_ (List.Pairwise.and h1 h2)
  rintro a b ⟨q1,q2⟩
  have:=oT q1
  omega
theorem QJ (ls:List Lk) (m:Int) (k:Nat):(Hc ls m k).Pairwise (·<·):=by
  unfold Hc
  rw [List.pairwise_map]
  refine List.Pairwise.imp ?_ (List.Pairwise.filter _ (List.pairwise_lt_range (n:=k)))
  intro a b h
  omega
theorem Bj {ls:List Lk} {m x:Int} {k:Nat}:x∈Hc ls m k↔∃j:Nat,j<k∧x=j∧(lc ls m j).isSome=true:=by
  unfold Hc
  rw [List.mem_map]
  constructor
  ·rintro ⟨j,hj,rfl⟩
   obtain ⟨h1,h2⟩:=List.mem_filter.1 hj
   exact ⟨j,List.mem_range.1 h1,rfl,by rw [KD];exact h2⟩
  ·rintro ⟨j,h1,rfl,h2⟩
   rw [KD] at h2
   exact ⟨j,List.mem_filter.2 ⟨List.mem_range.2 h1,h2⟩,rfl⟩
section
variable {N:Nat} {ls:List Lk}
theorem yAd (g:GV N ls) {m:Int} {x:Int}:x∈Qg ls m ls.length↔(lc ls m x).isSome=true:=by
  unfold Qg
  rw [List.mem_map,List.take_of_length_le (Nat.le_refl _)]
  constructor
  ·rintro ⟨l,hl,rfl⟩
   obtain ⟨h1,h2⟩:=List.mem_filter.1 hl
   have ho:=g.ok h1
   unfold Lg at ho
   have h2:m=l.a∨m=l.b:=oT h2
   unfold Ar
   by_cases e:m=l.a
   ·rw [if_pos e,e,BW g.pw h1 (by omega)];rfl
   ·have e2:=h2.resolve_left e
    rw [if_neg e,if_pos e2,e2,JD,BW g.pw h1 (by omega)];rfl
  ·intro h
   obtain ⟨c,hc⟩:=Option.isSome_iff_exists.1 h
   have hm:=Cr hc
   have ho:=g.ok hm
   unfold Lg at ho
   dsimp only at ho
   refine ⟨_,List.mem_filter.2 ⟨hm,decide_eq_true (by dsimp only;omega)⟩,?_⟩
   unfold Ar
   dsimp only
   split
   ·omega
   ·rw [if_pos (by omega)];omega
theorem yAe (g:GV N ls) (m:Int):(Qg ls m ls.length).Pairwise (·≠·):=by
  unfold Qg
  rw [List.take_of_length_le (Nat.le_refl _),List.pairwise_map]
  refine List.Pairwise.imp_of_mem ?_ (List.Pairwise.filter _ g.pw)
  intro a b ha hb hab
  obtain ⟨ha,ea⟩:=List.mem_filter.1 ha
  obtain ⟨hb,eb⟩:=List.mem_filter.1 hb
  have oa:=g.ok ha
  have ob:=g.ok hb
  have ea:m=a.a∨m=a.b:=oT ea
  have eb:m=b.a∨m=b.b:=oT eb
  unfold Lg at oa ob
  unfold Se at hab
  unfold Ar
  split<;>split<;>(try split)<;>(try split)<;>omega
theorem RJ (g:GV N ls) {m x:Int} (h:(lc ls m x).isSome=true):0≤x∧x<N∧0≤m∧m<N∧x≠m:=by
  obtain ⟨c,hc⟩:=Option.isSome_iff_exists.1 h
  have ho:=g.ok (Cr hc)
  unfold Lg at ho
  dsimp only at ho
  omega
theorem G4 (g:GV N ls) (m:Int):Rg (Qg ls m ls.length)=Hc ls m N:=by
  refine CR (yAc (yAe g m)) (QJ ls m N) fun x=>?_
  rw [yAb,yAd g,Bj]
  constructor
  ·intro h
   have:=RJ g h
   exact ⟨x.toNat,by omega,by omega,by rw [show ((x.toNat:Nat):Int)=x by omega];exact h⟩
  ·rintro ⟨j,_,rfl,h⟩;exact h
def Oc (ls:List Lk) (N:Nat) (o:Int):List En:=(Hc ls o N).map fun n=>⟨n,(lc ls o n).getD 0⟩
theorem hY (g:GV N ls) (o s:Int):Dz ((N:Int),ls,o,s,())=some (o,s,Oc ls N o,()):=by
  have h8:=g.2.1
  have fl:Bb ls:=(show Bb ls by have:=g.2.2.1;unfold Bb;omega)
  unfold Dz
  simp only [E4 (N:Int) ls o (by have:=g.2.2.1;omega),G4 g o,Option.bind_some,Ta]
  have hlen:=Br ls o N
  have hmem:∀x∈Hc ls o N,∃c,lc ls o x=some c:=fun x hx=>by
    obtain ⟨j,_,rfl,h⟩:=Bj.1 hx
    exact Option.isSome_iff_exists.1 h
  unfold Oc
  generalize Hc ls o N=nb at *
  refine Ba.out (Ba.bnd (R:=fun r=>match r with| .inl x=>x=(0,0,o,s,[],nb.map fun n=>⟨n,(lc ls o n).getD 0⟩,())| .inr _=>False) ?_ ?_)
  ·refine Ba.count nb.length (fun k t=>t=(o,(nb.length:Int),(k:Int),(N:Int),ls,0,0,o,s,nb,[],(nb.take k).map (fun n=>(⟨n,(lc ls o n).getD 0⟩:En)),())) ?_ (Nat.zero_le _) (Jb (by omega)) (by simp)
   rintro k t hk rfl
   by_cases hlt:k<nb.length
   ·obtain ⟨c,hc⟩:=hmem (iz nb k) (List.mem_of_getElem? (Yg hlt))
    obtain ⟨h1,h2,h3⟩:=Gp hc
    simp (disch:=omega) only [QE,Tc,Ff,Wa,Na,D4 _ _ _ _ fl,Option.bind_some,List.length_singleton,List.length_map]
    refine Ba.gd (decide_eq_true (by omega)) (Ba.gd (Ia (by omega) (by omega)) (Ba.gd (Ia h1 h2) (Ba.gd (decide_eq_true (by simp;omega)) (.some ⟨hlt,?_⟩))))
    rw [h3,List.take_add_one,Yg hlt]
    simp [hc]
   ·obtain rfl:k=nb.length:=by omega
    unfold QE
    simp only [dF (show ¬(nb.length:Int)<nb.length by omega),cond_false,List.take_length]
    exact .some rfl
  ·rintro (r|r) hr
   case inr=>exact hr.elim
   obtain rfl:=hr
   exact .some rfl
theorem iA (o:Int):(Oc ls N o).length≤N:=by unfold Oc;rw [List.length_map];exact Br ls o N
theorem iB (g:GV N ls) (o s:Int):Ms ((N:Int),ls,o,s,())=some (o,s,Oc ls N o,()):=by
  have h8:=g.2.1
  have fl:Bb ls:=(show Bb ls by have:=g.2.2.1;unfold Bb;omega)
  unfold Ms
  refine Ba.out (Ba.bnd (R:=fun r=>match r with| .inl x=>x=(0,0,[],o,s,Oc ls N o,())| .inr _=>False) ?_ ?_)
  ·refine Ba.count N (fun k t=>t=(o,(k:Int),(N:Int),ls,0,0,[],o,s,(Hc ls o k).map (fun n=>(⟨n,(lc ls o n).getD 0⟩:En)),())) ?_ (Nat.zero_le _) (Jb (by omega)) (by simp [Hc])
   rintro k t hk rfl
   have hlen:=Br ls o k
   simp (disch:=omega) only [BO,Ff,Wa,Na,OJ _ _ _ _ fl,Option.bind_some,List.length_singleton,List.length_map]
   refine Ba.ite (fun hlt=>?_) (fun hlt=>?_)
   ·have hlt:=oT hlt
    cases hc:lc ls o k with
    |none =>
     refine Ba.no (by rw [cZ hc];rfl) (.some ⟨by omega,?_⟩)
     rw [YV,if_neg (by rw [cZ hc];omega)]
     rfl
    |some c =>
     obtain ⟨h1,h2,h3⟩:=Gp hc
     refine Ba.gd (decide_eq_true h1) (Ba.gd (Ia h1 h2) (Ba.gd (decide_eq_true (by omega)) (.some ⟨by omega,?_⟩)))
     rw [YV,if_pos h1,h3]
     simp [hc]
   ·have hlt:=oF hlt
    obtain rfl:k=N:=by omega
    exact .some rfl
  ·rintro (r|r) hr
   case inr=>exact hr.elim
   obtain rfl:=hr
   exact .some rfl
end
end
section
open Go.RowKit
theorem zDZ (db:List Ls) (a b:Int) (hs:Vk db) (hl:db.length≤2000000000) (he:∀l∈db,Bb l.e):OE (db,a,b,())=some (Th db a b,()):=by
  obtain ⟨i,hi,e⟩:=hO db a hs hl
  unfold OE
  rw [e]
  dsimp only [Option.bind_some]
  unfold Th
  rw [hU hs hi]
  refine Ba.out ?_
  rcases lT (Tj db a i) with h|h
  ·refine Ba.gd (by rw [h];rfl) ?_
   rw [h]
   exact .some rfl
  ·refine Ba.no (by rw [h];rfl) ?_
   have hh:=oT h
   refine Ba.gd (Ia (by omega) (by omega)) ?_
   rw [if_pos h,Tg,Wa,Ta]
   dsimp only
   have hf:Bb (Ib db i).e:=he _ (by rw [Ld hh.1];exact List.getElem_mem hh.1)
   generalize (Ib db i).e=es at *
   refine Ba.bnd (R:=fun r=>match r with| .inl _=>ec es b=0| .inr z=>z.1=ec es b) ?_ ?_
   ·refine Ba.count es.length (fun k t=>t=(b,es,(es.length:Int),(k:Int),())∧∀i,i<k→(en es i).n≠b) ?_ (Nat.zero_le _) (Jb (by omega)) ⟨rfl,fun i hi=>by omega⟩
    rintro k t hk ⟨rfl,hok⟩
    simp (disch:=omega) only [z6,YA,Wa,Na,Ta]
    repeat' (first
      |refine Ba.some ?_
      |fail
      |(refine Ba.gd (by first|exact Ia (by omega) (by omega)|(simp (disch:=omega) only [Na];exact Ia (by omega) (by omega))) ?_)
      |(refine Ba.ite (fun h=>?_) (fun h=>?_)<;>try simp only [decide_eq_true_eq,decide_eq_false_iff_not,Bool.not_eq_true',Bool.not_eq_false',Hh,Ih,Bool.and_eq_true,Bool.or_eq_true,Bool.and_eq_false_iff,Bool.or_eq_false_iff,El] at h))
    all_goals try dsimp only
    ·have hlt:k<es.length:=by omega
     unfold ec
     rw [AR (k:=k) hlt (decide_eq_true (by rw [←Rj hlt];assumption)) fun i hi hik=>dF (by rw [←Rj hi];exact hok i hik),Rj hlt]
    ·refine ⟨by omega,rfl,fun i hi=>?_⟩
     by_cases e:i<k
     ·exact hok i e
     ·obtain rfl:i=k:=by omega
      assumption
    ·unfold ec
     rw [BR (p:=fun e:En=>decide (e.n=b)) (l:=es) fun i hi=>dF (by rw [←Rj hi];exact hok i (by omega))]
   ·rintro (r|r) hr
    ·have hr:ec es b=0:=hr
     exact .some (by first | rw [hr] | exact Prod.ext hr rfl)
    ·obtain ⟨z,u⟩:=r
     have hr:z=ec es b:=hr
     exact .some (by first | rw [hr] | exact Prod.ext hr rfl)
def Id (db:List Ls) (a b:Nat):Option Int:=if 0<Th db a b∧0<Th db b a then some (max (Th db a b) (Th db b a)) else none
section
variable {db:List Ls} {N:Nat}
theorem iC {a b:Nat}:cell (Id db) a b=if 0<Th db a b∧0<Th db b a then [⟨a,b,max (Th db a b) (Th db b a)⟩] else []:=by
  unfold cell Id
  split<;>rename_i h
  ·split at h
   ·rename_i h2
    injection h with h
    rw [if_pos h2,←h]
   ·cases h
  ·split at h
   ·cases h
   ·rename_i h2
    rw [if_neg h2]
theorem zD8 (hl:Bb db) (he:∀l∈db,Bb l.e) (h8:N≤8) {n:Nat} (hn:n<N) (x4 x6:Int) (xl xo:List Lk) (ho:xo.length≤1000):Ba (lp UE Ea ((N:Int),db,(n:Int),wrap64 ((n:Int)+1),x4,xl,x6,xo,())) fun r=>match r with
      | .inl x=>x=((N:Int),db,(n:Int),x4,xl,x6,xo++Te (Id db) n (N-1-n),())
      | .inr _=>False:=by
  refine Ba.count (N-1-n) (fun k s=>s=((N:Int),db,(n:Int),((n+1+k:Nat):Int),x4,xl,x6,xo++Te (Id db) n k,())) ?_ (Nat.zero_le _) (Jb (by omega)) (by rw [Na (by omega) (by omega)];simp [Te])
  rintro k s hk rfl
  have hlen:=AW (Id db) n k
  have Hd:∀c:List Lk,cell (Id db) n (n+1+k)=c→k<N-1-n→((N:Int),db,(n:Int),wrap64 (((n+1+k:Nat):Int)+1),x4,xl,x6,(xo++Te (Id db) n k)++c,())=((N:Int),db,(n:Int),((n+1+(k+1):Nat):Int),x4,xl,x6,xo++Te (Id db) n (k+1),()):=fun c hc hk=>by
    rw [GD,hc,Na (by omega) (by omega),List.append_assoc]
    rfl
  simp only [UE,zE7 _ _ _ hl he,Option.bind_some,List.length_singleton,List.length_append]
  refine Ba.ite (fun hlt=>?_) (fun hlt=>?_)
  ·have hlt:=oT hlt
   have hkN:k<N-1-n:=by omega
   have hcell:=iC (db:=db) (a:=n) (b:=n+1+k)
   refine Ba.ite (fun h1=>Ba.ite (fun h2=>?_) (fun h2=>?_)) (fun h1=>?_)
   ·have h1:=oT h1
    have h2:=oT h2
    rw [if_pos ⟨h1,h2⟩] at hcell
    exact Ba.gd (decide_eq_true (by omega)) (.some ⟨hkN,Hd _ hcell hkN⟩)
   ·have h2:=oF h2
    rw [if_neg fun h=>h2 h.2] at hcell
    have:=Hd _ hcell hkN
    rw [List.append_nil] at this
    exact .some ⟨hkN,this⟩
   ·have h1:=oF h1
    rw [if_neg fun h=>h1 h.1] at hcell
    have:=Hd _ hcell hkN
    rw [List.append_nil] at this
    exact .some ⟨hkN,this⟩
  ·have hlt:=oF hlt
   obtain rfl:k=N-1-n:=by omega
   exact .some rfl
theorem iD {k:Nat} (h8:N≤8) (hk:k≤N):k*N≤64:=Nat.le_trans (Nat.mul_le_mul hk (Nat.le_refl N)) (Nat.le_trans (Nat.mul_le_mul h8 h8) (by omega))
theorem zE9 (hl:Bb db) (he:∀l∈db,Bb l.e) (h8:N≤8):OO ((N:Int),db,())=some ((N:Int),Cg (Id db) N,()):=by
  unfold OO
  refine Ba.out (Ba.bnd (R:=fun r=>match r with| .inl x=>x.2.2.1=(N:Int)∧x.2.2.2.1=Cg (Id db) N| .inr _=>False) ?_ ?_)
  ·refine Ba.count N (fun k s=>s=((N:Int),db,(k:Int),0,[],(N:Int),Ji (Id db) N k,())) ?_ (Nat.zero_le _) (Jb (by omega)) rfl
   rintro k s hk rfl
   have hlen:=cX (Id db) N k
   have hkN:=iD h8 hk
   unfold NO
   dsimp only
   refine Ba.ite (fun hlt=>?_) (fun hlt=>?_)
   ·have hlt:=oT hlt
    have hkl:k<N:=by omega
    refine Ba.bnd (zD8 hl he h8 hkl 0 (N:Int) [] _ (by omega)) ?_
    rintro (r|r) hr
    case inr=>exact hr.elim
    obtain rfl:=hr
    refine .some ⟨hkl,?_⟩
    dsimp only
    rw [HD,Na (by omega) (by omega)]
    rfl
   ·have hlt:=oF hlt
    obtain rfl:k=N:=by omega
    exact .some ⟨rfl,rfl⟩
  ·rintro (r|r) hr
   case inr=>exact hr.elim
   have hr:r.2.2.1=(N:Int)∧r.2.2.2.1=Cg (Id db) N:=hr
   exact .some (by first | rw [hr.1,hr.2] | exact Prod.ext hr.1 (Prod.ext hr.2 rfl))
theorem zD7 (hs:Vk db) (hl:db.length≤2000000000) (he:∀l∈db,Bb l.e) (h8:N≤8) {n:Nat} (hn:n<N) (x4 x6 x7:Int) (xl xo:List Lk) (ho:xo.length≤1000):Ba (lp RE Ea ((N:Int),db,(n:Int),wrap64 ((n:Int)+1),x4,(n:Int),x6,x7,xl,xo,())) fun r=>match r with
      | .inl x=>x=((N:Int),db,x4,(n:Int),x6,x7,xl,xo++Te (Id db) n (N-1-n),())
      | .inr _=>False:=by
  refine Ba.count (N-1-n) (fun k s=>s=((N:Int),db,(n:Int),((n+1+k:Nat):Int),x4,(n:Int),x6,x7,xl,xo++Te (Id db) n k,())) ?_ (Nat.zero_le _) (Jb (by omega)) (by rw [Na (by omega) (by omega)];simp [Te])
  rintro k s hk rfl
  have hlen:=AW (Id db) n k
  have Hd:∀c:List Lk,cell (Id db) n (n+1+k)=c→k<N-1-n→((N:Int),db,(n:Int),wrap64 (((n+1+k:Nat):Int)+1),x4,(n:Int),x6,x7,xl,(xo++Te (Id db) n k)++c,())=((N:Int),db,(n:Int),((n+1+(k+1):Nat):Int),x4,(n:Int),x6,x7,xl,xo++Te (Id db) n (k+1),()):=fun c hc hk=>by
    rw [GD,hc,Na (by omega) (by omega),List.append_assoc]
    rfl
  simp only [RE,zDZ _ _ _ hs hl he,Option.bind_some,List.length_singleton,List.length_append]
  refine Ba.ite (fun hlt=>?_) (fun hlt=>?_)
  ·have hlt:=oT hlt
   have hkN:k<N-1-n:=by omega
   have hcell:=iC (db:=db) (a:=n) (b:=n+1+k)
   refine Ba.ite (fun h1=>Ba.ite (fun h2=>?_) (fun h2=>?_)) (fun h1=>?_)
   ·have h1:=oT h1
    have h2:=oT h2
    rw [if_pos ⟨h1,h2⟩] at hcell
    exact Ba.gd (decide_eq_true (by omega)) (.some ⟨hkN,Hd _ hcell hkN⟩)
   ·have h2:=oF h2
    rw [if_neg fun h=>h2 h.2] at hcell
    have:=Hd _ hcell hkN
    rw [List.append_nil] at this
    exact .some ⟨hkN,this⟩
   ·have h1:=oF h1
    rw [if_neg fun h=>h1 h.1] at hcell
    have:=Hd _ hcell hkN
    rw [List.append_nil] at this
    exact .some ⟨hkN,this⟩
  ·have hlt:=oF hlt
   obtain rfl:k=N-1-n:=by omega
   exact .some rfl
end
def DR (n:Int) (db:List Ls):Bool:=Db n 1 8&&Sh db&&decide ((Cg (Id db) n.toNat).length≤14)
theorem zDK (n:Int) (db:List Ls) (hl:db.length≤2000000000) (he:∀l∈db,Bb l.e):MO (n,db,())=some (if DR n db then (n,true,Cg (Id db) n.toNat,()) else (0,false,[],())):=by
  unfold MO DR
  simp only [Fm,zDL db (show Bb db by unfold Bb;omega) he,Option.bind_some]
  cases h1:Db n 1 8 with
  |false=>rfl
  |true =>
  cases h2:Sh db with
  |false=>rfl
  |true =>
  have h1:=He h1
  have hs:Vk db:=Md.srt (oT h2)
  obtain ⟨N,rfl⟩:=Int.eq_ofNat_of_zero_le (show 0≤n by omega)
  have h8:N≤8:=by omega
  rw [Int.toNat_natCast]
  simp only [Bool.not_true,cond_false,Bool.true_and,Bool.and_self]
  refine Ba.out (Ba.bnd (R:=fun r=>match r with| .inl x=>x.2.1=(N:Int)∧x.2.2.2.1=Cg (Id db) N| .inr _=>False) ?_ ?_)
  ·refine Ba.count N (fun k s=>s=((N:Int),db,(N:Int),(k:Int),0,(N:Int),[],Ji (Id db) N k,())) ?_ (Nat.zero_le _) (Jb (by omega)) rfl
   rintro k s hk rfl
   have hlen:=cX (Id db) N k
   have hkN:=iD h8 hk
   unfold LO
   dsimp only
   refine Ba.ite (fun hlt=>?_) (fun hlt=>?_)
   ·have hlt:=oT hlt
    have hkl:k<N:=by omega
    refine Ba.bnd (zD7 hs hl he h8 hkl (N:Int) 0 (N:Int) [] _ (by omega)) ?_
    rintro (r|r) hr
    case inr=>exact hr.elim
    obtain rfl:=hr
    refine .some ⟨hkl,?_⟩
    dsimp only
    rw [HD,Na (by omega) (by omega)]
    rfl
   ·have hlt:=oF hlt
    obtain rfl:k=N:=by omega
    exact .some ⟨rfl,rfl⟩
  ·rintro (r|r) hr
   case inr=>exact hr.elim
   have hr:r.2.1=(N:Int)∧r.2.2.2.1=Cg (Id db) N:=hr
   dsimp only
   rw [hr.1,hr.2,Ta]
   by_cases h14:(Cg (Id db) N).length≤14
   ·refine Ba.no (dF (by omega)) (.some ?_)
    rw [decide_eq_true h14];first|rfl|exact congrArg (fun z=>((N:Int),true,z)) (Prod.ext hr.2 rfl)
   ·refine Ba.gd (decide_eq_true (by omega)) (.some ?_)
    rw [dF h14];rfl
end
section
open Go.RowKit
abbrev Jc (db:List Ls):Prop:=db.Pairwise fun x y=>x.o<y.o
theorem Mi {db:List Ls}:Vk db↔Jc db:=by
  unfold Jc
  rw [List.pairwise_iff_getElem]
  constructor
  ·intro h i j hi hj hij
   have:=h i j hij hj
   rwa [Ld hi,Ld hj] at this
  ·intro h i j hij hj
   rw [Ld (show i<db.length by omega),Ld hj]
   exact h i j (by omega) hj hij
theorem Co {db:List Ls}:Md db↔(∀l∈db,Gf l)∧Jc db:=by
  constructor
  ·intro h
   refine ⟨fun l hl=>?_,Mi.1 h.srt⟩
   obtain ⟨i,hi,rfl⟩:=List.getElem_of_mem hl
   have:=(h i hi).1
   rwa [Ld hi] at this
  ·rintro ⟨h1,h2⟩ i hi
   refine ⟨?_,fun h0=>Mi.2 h2 (i-1) i (by omega) hi⟩
   rw [Ld hi]
   exact h1 _ (List.getElem_mem hi)
def Uj (db:List Ls) (l:Ls):List Ls:=db.filter (fun x=>decide (x.o<l.o))++l::db.filter (fun x=>decide (l.o<x.o))
def Je (db:List Ls) (l:Ls):Int:=match fd db l.o with|some old=>if old.s=l.s then 1 else if l.s<old.s then 2 else 0|none=>0
def Mc (db:List Ls) (l:Ls):List Ls:=if Je db l=0 then Uj db l else db
theorem Vj {db:List Ls} {l x:Ls}:x∈Uj db l↔x=l∨x∈db∧x.o≠l.o:=by
  unfold Uj
  rw [List.mem_append,List.mem_cons,List.mem_filter,List.mem_filter]
  simp only [decide_eq_true_eq]
  constructor
  ·rintro (⟨h1,h2⟩|rfl|⟨h1,h2⟩)
   ·exact .inr ⟨h1,by omega⟩
   ·exact .inl rfl
   ·exact .inr ⟨h1,by omega⟩
  ·rintro (rfl|⟨h1,h2⟩)
   ·exact .inr (.inl rfl)
   ·rcases Int.lt_or_gt_of_ne h2 with h|h
    ·exact .inl ⟨h1,h⟩
    ·exact .inr (.inr ⟨h1,h⟩)
theorem SJ {db:List Ls} (h:Jc db) (l:Ls):Jc (Uj db l):=by
  unfold Uj Jc
  rw [List.pairwise_append,List.pairwise_cons]
  refine ⟨List.Pairwise.filter _ h,⟨fun x hx=>?_,List.Pairwise.filter _ h⟩,fun x hx y hy=>?_⟩
  ·exact oT (List.mem_filter.1 hx).2
  ·have h1:x.o<l.o:=oT (List.mem_filter.1 hx).2
   rcases List.mem_cons.1 hy with rfl|hy
   ·exact h1
   ·have h2:l.o<y.o:=oT (List.mem_filter.1 hy).2
    omega
theorem TJ {db:List Ls} (h:Jc db) (l:Ls):Jc (Mc db l):=by
  unfold Mc
  split
  ·exact SJ h l
  ·exact h
theorem I4 {db:List Ls} (h:Md db) {l:Ls} (hl:Gf l):Md (Mc db l):=by
  have:=Co.1 h
  refine Co.2 ⟨fun x hx=>?_,TJ this.2 l⟩
  unfold Mc at hx
  split at hx
  ·rcases Vj.1 hx with rfl|hx
   ·exact hl
   ·exact this.1 x hx.1
  ·exact this.1 x hx
theorem yAf {db:List Ls} (h:Jc db) {x y:Ls} (hx:x∈db) (hy:y∈db) (e:x.o=y.o):x=y:=by
  obtain ⟨i,hi,rfl⟩:=List.getElem_of_mem hx
  obtain ⟨j,hj,rfl⟩:=List.getElem_of_mem hy
  rcases Nat.lt_trichotomy i j with h1|h1|h1
  ·have:=List.pairwise_iff_getElem.1 h i j hi hj h1;omega
  ·subst h1;rfl
  ·have:=List.pairwise_iff_getElem.1 h j i hj hi h1;omega
theorem Xk {db:List Ls} (h:Jc db) {o:Int} {x:Ls}:fd db o=some x↔x∈db∧x.o=o:=by
  unfold fd
  constructor
  ·intro e
   exact ⟨List.mem_of_find?_eq_some e,oT (List.find?_some (p:=fun l:Ls=>decide (l.o=o)) e)⟩
  ·rintro ⟨hx,rfl⟩
   cases e:db.find? (fun l=>decide (l.o=x.o)) with
   |none =>
    have:=List.find?_eq_none.1 e x hx
    simp at this
   |some y =>
    have h1:=List.mem_of_find?_eq_some e
    have h2:y.o=x.o:=oT (List.find?_some (p:=fun l:Ls=>decide (l.o=x.o)) e)
    rw [yAf h h1 hx h2]
theorem UJ {db:List Ls} {o:Int}:fd db o=none↔∀x∈db,x.o≠o:=by
  unfold fd
  rw [List.find?_eq_none]
  constructor
  ·intro h x hx e;exact h x hx (decide_eq_true e)
  ·intro h x hx e;exact h x hx (oT e)
theorem iE {db:List Ls} (h:Jc db) (l:Ls) (o:Int):fd (Mc db l) o=if o=l.o∧Je db l=0 then some l else fd db o:=by
  unfold Mc
  by_cases hc:Je db l=0
  ·rw [if_pos hc]
   by_cases ho:o=l.o
   ·rw [if_pos ⟨ho,hc⟩]
    exact (Xk (SJ h l)).2 ⟨Vj.2 (.inl rfl),ho.symm⟩
   ·rw [if_neg fun g=>ho g.1]
    cases e:fd db o with
    |none =>
     rw [UJ] at e ⊢
     intro x hx
     rcases Vj.1 hx with rfl|⟨hx,_⟩
     ·exact fun g=>ho g.symm
     ·exact e x hx
    |some y =>
     obtain ⟨h1,h2⟩:=(Xk h).1 e
     exact (Xk (SJ h l)).2 ⟨Vj.2 (.inr ⟨h1,by omega⟩),h2⟩
  ·rw [if_neg hc,if_neg fun g=>hc g.2]
theorem J4:∀{a b:List Ls},Jc a→Jc b→(∀x,x∈a↔x∈b)→a=b
  |[],[],_,_,_=>rfl
  |[],y::s,_,_,h=>by have:=(h y).2 (List.mem_cons_self ..);simp at this
  |x::r,[],_,_,h=>by have:=(h x).1 (List.mem_cons_self ..);simp at this
  |x::r,y::s,h1,h2,h=>by
   have h1:=List.pairwise_cons.1 h1
   have h2:=List.pairwise_cons.1 h2
   have e:x=y:=by
     rcases List.mem_cons.1 ((h x).1 (List.mem_cons_self ..)) with e|hx
     ·exact e
     ·rcases List.mem_cons.1 ((h y).2 (List.mem_cons_self ..)) with e|hy
      ·exact e.symm
      ·have q1:=h1.1 y hy
       have q2:=h2.1 x hx
       omega
   subst e
   have:r=s:=J4 h1.2 h2.2 fun z=>by
     constructor
     ·intro hz
      rcases List.mem_cons.1 ((h z).1 (List.mem_cons_of_mem _ hz)) with e|hz'
      ·subst e;have:=h1.1 z hz;omega
      ·exact hz'
     ·intro hz
      rcases List.mem_cons.1 ((h z).2 (List.mem_cons_of_mem _ hz)) with e|hz'
      ·subst e;have:=h2.1 z hz;omega
      ·exact hz'
   rw [this]
theorem yAg {db:List Ls} (h:Jc db) {l:Ls} {i:Nat} (hi:i<db.length) (ho:(Ib db i).o=l.o):db.set i l=Uj db l:=by
  have hs:Jc (db.set i l):=by
    unfold Jc
    rw [List.pairwise_iff_getElem]
    intro a b ha hb hab
    rw [List.length_set] at ha hb
    have hp:=fun x y (hx:x<db.length) (hy:y<db.length) (hxy:x<y)=>List.pairwise_iff_getElem.1 h x y hx hy hxy
    rw [Ld hi] at ho
    rw [List.getElem_set,List.getElem_set]
    split<;>split
    ·omega
    ·rename_i e1 e2;subst e1;have:=hp i b hi hb hab;omega
    ·rename_i e1 e2;subst e2;have:=hp a i ha hi hab;omega
    ·exact hp a b ha hb hab
  refine J4 hs (SJ h l) fun x=>?_
  rw [Vj]
  rw [Ld hi] at ho
  constructor
  ·intro hx
   obtain ⟨j,hj,rfl⟩:=List.getElem_of_mem hx
   rw [List.length_set] at hj
   rw [List.getElem_set]
   split
   ·exact .inl rfl
   ·rename_i e
    refine .inr ⟨List.getElem_mem hj,fun g=>?_⟩
    rcases Nat.lt_or_gt_of_ne e with h1|h1
    ·have:=List.pairwise_iff_getElem.1 h i j hi hj h1;omega
    ·have:=List.pairwise_iff_getElem.1 h j i hj hi h1;omega
  ·rintro (rfl|⟨hx,hne⟩)
   ·exact List.mem_set hi x
   ·obtain ⟨j,hj,rfl⟩:=List.getElem_of_mem hx
    have e:i≠j:=by rintro rfl;exact hne ho
    have:(db.set i l)[j]'(by rw [List.length_set];exact hj)=db[j]:=by rw [List.getElem_set,if_neg e]
    rw [←this]
    exact List.getElem_mem _
theorem yAh {db:List Ls} (h:Jc db) {l:Ls} {i:Nat} (hp:ZA db l.o i) (hn:Tj db l.o i=false):db.take i++l::db.drop i=Uj db l:=by
  have hno:∀x∈db,x.o≠l.o:=UJ.1 (by rw [hU (Mi.2 h) hp,hn];rfl)
  have e1:∀x∈db.take i,x.o<l.o:=fun x hx=>by
    obtain ⟨j,hj,rfl⟩:=List.getElem_of_mem hx
    rw [List.length_take] at hj
    rw [List.getElem_take,←Ld (show j<db.length by omega)]
    exact hp.2.1 j (by omega)
  have e2:∀x∈db.drop i,l.o<x.o:=fun x hx=>by
    have hm:=hno x (List.mem_of_mem_drop hx)
    obtain ⟨j,hj,rfl⟩:=List.getElem_of_mem hx
    rw [List.length_drop] at hj
    rw [List.getElem_drop] at hm ⊢
    have:=hp.2.2 (i+j) (by omega) (by omega)
    rw [Ld (show i+j<db.length by omega)] at this
    omega
  have hs:Jc (db.take i++l::db.drop i):=by
    unfold Jc
    rw [List.pairwise_append,List.pairwise_cons]
    refine ⟨List.Pairwise.sublist (List.take_sublist _ _) h,⟨e2,List.Pairwise.sublist (List.drop_sublist _ _) h⟩,fun x hx y hy=>?_⟩
    have:=e1 x hx
    rcases List.mem_cons.1 hy with rfl|hy
    ·exact this
    ·have:=e2 y hy;omega
  refine J4 hs (SJ h l) fun x=>?_
  rw [Vj,List.mem_append,List.mem_cons]
  constructor
  ·rintro (hx|rfl|hx)
   ·exact .inr ⟨List.mem_of_mem_take hx,hno x (List.mem_of_mem_take hx)⟩
   ·exact .inl rfl
   ·exact .inr ⟨List.mem_of_mem_drop hx,hno x (List.mem_of_mem_drop hx)⟩
  ·rintro (rfl|⟨hx,_⟩)
   ·exact .inr (.inl rfl)
   ·rw [←List.take_append_drop i db,List.mem_append] at hx
    exact hx.imp id .inr
def Wc (db other:List Ls):List Ls:=other.foldl Mc db
def Ub (db:List Ls) (o:Int):Int:=match fd db o with|some l=>l.s|none=> -1
theorem ER {db:List Ls} (h:Jc db) (other:List Ls):Jc (Wc db other):=by
  unfold Wc
  induction other generalizing db with
  |nil=>exact h
  |cons l r ih=>exact ih (TJ h l)
theorem K4 {db other:List Ls} (h:Md db) (h':∀l∈other,Gf l):Md (Wc db other):=by
  unfold Wc
  induction other generalizing db with
  |nil=>exact h
  |cons l r ih=>exact ih (I4 h (h' l (List.mem_cons_self ..))) fun x hx=>h' x (List.mem_cons_of_mem _ hx)
theorem L4 {db:List Ls} (h:Jc db) {l:Ls} (hl:0≤l.s) (o:Int):Ub (Mc db l) o=if o=l.o then max (Ub db o) l.s else Ub db o:=by
  unfold Ub
  rw [iE h l o]
  by_cases ho:o=l.o
  ·subst ho
   rw [if_pos rfl]
   cases e:fd db l.o with
   |none =>
    have hc:Je db l=0:=by unfold Je;rw [e]
    rw [hc,if_pos ⟨rfl,rfl⟩]
    dsimp only
    omega
   |some old =>
    by_cases h1:old.s=l.s
    ·have hc:Je db l=1:=by unfold Je;rw [e];exact if_pos h1
     rw [hc,if_neg (fun g=>by have:=g.2;omega)]
     dsimp only
     omega
    ·by_cases h2:l.s<old.s
     ·have hc:Je db l=2:=by unfold Je;rw [e];dsimp only;rw [if_neg h1,if_pos h2]
      rw [hc,if_neg (fun g=>by have:=g.2;omega)]
      dsimp only
      omega
     ·have hc:Je db l=0:=by unfold Je;rw [e];dsimp only;rw [if_neg h1,if_neg h2]
      rw [hc,if_pos ⟨rfl,rfl⟩]
      dsimp only
      omega
  ·rw [if_neg fun g=>ho g.1,if_neg ho]
theorem M4 {db:List Ls} {l:Ls} (hl:0≤l.s):Je db l=0↔Ub db l.o<l.s:=by
  unfold Je Ub
  cases fd db l.o with
  |none=>simp;omega
  |some old =>
   dsimp only
   by_cases h1:old.s=l.s
   ·rw [if_pos h1];omega
   ·rw [if_neg h1]
    by_cases h2:l.s<old.s
    ·rw [if_pos h2];omega
    ·rw [if_neg h2];omega
theorem iF (l:Ls) (r:List Ls) (o:Int):fd (l::r) o=if l.o=o then some l else fd r o:=by
  unfold fd
  rw [List.find?_cons]
  by_cases h:l.o=o
  ·rw [if_pos h,decide_eq_true h]
  ·rw [if_neg h,dF h]
theorem iG {db:List Ls} (h:∀l∈db,0≤l.s) (o:Int): -1≤Ub db o:=by
  unfold Ub
  cases e:fd db o with
  |none=>simp
  |some l=>have:=h l (List.mem_of_find?_eq_some e);dsimp only;omega
theorem yAi {a b:List Ls} (ha:Jc a) (hb:Jc b) (hs:∀l∈b,0≤l.s) (hsa:∀l∈a,0≤l.s) (o:Int):fd (Wc a b) o=if Ub a o<Ub b o then fd b o else fd a o:=by
  unfold Wc
  induction b generalizing a with
  |nil =>
   have:Ub [] o= -1:=rfl
   rw [if_neg (by have:=iG hsa o;omega)]
   rfl
  |cons l r ih =>
   have hb':=List.pairwise_cons.1 hb
   have hl:=hs l (List.mem_cons_self ..)
   have hsa':∀x∈Mc a l,0≤x.s:=fun x hx=>by
     unfold Mc at hx
     split at hx
     ·rcases Vj.1 hx with rfl|hx
      ·exact hl
      ·exact hsa x hx.1
     ·exact hsa x hx
   have ih:=ih (TJ ha l) hb'.2 (fun x hx=>hs x (List.mem_cons_of_mem _ hx)) hsa'
   rw [List.foldl_cons,ih,L4 ha hl,iE ha,iF]
   have hq:Ub (l::r) o=if l.o=o then l.s else Ub r o:=by
     unfold Ub
     rw [iF]
     by_cases e:l.o=o
     ·rw [if_pos e,if_pos e]
     ·rw [if_neg e,if_neg e]
   rw [hq]
   by_cases ho:o=l.o
   ·subst ho
    have hr:Ub r l.o= -1:=by
      unfold Ub
      rw [UJ.2 fun x hx e=>by have:=hb'.1 x hx;omega]
    have hla:=iG hsa l.o
    rw [if_pos rfl,if_pos rfl,if_pos rfl,hr,if_neg (by omega)]
    by_cases hc:Je a l=0
    ·rw [if_pos ⟨rfl,hc⟩,if_pos ((M4 hl).1 hc)]
    ·rw [if_neg fun g=>hc g.2,if_neg fun g=>hc ((M4 hl).2 g)]
   ·have h1:¬l.o=o:=fun g=>ho g.symm
    have h2:¬(o=l.o∧Je a l=0):=fun g=>ho g.1
    simp only [if_neg ho,if_neg h1,if_neg h2]
theorem N4 {a b:List Ls} (ha:Jc a) (hb:Jc b) (hs:∀l∈b,0≤l.s) (hsa:∀l∈a,0≤l.s) (o:Int):Ub (Wc a b) o=max (Ub a o) (Ub b o):=by
  have h:=yAi ha hb hs hsa o
  by_cases hc:Ub a o<Ub b o
  ·rw [if_pos hc] at h
   have:Ub (Wc a b) o=Ub b o:=by unfold Ub;rw [h]
   omega
  ·rw [if_neg hc] at h
   have:Ub (Wc a b) o=Ub a o:=by unfold Ub;rw [h]
   omega
def yAj (a b:List Ls):Prop:=∀x∈a,∀y∈b,x.o=y.o→x.s=y.s→x=y
theorem iH {a b:List Ls} {x:Ls} (hx:x∈Wc a b):x∈a∨x∈b:=by
  unfold Wc at hx
  induction b generalizing a with
  |nil=>exact .inl hx
  |cons l r ih =>
   rcases ih hx with h|h
   ·unfold Mc at h
    split at h
    ·rcases Vj.1 h with rfl|h
     ·exact .inr (List.mem_cons_self ..)
     ·exact .inl h.1
    ·exact .inl h
   ·exact .inr (List.mem_cons_of_mem _ h)
end
end Go.Proofs.YtjffopopheiinaaGreatDoor
