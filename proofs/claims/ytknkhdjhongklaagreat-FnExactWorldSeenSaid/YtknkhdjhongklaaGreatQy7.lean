/- Part 7 of the proof: UJ. -/
import Derived.Test.YtknkhdjhongklaaGreatQy6
set_option linter.unusedSimpArgs false
set_option linter.unusedVariables false
set_option maxRecDepth 100000
namespace Go.Proofs.YtknkhdjhongklaaGreat
section
open Go.RowKit
set_option maxRecDepth 100000 in
set_option maxHeartbeats 8000000 in
theorem yAA {FW FV:Wl→Prop} {M:Wl→Wl} {F:Wl→Int×List Lk} (z0:Int) (A:Wl) (hsz:DJ Tryz.prog 8 FW A) (hto:Ry Tryz.prog 10 FW) (hsp:Nm Tryz.prog 17 FW F [.int .i64 z0]) (him:Nm Tryz.prog 18 FW F [.int .i64 z0]) (heq:Sy Tryz.prog 13 FV) (hmk:Uy Tryz.prog 14 FV M) {FL:List Lk→Prop} {ML:List Lk→List Lk} (heqG:HJ Tryz.prog 12 FL) (hmkG:IJ Tryz.prog 15 FL ML) (hhd:JJ Tryz.prog 16 FL ML) (hFV:∀A,FW A→FV A∧FL (F A).2) (w:World) (a:Value) (H:Rw w 0 w.heap.size A a):Calls Tryz.prog 4 #[a,.int .i64 z0] w fun e w'=>e=.returned (.bool true)∧Below w.heap.size w w':=by
  obtain ⟨na,p1a,l1a,c1a,p2a,l2a,c2a,p3a,l3a,c3a,p4a,l4a,c4a,p5a,l5a,c5a,rfl⟩:=H.vw
  have H0:=Lib.hid ((LS.nil w).newR (Nat.le_refl _) H)
  replace hsz:=Lib.hid hsz;replace hto:=Lib.hid hto;replace hsp:=Lib.hid hsp;replace him:=Lib.hid him;replace heq:=Lib.hid heq;replace hmk:=Lib.hid hmk;replace hhd:=Lib.hid hhd;replace hFV:=Lib.hid hFV;replace heqG:=Lib.hid heqG;replace hmkG:=Lib.hid hmkG
  clear H
  have H1:=Lib.hid (H0.out.put [.int .i64 na,.slice p1a l1a c1a,.slice p2a l2a c2a,.slice p3a l3a c3a,.slice p4a l4a c4a,.slice p5a l5a c5a] 30)
  clear H0
  have c2:=Lib.hid (PS hsz.out (World.size_alloc _ _) H1 (.tail _ (.head _)))
  clear H1
  go_enter Tryz.func4,Tryz.ntmps4
  try dsimp only
  go_wp2_with fail
  refine Calls.mono c2.out ?_
  rintro e w2 ⟨z,rfl,hz,H2,s2⟩
  clear c2
  have ⟨fa0,fa1,fa2,fa3,fa4,fa5⟩:=Ed (H2.out.box (B:=w.heap.size) (v:=.agg #[.int .i64 na,.slice p1a l1a c1a,.slice p2a l2a c2a,.slice p3a l3a c3a,.slice p4a l4a c4a,.slice p5a l5a c5a]) (.head _))
  go_wp2_with fail
  ·go_ret
   exact ⟨rfl,H2.out.1⟩
  have hA:=Lib.hid (hz.out (by assumption))
  clear hz
  have hV:=Lib.hid (hFV.out A hA.out)
  clear hFV
  have c3:=Lib.hid (Ij hto.out rfl H2 (.tail _ (.head _)) hA.out)
  clear H2
  refine Calls.mono c3.out ?_
  rintro e w3 ⟨nb,p1b,l1b,c1b,p2b,l2b,c2b,p3b,l3b,c3b,p4b,l4b,c4b,p5b,l5b,c5b,rfl,H3,s3⟩
  clear c3
  clear fa0 fa1 fa2 fa3 fa4 fa5
  have c4:=Lib.hid (Aw hsp.out rfl H3 (.head _) hA.out)
  clear H3
  try dsimp only
  go_wp2_with fail
  refine Calls.mono c4.out ?_
  rintro e w4 ⟨nw,pw,lw,cw,rfl,H4,s4⟩
  clear c4
  have H5:=Lib.hid (H4.out.put [.int .i64 nw,.slice pw lw cw] 34)
  clear H4
  have ⟨fa0,fa1,fa2,fa3,fa4,fa5⟩:=Ed (H5.out.box (B:=w.heap.size) (v:=.agg #[.int .i64 na,.slice p1a l1a c1a,.slice p2a l2a c2a,.slice p3a l3a c3a,.slice p4a l4a c4a,.slice p5a l5a c5a]) (.tail _ (.tail _ (.tail _ (.head _)))))
  have c6:=Lib.hid (Ij hto.out (World.size_alloc _ _) H5 (.tail _ (.tail _ (.tail _ (.tail _ (.head _))))) hA.out)
  clear H5
  try dsimp only
  go_wp2_with fail
  refine Calls.mono c6.out ?_
  rintro e w6 ⟨nx,p1x,l1x,c1x,p2x,l2x,c2x,p3x,l3x,c3x,p4x,l4x,c4x,p5x,l5x,c5x,rfl,H6,s6⟩
  clear c6
  clear fa0 fa1 fa2 fa3 fa4 fa5
  have H7:=Lib.hid (H6.out.put [.int .i64 nx,.slice p1x l1x c1x,.slice p2x l2x c2x,.slice p3x l3x c3x,.slice p4x l4x c4x,.slice p5x l5x c5x] 39)
  clear H6
  have ⟨fx0,fx1,fx2,fx3,fx4,fx5⟩:=Ed (H7.out.box (B:=w6.heap.size) (v:=.agg #[.int .i64 nx,.slice p1x l1x c1x,.slice p2x l2x c2x,.slice p3x l3x c3x,.slice p4x l4x c4x,.slice p5x l5x c5x]) (.head _))
  have c8:=Lib.hid (Aw him.out (World.size_alloc _ _) H7 (.tail _ (.head _)) hA.out)
  clear H7
  try dsimp only
  go_wp2_with fail
  refine Calls.mono c8.out ?_
  rintro e w8 ⟨ng,pg,lg,cg,rfl,H8,s8⟩
  clear c8
  clear fx0 fx1 fx2 fx3 fx4 fx5
  have H9:=Lib.hid (H8.out.put [.int .i64 ng,.slice pg lg cg] 34)
  clear H8
  have ⟨fg0,fg1⟩:=Bg (H9.out.box (B:=w8.heap.size) (v:=.agg #[.int .i64 ng,.slice pg lg cg]) (.head _))
  have ⟨fw0,fw1⟩:=Bg (H9.out.box (B:=w4.heap.size) (v:=.agg #[.int .i64 nw,.slice pw lw cw]) (.tail _ (.tail _ (.tail _ (.tail _ (.head _))))))
  have c10:=Lib.hid (Bw heqG.out (World.size_alloc _ _) H9 (H9.out.ownG (.tail _ (.head _))).rg (H9.out.ownG (.tail _ (.tail _ (.tail _ (.tail _ (.tail _ (.head _))))))).rg hV.out.2)
  clear H9
  try dsimp only
  go_wp2_with fail
  refine Calls.mono c10.out ?_
  rintro e w10 ⟨rfl,H10,s10⟩
  clear c10
  clear fg0 fg1
  clear fw0 fw1
  go_wp2_with fail
  go_cut [35] (fun v w'=>v=.bool false∧Hid (LS w w' [Bb (w8.heap.size) (.agg #[.int .i64 ng,.slice pg lg cg]),Mc (w6.heap.size+1) w8.heap.size (F A) (.agg #[.int .i64 ng,.slice pg lg cg]),Bb (w6.heap.size) (.agg #[.int .i64 nx,.slice p1x l1x c1x,.slice p2x l2x c2x,.slice p3x l3x c3x,.slice p4x l4x c4x,.slice p5x l5x c5x]),Ob (w4.heap.size+1) w6.heap.size A (.agg #[.int .i64 nx,.slice p1x l1x c1x,.slice p2x l2x c2x,.slice p3x l3x c3x,.slice p4x l4x c4x,.slice p5x l5x c5x]),Bb (w4.heap.size) (.agg #[.int .i64 nw,.slice pw lw cw]),Mc w3.heap.size w4.heap.size (F A) (.agg #[.int .i64 nw,.slice pw lw cw]),Ob w2.heap.size w3.heap.size A (.agg #[.int .i64 nb,.slice p1b l1b c1b,.slice p2b l2b c2b,.slice p3b l3b c3b,.slice p4b l4b c4b,.slice p5b l5b c5b]),Bb (w.heap.size) (.agg #[.int .i64 na,.slice p1a l1a c1a,.slice p2a l2a c2a,.slice p3a l3a c3a,.slice p4a l4a c4a,.slice p5a l5a c5a]),Lc 0 w.heap.size A (.agg #[.int .i64 na,.slice p1a l1a c1a,.slice p2a l2a c2a,.slice p3a l3a c3a,.slice p4a l4a c4a,.slice p5a l5a c5a])])∧Hid (w10.heap.size≤w'.heap.size))
  case first =>
    have ⟨fx0,fx1,fx2,fx3,fx4,fx5⟩:=Ed (H10.out.box (B:=w6.heap.size) (v:=.agg #[.int .i64 nx,.slice p1x l1x c1x,.slice p2x l2x c2x,.slice p3x l3x c3x,.slice p4x l4x c4x,.slice p5x l5x c5x]) (.tail _ (.tail _ (.head _))))
    have ⟨fa0,fa1,fa2,fa3,fa4,fa5⟩:=Ed (H10.out.box (B:=w.heap.size) (v:=.agg #[.int .i64 na,.slice p1a l1a c1a,.slice p2a l2a c2a,.slice p3a l3a c3a,.slice p4a l4a c4a,.slice p5a l5a c5a]) (.tail _ (.tail _ (.tail _ (.tail _ (.tail _ (.tail _ (.tail _ (.head _)))))))))
    have cT:=Lib.hid (Ij hto.out (w:=w10.drew) rfl (L:=[Bb (w8.heap.size) (.agg #[.int .i64 ng,.slice pg lg cg]),Mc (w6.heap.size+1) w8.heap.size (F A) (.agg #[.int .i64 ng,.slice pg lg cg]),Bb (w6.heap.size) (.agg #[.int .i64 nx,.slice p1x l1x c1x,.slice p2x l2x c2x,.slice p3x l3x c3x,.slice p4x l4x c4x,.slice p5x l5x c5x]),Ob (w4.heap.size+1) w6.heap.size A (.agg #[.int .i64 nx,.slice p1x l1x c1x,.slice p2x l2x c2x,.slice p3x l3x c3x,.slice p4x l4x c4x,.slice p5x l5x c5x]),Bb (w4.heap.size) (.agg #[.int .i64 nw,.slice pw lw cw]),Mc w3.heap.size w4.heap.size (F A) (.agg #[.int .i64 nw,.slice pw lw cw]),Ob w2.heap.size w3.heap.size A (.agg #[.int .i64 nb,.slice p1b l1b c1b,.slice p2b l2b c2b,.slice p3b l3b c3b,.slice p4b l4b c4b,.slice p5b l5b c5b]),Bb (w.heap.size) (.agg #[.int .i64 na,.slice p1a l1a c1a,.slice p2a l2a c2a,.slice p3a l3a c3a,.slice p4a l4a c4a,.slice p5a l5a c5a]),Lc 0 w.heap.size A (.agg #[.int .i64 na,.slice p1a l1a c1a,.slice p2a l2a c2a,.slice p3a l3a c3a,.slice p4a l4a c4a,.slice p5a l5a c5a])]) (Lib.hid (H10.out.below (KS _))) (.tail _ (.tail _ (.tail _ (.tail _ (.tail _ (.tail _ (.tail _ (.tail _ (.head _))))))))) hA.out)
    go_region_with (first
      |(go_at_call 10;refine Calls.mono cT.out ?_;rintro e wT ⟨nt,p1t,l1t,c1t,p2t,l2t,c2t,p3t,l3t,c3t,p4t,l4t,c4t,p5t,l5t,c5t,rfl,HT,sT⟩;have ⟨fx0,fx1,fx2,fx3,fx4,fx5⟩:=Ed (HT.out.box (B:=w6.heap.size) (v:=.agg #[.int .i64 nx,.slice p1x l1x c1x,.slice p2x l2x c2x,.slice p3x l3x c3x,.slice p4x l4x c4x,.slice p5x l5x c5x]) (.tail _ (.tail _ (.tail _ (.head _))))))
      |(go_at_call 13;refine (Yv heq.out rfl (L:=[Ob w10.drew.heap.size wT.heap.size A (.agg #[.int .i64 nt,.slice p1t l1t c1t,.slice p2t l2t c2t,.slice p3t l3t c3t,.slice p4t l4t c4t,.slice p5t l5t c5t]),Bb (w8.heap.size) (.agg #[.int .i64 ng,.slice pg lg cg]),Mc (w6.heap.size+1) w8.heap.size (F A) (.agg #[.int .i64 ng,.slice pg lg cg]),Bb (w6.heap.size) (.agg #[.int .i64 nx,.slice p1x l1x c1x,.slice p2x l2x c2x,.slice p3x l3x c3x,.slice p4x l4x c4x,.slice p5x l5x c5x]),Ob (w4.heap.size+1) w6.heap.size A (.agg #[.int .i64 nx,.slice p1x l1x c1x,.slice p2x l2x c2x,.slice p3x l3x c3x,.slice p4x l4x c4x,.slice p5x l5x c5x]),Bb (w4.heap.size) (.agg #[.int .i64 nw,.slice pw lw cw]),Mc w3.heap.size w4.heap.size (F A) (.agg #[.int .i64 nw,.slice pw lw cw]),Ob w2.heap.size w3.heap.size A (.agg #[.int .i64 nb,.slice p1b l1b c1b,.slice p2b l2b c2b,.slice p3b l3b c3b,.slice p4b l4b c4b,.slice p5b l5b c5b]),Bb (w.heap.size) (.agg #[.int .i64 na,.slice p1a l1a c1a,.slice p2a l2a c2a,.slice p3a l3a c3a,.slice p4a l4a c4a,.slice p5a l5a c5a]),Lc 0 w.heap.size A (.agg #[.int .i64 na,.slice p1a l1a c1a,.slice p2a l2a c2a,.slice p3a l3a c3a,.slice p4a l4a c4a,.slice p5a l5a c5a])]) HT (HT.out.own (.tail _ (.tail _ (.tail _ (.tail _ (.head _)))))).rw (HT.out.own (.head _)).rw hV.out.1).mono ?_;rintro e wU ⟨rfl,HU,sU⟩))
    all_goals (go_wp2_with fail)
    all_goals go_meet
    all_goals exact ⟨rfl,HU.out.sub fun _ h=>.tail _ h,Nat.le_trans sT.out sU.out⟩
  case rest =>
    obtain ⟨rfl,H11,s11⟩:=hcut
    rename_i w11
    clear H10
    have ⟨fx0,fx1,fx2,fx3,fx4,fx5⟩:=Ed (H11.out.box (B:=w6.heap.size) (v:=.agg #[.int .i64 nx,.slice p1x l1x c1x,.slice p2x l2x c2x,.slice p3x l3x c3x,.slice p4x l4x c4x,.slice p5x l5x c5x]) (.tail _ (.tail _ (.head _))))
    have c12:=Lib.hid (EJ (L':=[Bb (w8.heap.size) (.agg #[.int .i64 ng,.slice pg lg cg]),Mc (w6.heap.size+1) w8.heap.size (F A) (.agg #[.int .i64 ng,.slice pg lg cg]),Bb (w6.heap.size) (.agg #[.int .i64 nx,.slice p1x l1x c1x,.slice p2x l2x c2x,.slice p3x l3x c3x,.slice p4x l4x c4x,.slice p5x l5x c5x]),Bb (w4.heap.size) (.agg #[.int .i64 nw,.slice pw lw cw]),Mc w3.heap.size w4.heap.size (F A) (.agg #[.int .i64 nw,.slice pw lw cw]),Ob w2.heap.size w3.heap.size A (.agg #[.int .i64 nb,.slice p1b l1b c1b,.slice p2b l2b c2b,.slice p3b l3b c3b,.slice p4b l4b c4b,.slice p5b l5b c5b]),Bb (w.heap.size) (.agg #[.int .i64 na,.slice p1a l1a c1a,.slice p2a l2a c2a,.slice p3a l3a c3a,.slice p4a l4a c4a,.slice p5a l5a c5a]),Lc 0 w.heap.size A (.agg #[.int .i64 na,.slice p1a l1a c1a,.slice p2a l2a c2a,.slice p3a l3a c3a,.slice p4a l4a c4a,.slice p5a l5a c5a])]) hmk.out rfl H11 (.tail _ (.tail _ (.tail _ (.head _)))) hV.out.1 (fun i h=>Xv [Bb (w8.heap.size) (.agg #[.int .i64 ng,.slice pg lg cg]),Mc (w6.heap.size+1) w8.heap.size (F A) (.agg #[.int .i64 ng,.slice pg lg cg]),Bb (w6.heap.size) (.agg #[.int .i64 nx,.slice p1x l1x c1x,.slice p2x l2x c2x,.slice p3x l3x c3x,.slice p4x l4x c4x,.slice p5x l5x c5x]),Ob (w4.heap.size+1) w6.heap.size A (.agg #[.int .i64 nx,.slice p1x l1x c1x,.slice p2x l2x c2x,.slice p3x l3x c3x,.slice p4x l4x c4x,.slice p5x l5x c5x]),Bb (w4.heap.size) (.agg #[.int .i64 nw,.slice pw lw cw]),Mc w3.heap.size w4.heap.size (F A) (.agg #[.int .i64 nw,.slice pw lw cw]),Ob w2.heap.size w3.heap.size A (.agg #[.int .i64 nb,.slice p1b l1b c1b,.slice p2b l2b c2b,.slice p3b l3b c3b,.slice p4b l4b c4b,.slice p5b l5b c5b]),Bb (w.heap.size) (.agg #[.int .i64 na,.slice p1a l1a c1a,.slice p2a l2a c2a,.slice p3a l3a c3a,.slice p4a l4a c4a,.slice p5a l5a c5a]),Lc 0 w.heap.size A (.agg #[.int .i64 na,.slice p1a l1a c1a,.slice p2a l2a c2a,.slice p3a l3a c3a,.slice p4a l4a c4a,.slice p5a l5a c5a])] 3 h) (by have:=s2.out;have:=s3.out;have:=s4.out;have:=s6.out;have:=s8.out;have:=s10.out;have:=s11.out;omega) (fun i h=>by
      have:=s2.out;have:=s3.out;have:=s4.out;have:=s6.out;have:=s8.out;have:=s10.out;have:=s11.out
      simp only [List.mem_cons,List.not_mem_nil,or_false] at h
      rcases h with rfl|rfl|rfl|rfl|rfl|rfl|rfl|rfl<;>dsimp only [Bb,Lc,Ob,Zv,Mc]<;>omega))
    clear H11
    try dsimp only
    go_wp2_with fail
    refine Calls.mono c12.out ?_
    rintro e w12 ⟨rfl,H12,s12⟩
    clear c12
    clear fx0 fx1 fx2 fx3 fx4 fx5
    have ⟨fg0,fg1⟩:=Bg (H12.out.box (B:=w8.heap.size) (v:=.agg #[.int .i64 ng,.slice pg lg cg]) (.tail _ (.head _)))
    have ⟨fw0,fw1⟩:=Bg (H12.out.box (B:=w4.heap.size) (v:=.agg #[.int .i64 nw,.slice pw lw cw]) (.tail _ (.tail _ (.tail _ (.tail _ (.head _))))))
    have c13:=Lib.hid (Bw heqG.out rfl H12 (H12.out.ownG (.tail _ (.tail _ (.head _)))).rg (H12.out.ownG (.tail _ (.tail _ (.tail _ (.tail _ (.tail _ (.head _))))))).rg hV.out.2)
    clear H12
    try dsimp only
    go_wp2_with fail
    refine Calls.mono c13.out ?_
    rintro e w13 ⟨rfl,H13,s13⟩
    clear c13
    clear fg0 fg1
    clear fw0 fw1
    have ⟨fg0,fg1⟩:=Bg (H13.out.box (B:=w8.heap.size) (v:=.agg #[.int .i64 ng,.slice pg lg cg]) (.tail _ (.head _)))
    have c14:=Lib.hid (Q9 (L':=[Ob (w4.heap.size+1) w6.heap.size (M A) (.agg #[.int .i64 nx,.slice p1x l1x c1x,.slice p2x l2x c2x,.slice p3x l3x c3x,.slice p4x l4x c4x,.slice p5x l5x c5x]),Bb (w8.heap.size) (.agg #[.int .i64 ng,.slice pg lg cg]),Bb (w6.heap.size) (.agg #[.int .i64 nx,.slice p1x l1x c1x,.slice p2x l2x c2x,.slice p3x l3x c3x,.slice p4x l4x c4x,.slice p5x l5x c5x]),Bb (w4.heap.size) (.agg #[.int .i64 nw,.slice pw lw cw]),Mc w3.heap.size w4.heap.size (F A) (.agg #[.int .i64 nw,.slice pw lw cw]),Ob w2.heap.size w3.heap.size A (.agg #[.int .i64 nb,.slice p1b l1b c1b,.slice p2b l2b c2b,.slice p3b l3b c3b,.slice p4b l4b c4b,.slice p5b l5b c5b]),Bb (w.heap.size) (.agg #[.int .i64 na,.slice p1a l1a c1a,.slice p2a l2a c2a,.slice p3a l3a c3a,.slice p4a l4a c4a,.slice p5a l5a c5a]),Lc 0 w.heap.size A (.agg #[.int .i64 na,.slice p1a l1a c1a,.slice p2a l2a c2a,.slice p3a l3a c3a,.slice p4a l4a c4a,.slice p5a l5a c5a])]) hmkG.out rfl H13 (.tail _ (.tail _ (.head _))) hV.out.2 (fun i h=>Xv [Ob (w4.heap.size+1) w6.heap.size (M A) (.agg #[.int .i64 nx,.slice p1x l1x c1x,.slice p2x l2x c2x,.slice p3x l3x c3x,.slice p4x l4x c4x,.slice p5x l5x c5x]),Bb (w8.heap.size) (.agg #[.int .i64 ng,.slice pg lg cg]),Mc (w6.heap.size+1) w8.heap.size (F A) (.agg #[.int .i64 ng,.slice pg lg cg]),Bb (w6.heap.size) (.agg #[.int .i64 nx,.slice p1x l1x c1x,.slice p2x l2x c2x,.slice p3x l3x c3x,.slice p4x l4x c4x,.slice p5x l5x c5x]),Bb (w4.heap.size) (.agg #[.int .i64 nw,.slice pw lw cw]),Mc w3.heap.size w4.heap.size (F A) (.agg #[.int .i64 nw,.slice pw lw cw]),Ob w2.heap.size w3.heap.size A (.agg #[.int .i64 nb,.slice p1b l1b c1b,.slice p2b l2b c2b,.slice p3b l3b c3b,.slice p4b l4b c4b,.slice p5b l5b c5b]),Bb (w.heap.size) (.agg #[.int .i64 na,.slice p1a l1a c1a,.slice p2a l2a c2a,.slice p3a l3a c3a,.slice p4a l4a c4a,.slice p5a l5a c5a]),Lc 0 w.heap.size A (.agg #[.int .i64 na,.slice p1a l1a c1a,.slice p2a l2a c2a,.slice p3a l3a c3a,.slice p4a l4a c4a,.slice p5a l5a c5a])] 2 h) (by have:=s2.out;have:=s3.out;have:=s4.out;have:=s6.out;have:=s8.out;have:=s10.out;have:=s11.out;have:=s12.out;have:=s13.out;omega) (fun i h=>by
      have:=s2.out;have:=s3.out;have:=s4.out;have:=s6.out;have:=s8.out;have:=s10.out;have:=s11.out;have:=s12.out;have:=s13.out
      simp only [List.mem_cons,List.not_mem_nil,or_false] at h
      rcases h with rfl|rfl|rfl|rfl|rfl|rfl|rfl|rfl<;>dsimp only [Bb,Lc,Ob,Zv,Mc]<;>omega))
    clear H13
    try dsimp only
    go_wp2_with fail
    refine Calls.mono c14.out ?_
    rintro e w14 ⟨rfl,H14,s14⟩
    clear c14
    clear fg0 fg1
    have ⟨fg0,fg1⟩:=Bg (H14.out.box (B:=w8.heap.size) (v:=.agg #[.int .i64 ng,.slice pg lg cg]) (.tail _ (.tail _ (.head _))))
    have c15:=Lib.hid (KJ hhd.out rfl H14 (.head _) hV.out.2)
    clear H14
    try dsimp only
    go_wp2_with fail
    refine Calls.mono c15.out ?_
    rintro e w15 ⟨rfl,H15,s15⟩
    clear c15
    clear fg0 fg1
    have ⟨fa0,fa1,fa2,fa3,fa4,fa5⟩:=Ed (H15.out.box (B:=w.heap.size) (v:=.agg #[.int .i64 na,.slice p1a l1a c1a,.slice p2a l2a c2a,.slice p3a l3a c3a,.slice p4a l4a c4a,.slice p5a l5a c5a]) (.tail _ (.tail _ (.tail _ (.tail _ (.tail _ (.tail _ (.tail _ (.head _)))))))))
    have c16:=Lib.hid (Ij hto.out rfl H15 (.tail _ (.tail _ (.tail _ (.tail _ (.tail _ (.tail _ (.tail _ (.tail _ (.head _))))))))) hA.out)
    clear H15
    try dsimp only
    go_wp2_with fail
    refine Calls.mono c16.out ?_
    rintro e w16 ⟨ne,p1e,l1e,c1e,p2e,l2e,c2e,p3e,l3e,c3e,p4e,l4e,c4e,p5e,l5e,c5e,rfl,H16,s16⟩
    clear c16
    clear fa0 fa1 fa2 fa3 fa4 fa5
    have c17:=Lib.hid (Aw him.out rfl H16 (.head _) hA.out)
    clear H16
    try dsimp only
    go_wp2_with fail
    refine Calls.mono c17.out ?_
    rintro e w17 ⟨nh,ph,lh,ch,rfl,H17,s17⟩
    clear c17
    have H18:=Lib.hid (H17.out.put [.int .i64 nh,.slice ph lh ch] 34)
    clear H17
    have ⟨fh0,fh1⟩:=Bg (H18.out.box (B:=w17.heap.size) (v:=.agg #[.int .i64 nh,.slice ph lh ch]) (.head _))
    have ⟨fw0,fw1⟩:=Bg (H18.out.box (B:=w4.heap.size) (v:=.agg #[.int .i64 nw,.slice pw lw cw]) (.tail _ (.tail _ (.tail _ (.tail _ (.tail _ (.tail _ (.tail _ (.head _)))))))))
    have c19:=Lib.hid (Bw heqG.out (World.size_alloc _ _) H18 (H18.out.ownG (.tail _ (.head _))).rg (H18.out.ownG (.tail _ (.tail _ (.tail _ (.tail _ (.tail _ (.tail _ (.tail _ (.tail _ (.head _)))))))))).rg hV.out.2)
    clear H18
    try dsimp only
    go_wp2_with fail
    refine Calls.mono c19.out ?_
    rintro e w19 ⟨rfl,H19,s19⟩
    clear c19
    clear fh0 fh1
    clear fw0 fw1
    have ⟨fg0,fg1⟩:=Bg (H19.out.box (B:=w8.heap.size) (v:=.agg #[.int .i64 ng,.slice pg lg cg]) (.tail _ (.tail _ (.tail _ (.tail _ (.tail _ (.head _)))))))
    have c20:=Lib.hid (KJ hhd.out rfl H19 (.tail _ (.tail _ (.tail _ (.head _)))) hV.out.2)
    clear H19
    try dsimp only
    go_wp2_with fail
    refine Calls.mono c20.out ?_
    rintro e w20 ⟨rfl,H20,s20⟩
    clear c20
    clear fg0 fg1
    try dsimp only
    go_wp2_with fail
    go_ret
    exact ⟨rfl,H20.out.1⟩
end
end Go.Proofs.YtknkhdjhongklaaGreat
