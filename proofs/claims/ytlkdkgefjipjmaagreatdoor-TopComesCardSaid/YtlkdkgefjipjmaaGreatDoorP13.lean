/- SvcL, SvcP (put together). -/
import Derived.Test.YtlkdkgefjipjmaaGreatDoorP12
import Derived.Test.YtlkdkgefjipjmaaGreatDoorQ0
set_option linter.all false
set_option maxHeartbeats 40000000
set_option maxRecDepth 100000
namespace Go.Proofs.YtlkdkgefjipjmaaGreatDoor
open Go.ChangeShapes Go.WideShapes Go.ChangeAt Go.RowKit
section
variable {w w0 w':World}{sb tb:Nat}{s:Vg.Sv}{mn mx:Int}
def LookP(w w':World)(sb tb:Nat)(mn mx:Int)(s:Vg.Sv)(V:Int->Option Int)(e:Ending):Prop:=e=.returned (.tuple #[])/\∃t is,Vg.NxV V t is/\SW w w' sb (svcC mn mx (Vg.lookS mn mx s t is) tb)
theorem svc_look {X:Nat->Prop} {wn:Int} {V P:Int->Option Int} {fr N:Nat} (h:Vg.blk w sb=some (svcC mn mx s tb)) (hv:TV w tb X wn V P fr N) (hT:Vg.Tab w) (hm:1<=mn/\mx<2147483648/\2*mn<=mx) (hc:s.h.count=Vg.low s.t) (ht:0<=s.t/\s.t<=4503599627370496) (hX:¬X sb) :
  Calls Tryz.prog 88 #[.pointer (some ⟨sb,0,none⟩)] w fun e w'=>LookP w w' sb tb mn mx s V e:=by
 obtain⟨b,gp,Xw,y1,y2,y3,y4,y5,y6⟩:=hv.open
 have hnk:=wv_next y2 hT
 have hvr:=y2.rng.2
 have hrk:∀wz,Vg.Grows w wz->Calls Tryz.prog 112 #[.pointer (some ⟨sb,0,none⟩)] wz fun e w'=>e=.returned (.tuple #[])/\SW wz w' sb (svcC mn mx (Vg.restS s) tb):=fun wz hg=>svc_rest (hg.blk h)
 have h00:=h
 have hsp:∃q,s=q:=⟨_,rfl⟩
 obtain⟨⟨c,n,ha,la⟩,t,ar,goal,past⟩:=s
 simp only at hc ht
 obtain⟨q,hq⟩:=hsp
 rw[hq]at hrk
 obtain⟨c_h,f_h,p_h,l_h,H_h⟩:=Vg.lay h;clear h;obtain⟨c_y1,f_y1,p_y1,l_y1,H_y1⟩:=Vg.lay y1;clear y1
 have H_y2:=h_ y2;have H_y3:=h_ y3;have H_y4:=h_ y4;have H_y5:=h_ y5;have H_y6:=h_ y6;have H_hnk:=h_ hnk;have H_hrk:=h_ hrk;have H_h00:=h_ h00;have H_hT:=h_ hT;have H_hv:=h_ hv;have H_hvr:=h_ hvr;have H_hc:=h_ hc;have H_hq:=h_ hq;clear y2 y3 y4 y5 y6 hnk hrk h00 hT hv hvr hc hq
 go_enter Tryz.func88,Tryz.ntmps88
 go_upto_region 1 with((go_at_call 146;(with_reducible refine(H_hnk.out).mono ?_);rintro e w1 ⟨⟨nx,is,rfl,hN⟩,hg1⟩;have H_hN:=h_ hN;have H_hg1:=h_ hg1;clear hN hg1))
 have z1:=H_hg1.out.blk H_h.out
 clear c_h f_h p_h l_h c_y1 f_y1 p_y1 l_y1
 cases is with
 | false=>
  obtain⟨c_z1,f_z1,p_z1,l_z1,H_z1⟩:=Vg.lay z1;clear z1
  go_wp2_with ((go_at_call 112;(with_reducible refine(H_hrk.out _ H_hg1.out).mono ?_);rintro e w2 ⟨rfl,hw2⟩;have H_hw2:=h_ hw2;clear hw2))
  go_returns
  exact⟨rfl,nx,false,H_hN.out,by unfold Vg.lookS;rw[if_pos rfl,H_hq.out];exact SW.pre H_hg1.out H_hw2.out⟩
 | true=>
  have hnr:0<=nx/\nx<=4503599627370496:=by
   rcases H_hN.out with⟨h9,_⟩|⟨_,⟨z,hz⟩,_⟩
   ·simp at h9
   ·exact H_hvr.out z nx hz
  by_cases hsame:ar=true/\goal=nx
  ·obtain⟨rfl,rfl⟩:=hsame
   obtain⟨c_z1,f_z1,p_z1,l_z1,H_z1⟩:=Vg.lay z1;clear z1
   go_wp2_with fail
   go_returns
   exact⟨rfl,goal,true,H_hN.out,by
    unfold Vg.lookS
    rw[if_neg (by simp),if_pos ⟨rfl,rfl⟩]
    exact⟨H_z1.out,Vg.Touch.of_grows (by have h9:=H_hg1.out;exact Vg.gro)⟩⟩
  ·obtain⟨c_z1,f_z1,p_z1,l_z1,H_z1⟩:=Vg.lay z1;clear z1
   go_upto_region 3 with fail
   go_cut [23] (fun v wz=>v=.bool false/\w1=wz)
   case first=>
    cases ar with
    | false=>
     go_wp2_with fail
     go_meet
     exact⟨by simp,rfl⟩
    | true=>
     have hg:(goal==nx)=false:=by simpa using hsame
     go_wp2_with fail
     go_meet
     exact⟨by simp[hg],rfl⟩
   obtain⟨rfl,hw1⟩:=hcut
   subst hw1
   by_cases hle:nx<=t
   ·skip
    go_upto_region 5 with fail
    obtain⟨u1,hu1⟩:∃u1,Vg.put w1 sb (svcC mn mx ⟨⟨c,n,ha,la⟩,t,true,nx,false⟩ tb)=u1:=⟨_,rfl⟩
    have hu1':=hu1
    simp only[svcC]at hu1'
    have su1:SW w1 u1 sb (svcC mn mx ⟨⟨c,n,ha,la⟩,t,true,nx,false⟩ tb):=by rw[<-hu1];exact SW.mk0 (Vg.lt_of H_z1.out)
    have zu:=su1.1
    rw[hu1']
    clear hu1 hu1' c_z1 f_z1 p_z1 l_z1
    obtain⟨c_zu,f_zu,p_zu,l_zu,H_zu⟩:=Vg.lay zu;clear zu
    have hak:=fun wz=>arm_past (c:=c) (n:=n) (ar:=ha) (la:=la) wz hm H_hc.out ht hnr hle
    have hS:Vg.lookS mn mx ⟨⟨c,n,ha,la⟩,t,ar,goal,past⟩ nx true=⟨⟨c,n,false,la⟩,t,true,nx,true⟩:=by unfold Vg.lookS;rw[if_neg (by simp),if_neg hsame];unfold Vg.armS;rw[if_pos hle]
    have H_hak:=h_ hak;have H_hS:=h_ hS;clear hak hS
    have H_su1:=h_ su1;clear su1
    refine wp_region_held_drew (S:=fun w'=>sb<w'.heap.size/\w'.cell? ⟨sb,0,none⟩=some (.int .i64 mn)/\w'.cell? ⟨sb,1,none⟩=some (.int .i64 mx)/\w'.cell? ⟨sb,2,none⟩=some (.int .u32 c)/\w'.cell? ⟨sb,3,none⟩=some (.int .u32 n)/\w'.cell? ⟨sb,4,none⟩=some (.bool ha)/\w'.cell? ⟨sb,5,none⟩=some (.bool la)/\w'.cell? ⟨sb,6,none⟩=some (.int .i64 t)) (by kernel_rfl) (by go_split_ands <;> (try dsimp only) <;> go_simp) (fun hHeld=>?_)
    refine tk 0 ?_
    refine tk 1 ?_
    refine tk 2 ?_
    refine tk 3 ?_
    refine tk 4 ?_
    refine tk 5 ?_
    refine tk 6 ?_
    refine tk 7 ?_
    refine tk 8 ?_
    refine wpAnyH_ready (rs:=[9,14]) (by kernel_rfl) (by simp) ?_
    refine AllReadyH.cons (o:=_) rfl (fun K hK=>?st10) ?mo10
    case st10=>
     go_simp
     ((go_at_call 147;(with_reducible refine(H_hak.out _).mono ?_);rintro e7 w7 ⟨rfl,x7,n7,rfl⟩))
     all_goals(try go_wp2_with fail)
     refine hK.out _ _ (by go_split_ands <;> (try dsimp only) <;> go_simp) (fun hHeld10=>?_)
     clear hK K
     refine tk 10 ?_
     refine tk 11 ?_
     refine tk 12 ?_
     refine tk 13 ?_
     refine wpAnyH_ready (rs:=[14]) (by kernel_rfl) (by simp) ?_
     refine AllReadyH.cons (o:=_) rfl (fun K hK=>?st15) ?mo15
     case st15=>
      go_simp
      refine hK.out _ _ (by go_split_ands <;> (try dsimp only) <;> go_simp) (fun hHeld15=>?_)
      clear hK K
      refine wpAnyH_ready (rs:=[15]) (by kernel_rfl) (by simp) ?_
      refine AllReadyH.cons (o:=_) rfl (fun K hK=>?st16) ?mo16
      case st16=>
       go_simp
       refine hK.out _ _ (by go_split_ands <;> (try dsimp only) <;> go_simp) (fun hHeld16=>?_)
       clear hK K
       refine tk 16 ?_
       refine tk 17 ?_
       refine wpAnyH_done (by kernel_rfl) ?_ _
       go_wp2_with fail
       go_returns
       exact⟨rfl,nx,true,H_hN.out,by rw[H_hS.out];exact SW.pre H_hg1.out (SW.trans H_su1.out (SW.grows (w:=Vg.put u1 sb (svcC mn mx ⟨⟨c,n,false,la⟩,t,true,nx,true⟩ tb)) (SW.mk0 l_zu) (Vg.gro)))⟩
      exact AllReadyH.nil
     exact AllReadyH.nil
    refine AllReadyH.cons (o:=_) rfl (fun K hK=>?st19) ?mo19
    case st19=>
     go_simp
     refine hK.out _ _ (by go_split_ands <;> (try dsimp only) <;> go_simp) (fun hHeld19=>?_)
     clear hK K
     refine wpAnyH_ready (rs:=[9]) (by kernel_rfl) (by simp) ?_
     refine AllReadyH.cons (o:=_) rfl (fun K hK=>?st20) ?mo20
     case st20=>
      go_simp
      ((go_at_call 147;(with_reducible refine(H_hak.out _).mono ?_);rintro e7 w7 ⟨rfl,x7,n7,rfl⟩))
      all_goals(try go_wp2_with fail)
      refine hK.out _ _ (by go_split_ands <;> (try dsimp only) <;> go_simp) (fun hHeld20=>?_)
      clear hK K
      refine tk 10 ?_
      refine tk 11 ?_
      refine tk 12 ?_
      refine tk 13 ?_
      refine wpAnyH_ready (rs:=[15]) (by kernel_rfl) (by simp) ?_
      refine AllReadyH.cons (o:=_) rfl (fun K hK=>?st25) ?mo25
      case st25=>
       go_simp
       refine hK.out _ _ (by go_split_ands <;> (try dsimp only) <;> go_simp) (fun hHeld25=>?_)
       clear hK K
       refine tk 16 ?_
       refine tk 17 ?_
       refine wpAnyH_done (by kernel_rfl) ?_ _
       go_wp2_with fail
       go_returns
       exact⟨rfl,nx,true,H_hN.out,by rw[H_hS.out];exact SW.pre H_hg1.out (SW.trans H_su1.out (SW.grows (w:=Vg.put u1 sb (svcC mn mx ⟨⟨c,n,false,la⟩,t,true,nx,true⟩ tb)) (SW.mk0 l_zu) (Vg.gro)))⟩
      exact AllReadyH.nil
     exact AllReadyH.nil
    exact AllReadyH.nil
   ·by_cases hwk:Vg.wk0 mn mx t nx<=4503599627370496
    ·skip
     go_upto_region 5 with fail
     obtain⟨u1,hu1⟩:∃u1,Vg.put w1 sb (svcC mn mx ⟨⟨c,n,ha,la⟩,t,true,nx,false⟩ tb)=u1:=⟨_,rfl⟩
     have hu1':=hu1
     simp only[svcC]at hu1'
     have su1:SW w1 u1 sb (svcC mn mx ⟨⟨c,n,ha,la⟩,t,true,nx,false⟩ tb):=by rw[<-hu1];exact SW.mk0 (Vg.lt_of H_z1.out)
     have zu:=su1.1
     rw[hu1']
     clear hu1 hu1' c_z1 f_z1 p_z1 l_z1
     obtain⟨c_zu,f_zu,p_zu,l_zu,H_zu⟩:=Vg.lay zu;clear zu
     have hak:=fun wz=>arm_at (c:=c) (n:=n) (ar:=ha) (la:=la) wz hm H_hc.out ht hnr (by omega) hwk
     have hS:Vg.lookS mn mx ⟨⟨c,n,ha,la⟩,t,ar,goal,past⟩ nx true=⟨⟨c,Vg.low (Vg.wk0 mn mx t nx),true,la⟩,t,true,nx,false⟩:=by unfold Vg.lookS;rw[if_neg (by simp),if_neg hsame];unfold Vg.armS;rw[if_neg hle,if_pos hwk]
     obtain⟨k,hk2,hk4,-⟩:=hak w
     clear hk2 hk4 k
     have H_hak:=h_ hak;have H_hS:=h_ hS;clear hak hS
     have H_su1:=h_ su1;clear su1
     refine wp_region_held_drew (S:=fun w'=>sb<w'.heap.size/\w'.cell? ⟨sb,0,none⟩=some (.int .i64 mn)/\w'.cell? ⟨sb,1,none⟩=some (.int .i64 mx)/\w'.cell? ⟨sb,2,none⟩=some (.int .u32 c)/\w'.cell? ⟨sb,3,none⟩=some (.int .u32 n)/\w'.cell? ⟨sb,4,none⟩=some (.bool ha)/\w'.cell? ⟨sb,5,none⟩=some (.bool la)/\w'.cell? ⟨sb,6,none⟩=some (.int .i64 t)) (by kernel_rfl) (by go_split_ands <;> (try dsimp only) <;> go_simp) (fun hHeld=>?_)
     refine tk 0 ?_
     refine tk 1 ?_
     refine tk 2 ?_
     refine tk 3 ?_
     refine tk 4 ?_
     refine tk 5 ?_
     refine tk 6 ?_
     refine tk 7 ?_
     refine tk 8 ?_
     refine wpAnyH_ready (rs:=[9,14]) (by kernel_rfl) (by simp) ?_
     refine AllReadyH.cons (o:=_) rfl (fun K hK=>?st37) ?mo37
     case st37=>
      go_simp
      (obtain⟨k9,hk92,hk94,hak9⟩:=H_hak.out _;have hk9:(k9==1)=false:=(by simp;omega);(go_at_call 147;(with_reducible refine(hak9).mono ?_);rintro e7 w7 ⟨rfl,x7,n7,rfl⟩))
      all_goals(try go_wp2_with fail)
      refine hK.out _ _ (by go_split_ands <;> (try dsimp only) <;> go_simp) (fun hHeld37=>?_)
      clear hK K
      refine tk 10 ?_
      refine tk 11 ?_
      refine tk 12 ?_
      refine tk 13 ?_
      refine wpAnyH_ready (rs:=[14]) (by kernel_rfl) (by simp) ?_
      refine AllReadyH.cons (o:=_) rfl (fun K hK=>?st42) ?mo42
      case st42=>
       go_simp
       refine hK.out _ _ (by go_split_ands <;> (try dsimp only) <;> go_simp) (fun hHeld42=>?_)
       clear hK K
       refine wpAnyH_ready (rs:=[15]) (by kernel_rfl) (by simp) ?_
       refine AllReadyH.cons (o:=_) rfl (fun K hK=>?st43) ?mo43
       case st43=>
        go_simp
        refine hK.out _ _ (by go_split_ands <;> (try dsimp only) <;> go_simp) (fun hHeld43=>?_)
        clear hK K
        refine tk 16 ?_
        refine tk 17 ?_
        refine wpAnyH_done (by kernel_rfl) ?_ _
        go_wp2_with fail
        go_returns
        exact⟨rfl,nx,true,H_hN.out,by rw[H_hS.out];exact SW.pre H_hg1.out (SW.trans H_su1.out (SW.grows (w:=Vg.put u1 sb (svcC mn mx ⟨⟨c,Vg.low (Vg.wk0 mn mx t nx),true,la⟩,t,true,nx,false⟩ tb)) (SW.mk0 l_zu) (Vg.gro)))⟩
       exact AllReadyH.nil
      exact AllReadyH.nil
     refine AllReadyH.cons (o:=_) rfl (fun K hK=>?st46) ?mo46
     case st46=>
      go_simp
      refine hK.out _ _ (by go_split_ands <;> (try dsimp only) <;> go_simp) (fun hHeld46=>?_)
      clear hK K
      refine wpAnyH_ready (rs:=[9]) (by kernel_rfl) (by simp) ?_
      refine AllReadyH.cons (o:=_) rfl (fun K hK=>?st47) ?mo47
      case st47=>
       go_simp
       (obtain⟨k9,hk92,hk94,hak9⟩:=H_hak.out _;have hk9:(k9==1)=false:=(by simp;omega);(go_at_call 147;(with_reducible refine(hak9).mono ?_);rintro e7 w7 ⟨rfl,x7,n7,rfl⟩))
       all_goals(try go_wp2_with fail)
       refine hK.out _ _ (by go_split_ands <;> (try dsimp only) <;> go_simp) (fun hHeld47=>?_)
       clear hK K
       refine tk 10 ?_
       refine tk 11 ?_
       refine tk 12 ?_
       refine tk 13 ?_
       refine wpAnyH_ready (rs:=[15]) (by kernel_rfl) (by simp) ?_
       refine AllReadyH.cons (o:=_) rfl (fun K hK=>?st52) ?mo52
       case st52=>
        go_simp
        refine hK.out _ _ (by go_split_ands <;> (try dsimp only) <;> go_simp) (fun hHeld52=>?_)
        clear hK K
        refine tk 16 ?_
        refine tk 17 ?_
        refine wpAnyH_done (by kernel_rfl) ?_ _
        go_wp2_with fail
        go_returns
        exact⟨rfl,nx,true,H_hN.out,by rw[H_hS.out];exact SW.pre H_hg1.out (SW.trans H_su1.out (SW.grows (w:=Vg.put u1 sb (svcC mn mx ⟨⟨c,Vg.low (Vg.wk0 mn mx t nx),true,la⟩,t,true,nx,false⟩ tb)) (SW.mk0 l_zu) (Vg.gro)))⟩
       exact AllReadyH.nil
      exact AllReadyH.nil
     exact AllReadyH.nil
    ·skip
     go_upto_region 5 with fail
     obtain⟨u1,hu1⟩:∃u1,Vg.put w1 sb (svcC mn mx ⟨⟨c,n,ha,la⟩,t,true,nx,false⟩ tb)=u1:=⟨_,rfl⟩
     have hu1':=hu1
     simp only[svcC]at hu1'
     have su1:SW w1 u1 sb (svcC mn mx ⟨⟨c,n,ha,la⟩,t,true,nx,false⟩ tb):=by rw[<-hu1];exact SW.mk0 (Vg.lt_of H_z1.out)
     have zu:=su1.1
     rw[hu1']
     clear hu1 hu1' c_z1 f_z1 p_z1 l_z1
     obtain⟨c_zu,f_zu,p_zu,l_zu,H_zu⟩:=Vg.lay zu;clear zu
     have hak:=fun wz=>arm_end (c:=c) (n:=n) (ar:=ha) (la:=la) wz hm H_hc.out ht hnr (by omega) (by omega)
     have hS:Vg.lookS mn mx ⟨⟨c,n,ha,la⟩,t,ar,goal,past⟩ nx true=⟨⟨c,0,true,la⟩,t,true,nx,decide (t=4503599627370496)⟩:=by unfold Vg.lookS;rw[if_neg (by simp),if_neg hsame];unfold Vg.armS;rw[if_neg hle,if_neg hwk]
     have H_hak:=h_ hak;have H_hS:=h_ hS;clear hak hS
     have H_su1:=h_ su1;clear su1
     refine wp_region_held_drew (S:=fun w'=>sb<w'.heap.size/\w'.cell? ⟨sb,0,none⟩=some (.int .i64 mn)/\w'.cell? ⟨sb,1,none⟩=some (.int .i64 mx)/\w'.cell? ⟨sb,2,none⟩=some (.int .u32 c)/\w'.cell? ⟨sb,3,none⟩=some (.int .u32 n)/\w'.cell? ⟨sb,4,none⟩=some (.bool ha)/\w'.cell? ⟨sb,5,none⟩=some (.bool la)/\w'.cell? ⟨sb,6,none⟩=some (.int .i64 t)) (by kernel_rfl) (by go_split_ands <;> (try dsimp only) <;> go_simp) (fun hHeld=>?_)
     refine tk 0 ?_
     refine tk 1 ?_
     refine tk 2 ?_
     refine tk 3 ?_
     refine tk 4 ?_
     refine tk 5 ?_
     refine tk 6 ?_
     refine tk 7 ?_
     refine tk 8 ?_
     refine wpAnyH_ready (rs:=[9,14]) (by kernel_rfl) (by simp) ?_
     refine AllReadyH.cons (o:=_) rfl (fun K hK=>?st64) ?mo64
     case st64=>
      go_simp
      ((go_at_call 147;(with_reducible refine(H_hak.out _).mono ?_);rintro e7 w7 ⟨rfl,x7,n7,rfl⟩))
      all_goals(try go_wp2_with fail)
      refine hK.out _ _ (by go_split_ands <;> (try dsimp only) <;> go_simp) (fun hHeld64=>?_)
      clear hK K
      refine tk 10 ?_
      refine tk 11 ?_
      refine tk 12 ?_
      refine tk 13 ?_
      refine wpAnyH_ready (rs:=[14]) (by kernel_rfl) (by simp) ?_
      refine AllReadyH.cons (o:=_) rfl (fun K hK=>?st69) ?mo69
      case st69=>
       go_simp
       refine hK.out _ _ (by go_split_ands <;> (try dsimp only) <;> go_simp) (fun hHeld69=>?_)
       clear hK K
       refine wpAnyH_ready (rs:=[15]) (by kernel_rfl) (by simp) ?_
       refine AllReadyH.cons (o:=_) rfl (fun K hK=>?st70) ?mo70
       case st70=>
        go_simp
        refine hK.out _ _ (by go_split_ands <;> (try dsimp only) <;> go_simp) (fun hHeld70=>?_)
        clear hK K
        refine tk 16 ?_
        refine tk 17 ?_
        refine wpAnyH_done (by kernel_rfl) ?_ _
        go_upto_region 7 with fail
        refine wp_region_held_drew (S:=fun w'=>sb<w'.heap.size) (by kernel_rfl) (by go_split_ands <;> (try dsimp only) <;> go_simp) (fun hHeld=>?_)
        refine tk 0 ?_
        refine tk 1 ?_
        refine tk 2 ?_
        refine tk 3 ?_
        refine tk 4 ?_
        refine wpAnyH_ready (rs:=[5,6]) (by kernel_rfl) (by simp) ?_
        refine AllReadyH.cons (o:=_) rfl (fun K hK=>?st78) ?mo78
        case st78=>
         go_simp
         refine hK.out _ _ (by go_split_ands <;> (try dsimp only) <;> go_simp) (fun hHeld78=>?_)
         clear hK K
         refine wpAnyH_ready (rs:=[6]) (by kernel_rfl) (by simp) ?_
         refine AllReadyH.cons (o:=_) rfl (fun K hK=>?st79) ?mo79
         case st79=>
          go_simp
          ((go_at_call 149;(with_reducible refine(svc_last _).mono ?_);rintro e8 w8 ⟨rfl,rfl⟩))
          all_goals(try go_wp2_with fail)
          refine hK.out _ _ (by go_split_ands <;> (try dsimp only) <;> go_simp) (fun hHeld79=>?_)
          clear hK K
          refine wpAnyH_ready (rs:=[7]) (by kernel_rfl) (by simp) ?_
          refine AllReadyH.cons (o:=_) rfl (fun K hK=>?st80) ?mo80
          case st80=>
           go_simp
           ((go_at_call 148;(with_reducible refine(hw_arm c n ha la 0 _).mono ?_);rintro e9 w9 ⟨rfl,x9,n9,rfl⟩))
           all_goals(try go_wp2_with fail)
           refine hK.out _ _ (by go_split_ands <;> (try dsimp only) <;> go_simp) (fun hHeld80=>?_)
           clear hK K
           refine tk 8 ?_
           refine tk 9 ?_
           refine tk 10 ?_
           refine wpAnyH_ready (rs:=[11]) (by kernel_rfl) (by simp) ?_
           refine AllReadyH.cons (o:=_) rfl (fun K hK=>?st84) ?mo84
           case st84=>
            go_simp
            refine hK.out _ _ (by go_split_ands <;> (try dsimp only) <;> go_simp) (fun hHeld84=>?_)
            clear hK K
            refine wpAnyH_done (by kernel_rfl) ?_ _
            go_wp2_with ((go_at_call 26;(with_reducible refine(svc_now_c (t:=t) (by go_simp)).mono ?_);rintro e8 w8 ⟨rfl,rfl⟩))
            go_returns
            have htf:(t==4503599627370496)=false:=(by simp;omega)
            have hdf:decide (t=4503599627370496)=false:=(by simp;omega)
            have hS9:=H_hS.out
            rw[hdf]at hS9
            rw[htf]
            exact⟨rfl,nx,true,H_hN.out,by rw[hS9];exact SW.pre H_hg1.out (SW.trans H_su1.out (SW.grows (w:=Vg.put u1 sb (svcC mn mx ⟨⟨c,0,true,la⟩,t,true,nx,false⟩ tb)) (SW.mk0 l_zu) (Vg.gro)))⟩
           exact AllReadyH.nil
          exact AllReadyH.nil
         exact AllReadyH.nil
        refine AllReadyH.cons (o:=_) rfl (fun K hK=>?st85) ?mo85
        case st85=>
         go_simp
         ((go_at_call 149;(with_reducible refine(svc_last _).mono ?_);rintro e8 w8 ⟨rfl,rfl⟩))
         all_goals(try go_wp2_with fail)
         refine hK.out _ _ (by go_split_ands <;> (try dsimp only) <;> go_simp) (fun hHeld85=>?_)
         clear hK K
         refine wpAnyH_ready (rs:=[5]) (by kernel_rfl) (by simp) ?_
         refine AllReadyH.cons (o:=_) rfl (fun K hK=>?st86) ?mo86
         case st86=>
          go_simp
          refine hK.out _ _ (by go_split_ands <;> (try dsimp only) <;> go_simp) (fun hHeld86=>?_)
          clear hK K
          refine wpAnyH_ready (rs:=[7]) (by kernel_rfl) (by simp) ?_
          refine AllReadyH.cons (o:=_) rfl (fun K hK=>?st87) ?mo87
          case st87=>
           go_simp
           ((go_at_call 148;(with_reducible refine(hw_arm c n ha la 0 _).mono ?_);rintro e9 w9 ⟨rfl,x9,n9,rfl⟩))
           all_goals(try go_wp2_with fail)
           refine hK.out _ _ (by go_split_ands <;> (try dsimp only) <;> go_simp) (fun hHeld87=>?_)
           clear hK K
           refine tk 8 ?_
           refine tk 9 ?_
           refine tk 10 ?_
           refine wpAnyH_ready (rs:=[11]) (by kernel_rfl) (by simp) ?_
           refine AllReadyH.cons (o:=_) rfl (fun K hK=>?st91) ?mo91
           case st91=>
            go_simp
            refine hK.out _ _ (by go_split_ands <;> (try dsimp only) <;> go_simp) (fun hHeld91=>?_)
            clear hK K
            refine wpAnyH_done (by kernel_rfl) ?_ _
            go_wp2_with ((go_at_call 26;(with_reducible refine(svc_now_c (t:=t) (by go_simp)).mono ?_);rintro e8 w8 ⟨rfl,rfl⟩))
            go_returns
            have htf:(t==4503599627370496)=false:=(by simp;omega)
            have hdf:decide (t=4503599627370496)=false:=(by simp;omega)
            have hS9:=H_hS.out
            rw[hdf]at hS9
            rw[htf]
            exact⟨rfl,nx,true,H_hN.out,by rw[hS9];exact SW.pre H_hg1.out (SW.trans H_su1.out (SW.grows (w:=Vg.put u1 sb (svcC mn mx ⟨⟨c,0,true,la⟩,t,true,nx,false⟩ tb)) (SW.mk0 l_zu) (Vg.gro)))⟩
           exact AllReadyH.nil
          exact AllReadyH.nil
         exact AllReadyH.nil
        exact AllReadyH.nil
       exact AllReadyH.nil
      exact AllReadyH.nil
     refine AllReadyH.cons (o:=_) rfl (fun K hK=>?st92) ?mo92
     case st92=>
      go_simp
      refine hK.out _ _ (by go_split_ands <;> (try dsimp only) <;> go_simp) (fun hHeld92=>?_)
      clear hK K
      refine wpAnyH_ready (rs:=[9]) (by kernel_rfl) (by simp) ?_
      refine AllReadyH.cons (o:=_) rfl (fun K hK=>?st93) ?mo93
      case st93=>
       go_simp
       ((go_at_call 147;(with_reducible refine(H_hak.out _).mono ?_);rintro e7 w7 ⟨rfl,x7,n7,rfl⟩))
       all_goals(try go_wp2_with fail)
       refine hK.out _ _ (by go_split_ands <;> (try dsimp only) <;> go_simp) (fun hHeld93=>?_)
       clear hK K
       refine tk 10 ?_
       refine tk 11 ?_
       refine tk 12 ?_
       refine tk 13 ?_
       refine wpAnyH_ready (rs:=[15]) (by kernel_rfl) (by simp) ?_
       refine AllReadyH.cons (o:=_) rfl (fun K hK=>?st98) ?mo98
       case st98=>
        go_simp
        refine hK.out _ _ (by go_split_ands <;> (try dsimp only) <;> go_simp) (fun hHeld98=>?_)
        clear hK K
        refine tk 16 ?_
        refine tk 17 ?_
        refine wpAnyH_done (by kernel_rfl) ?_ _
        go_upto_region 7 with fail
        refine wp_region_held_drew (S:=fun w'=>sb<w'.heap.size) (by kernel_rfl) (by go_split_ands <;> (try dsimp only) <;> go_simp) (fun hHeld=>?_)
        refine tk 0 ?_
        refine tk 1 ?_
        refine tk 2 ?_
        refine tk 3 ?_
        refine tk 4 ?_
        refine wpAnyH_ready (rs:=[5,6]) (by kernel_rfl) (by simp) ?_
        refine AllReadyH.cons (o:=_) rfl (fun K hK=>?st106) ?mo106
        case st106=>
         go_simp
         refine hK.out _ _ (by go_split_ands <;> (try dsimp only) <;> go_simp) (fun hHeld106=>?_)
         clear hK K
         refine wpAnyH_ready (rs:=[6]) (by kernel_rfl) (by simp) ?_
         refine AllReadyH.cons (o:=_) rfl (fun K hK=>?st107) ?mo107
         case st107=>
          go_simp
          ((go_at_call 149;(with_reducible refine(svc_last _).mono ?_);rintro e8 w8 ⟨rfl,rfl⟩))
          all_goals(try go_wp2_with fail)
          refine hK.out _ _ (by go_split_ands <;> (try dsimp only) <;> go_simp) (fun hHeld107=>?_)
          clear hK K
          refine wpAnyH_ready (rs:=[7]) (by kernel_rfl) (by simp) ?_
          refine AllReadyH.cons (o:=_) rfl (fun K hK=>?st108) ?mo108
          case st108=>
           go_simp
           ((go_at_call 148;(with_reducible refine(hw_arm c n ha la 0 _).mono ?_);rintro e9 w9 ⟨rfl,x9,n9,rfl⟩))
           all_goals(try go_wp2_with fail)
           refine hK.out _ _ (by go_split_ands <;> (try dsimp only) <;> go_simp) (fun hHeld108=>?_)
           clear hK K
           refine tk 8 ?_
           refine tk 9 ?_
           refine tk 10 ?_
           refine wpAnyH_ready (rs:=[11]) (by kernel_rfl) (by simp) ?_
           refine AllReadyH.cons (o:=_) rfl (fun K hK=>?st112) ?mo112
           case st112=>
            go_simp
            refine hK.out _ _ (by go_split_ands <;> (try dsimp only) <;> go_simp) (fun hHeld112=>?_)
            clear hK K
            refine wpAnyH_done (by kernel_rfl) ?_ _
            go_wp2_with ((go_at_call 26;(with_reducible refine(svc_now_c (t:=t) (by go_simp)).mono ?_);rintro e8 w8 ⟨rfl,rfl⟩))
            go_returns
            have htf:(t==4503599627370496)=false:=(by simp;omega)
            have hdf:decide (t=4503599627370496)=false:=(by simp;omega)
            have hS9:=H_hS.out
            rw[hdf]at hS9
            rw[htf]
            exact⟨rfl,nx,true,H_hN.out,by rw[hS9];exact SW.pre H_hg1.out (SW.trans H_su1.out (SW.grows (w:=Vg.put u1 sb (svcC mn mx ⟨⟨c,0,true,la⟩,t,true,nx,false⟩ tb)) (SW.mk0 l_zu) (Vg.gro)))⟩
           exact AllReadyH.nil
          exact AllReadyH.nil
         exact AllReadyH.nil
        refine AllReadyH.cons (o:=_) rfl (fun K hK=>?st113) ?mo113
        case st113=>
         go_simp
         ((go_at_call 149;(with_reducible refine(svc_last _).mono ?_);rintro e8 w8 ⟨rfl,rfl⟩))
         all_goals(try go_wp2_with fail)
         refine hK.out _ _ (by go_split_ands <;> (try dsimp only) <;> go_simp) (fun hHeld113=>?_)
         clear hK K
         refine wpAnyH_ready (rs:=[5]) (by kernel_rfl) (by simp) ?_
         refine AllReadyH.cons (o:=_) rfl (fun K hK=>?st114) ?mo114
         case st114=>
          go_simp
          refine hK.out _ _ (by go_split_ands <;> (try dsimp only) <;> go_simp) (fun hHeld114=>?_)
          clear hK K
          refine wpAnyH_ready (rs:=[7]) (by kernel_rfl) (by simp) ?_
          refine AllReadyH.cons (o:=_) rfl (fun K hK=>?st115) ?mo115
          case st115=>
           go_simp
           ((go_at_call 148;(with_reducible refine(hw_arm c n ha la 0 _).mono ?_);rintro e9 w9 ⟨rfl,x9,n9,rfl⟩))
           all_goals(try go_wp2_with fail)
           refine hK.out _ _ (by go_split_ands <;> (try dsimp only) <;> go_simp) (fun hHeld115=>?_)
           clear hK K
           refine tk 8 ?_
           refine tk 9 ?_
           refine tk 10 ?_
           refine wpAnyH_ready (rs:=[11]) (by kernel_rfl) (by simp) ?_
           refine AllReadyH.cons (o:=_) rfl (fun K hK=>?st119) ?mo119
           case st119=>
            go_simp
            refine hK.out _ _ (by go_split_ands <;> (try dsimp only) <;> go_simp) (fun hHeld119=>?_)
            clear hK K
            refine wpAnyH_done (by kernel_rfl) ?_ _
            go_wp2_with ((go_at_call 26;(with_reducible refine(svc_now_c (t:=t) (by go_simp)).mono ?_);rintro e8 w8 ⟨rfl,rfl⟩))
            go_returns
            have htf:(t==4503599627370496)=false:=(by simp;omega)
            have hdf:decide (t=4503599627370496)=false:=(by simp;omega)
            have hS9:=H_hS.out
            rw[hdf]at hS9
            rw[htf]
            exact⟨rfl,nx,true,H_hN.out,by rw[hS9];exact SW.pre H_hg1.out (SW.trans H_su1.out (SW.grows (w:=Vg.put u1 sb (svcC mn mx ⟨⟨c,0,true,la⟩,t,true,nx,false⟩ tb)) (SW.mk0 l_zu) (Vg.gro)))⟩
           exact AllReadyH.nil
          exact AllReadyH.nil
         exact AllReadyH.nil
        exact AllReadyH.nil
       exact AllReadyH.nil
      exact AllReadyH.nil
     exact AllReadyH.nil
end
end Go.Proofs.YtlkdkgefjipjmaaGreatDoor
namespace Vg
def wkA(mn mx t0 g:Int):Int:=if g<=t0 then t0 else if wk0 mn mx t0 g<=4503599627370496 then wk0 mn mx t0 g else 4503599627370496
structure SvB(mn mx:Int)(s:Sv)(t0:Int):Prop where
 tm:1<=mn/\mx<2147483648/\2*mn<=mx
 cnt:s.h.count=low s.t
 cmp:0<=s.h.compare/\s.h.compare<=4294967295
 tr:0<=t0/\t0<=s.t/\s.t<=4503599627370496
def SvA(mn mx:Int)(s:Sv)(t0:Int):Prop:=
 s.goal<=4503599627370496/\((s.past=true/\s.goal<=t0/\s.t=t0)\/(s.past=false/\s.h.armed=true/\t0<s.goal/\s.t<wkA mn mx t0 s.goal/\s.h.compare=low (wkA mn mx t0 s.goal)))
structure Sok(mn mx:Int)(s:Sv)(V:Int->Option Int)(t0:Int):Prop where
 b:SvB mn mx s t0
 no:s.ar=false->∀z,V z=none
 yes:s.ar=true->(∃z,V z=some s.goal)/\∀z t,V z=some t->s.goal<=t
 a:s.ar=true->SvA mn mx s t0
section
variable {mn mx t0 g nx m:Int}{s:Sv}{V:Int->Option Int}{is:Bool}
theorem wkA_rng(h:1<=mn/\mx<2147483648/\2*mn<=mx)(hg:g<=4503599627370496)(hd:t0<g):t0<wkA mn mx t0 g/\wkA mn mx t0 g<=t0+2147483647/\wkA mn mx t0 g<g+mn/\wkA mn mx t0 g<=4503599627370496:=by
 obtain⟨h1,h2,h3⟩:=wk0_rng h hd
 unfold wkA
 rw[if_neg (by omega)]
 split<;>omega
theorem wkA_past(hd:g<=t0):wkA mn mx t0 g=t0:=by unfold wkA;rw[if_pos hd]
theorem Sok.wake(h:Sok mn mx s V t0):wakeV s=if s.ar=true then(wkA mn mx t0 s.goal,true)else(0,false):=by
 unfold wakeV
 cases har:s.ar with
 | false=>rfl
 | true=>
  simp only[Bool.true_eq_false,if_false,if_true]
  rcases(h.a har).2 with⟨h1,h2,h3⟩|⟨h1,h2,h3,h4,h5⟩
  ·rw[if_pos h1,wkA_past h2,h3]
  ·rw[h1,h2]
   simp only[Bool.false_eq_true,if_false,if_true]
   have h6:=wkA_rng h.b.tm (h.a har).1 h3
   have h7:=h.b.tr
   have h8:left s.h=wkA mn mx t0 s.goal-s.t:=by
    unfold left ahead
    rw[h2,if_pos rfl,h5,h.b.cnt]
    unfold low
    omega
   rw[h8]
   congr 1
   omega
theorem SvB.arm(h:SvB mn mx s t0)(ht:s.t=t0)(hr:0<=nx/\nx<=4503599627370496):SvB mn mx (armS mn mx s nx) t0/\SvA mn mx (armS mn mx s nx) t0/\(armS mn mx s nx).ar=true/\(armS mn mx s nx).goal=nx/\(armS mn mx s nx).t=s.t:=by
 have h1:=h.cnt
 have h2:=h.cmp
 have h3:=h.tr
 by_cases hp:nx<=s.t
 ·have e:armS mn mx s nx=⟨⟨s.h.count,s.h.compare,false,s.h.latch⟩,s.t,true,nx,true⟩:=by unfold armS;rw[if_pos hp]
  rw[e]
  exact⟨⟨h.tm,h1,h2,h3⟩,⟨hr.2,.inl ⟨rfl,(by show nx<=t0;omega),ht⟩⟩,rfl,rfl,rfl⟩
 ·have hd:t0<nx:=by omega
  have hw:=wkA_rng h.tm hr.2 hd
  by_cases hk:wk0 mn mx s.t nx<=4503599627370496
  ·have e:armS mn mx s nx=⟨⟨s.h.count,low (wk0 mn mx s.t nx),true,s.h.latch⟩,s.t,true,nx,false⟩:=by unfold armS;rw[if_neg hp,if_pos hk]
   have ea:wkA mn mx t0 nx=wk0 mn mx s.t nx:=by unfold wkA;rw[<-ht,if_neg hp,if_pos hk]
   rw[e]
   exact⟨⟨h.tm,h1,low_bd _,h3⟩,⟨hr.2,.inr ⟨rfl,rfl,hd,by show s.t<wkA mn mx t0 nx;omega,by show low _=low (wkA mn mx t0 nx);rw[ea]⟩⟩,rfl,rfl,rfl⟩
  ·have e:armS mn mx s nx=⟨⟨s.h.count,0,true,s.h.latch⟩,s.t,true,nx,decide (s.t=4503599627370496)⟩:=by unfold armS;rw[if_neg hp,if_neg hk]
   have ea:wkA mn mx t0 nx=4503599627370496:=by unfold wkA;rw[<-ht,if_neg hp,if_neg hk]
   rw[e]
   exact⟨⟨h.tm,h1,by show(0:Int)<=0/\(0:Int)<=4294967295;omega,h3⟩,⟨hr.2,.inr ⟨by show decide _=false;simp;omega,rfl,hd,by show s.t<wkA mn mx t0 nx;omega,by show 0=low (wkA mn mx t0 nx);rw[ea];rfl⟩⟩,rfl,rfl,rfl⟩
theorem SvB.rest(h:SvB mn mx s t0):SvB mn mx (restS s) t0:=⟨h.tm,h.cnt,h.cmp,h.tr⟩
theorem SvB.look(h:SvB mn mx s t0)(ht:s.t=t0)(ha:s.ar=true->SvA mn mx s t0)(hn:NxV V nx is)(hV:∀z t,V z=some t->0<=t/\t<=4503599627370496):Sok mn mx (lookS mn mx s nx is) V t0/\(lookS mn mx s nx is).t=s.t:=by
 unfold lookS
 rcases hn with⟨rfl,rfl,hn⟩|⟨rfl,⟨z,hz⟩,hl⟩
 ·rw[if_pos rfl]
  exact⟨⟨h.rest,fun _=>hn,fun e=>by simp[restS]at e,fun e=>by simp[restS]at e⟩,rfl⟩
 ·rw[if_neg (by simp)]
  by_cases hs:s.ar=true/\s.goal=nx
  ·rw[if_pos hs]
   obtain⟨h1,rfl⟩:=hs
   exact⟨⟨h,fun e=>(by rw[h1]at e;cases e),fun _=>⟨⟨z,hz⟩,hl⟩,ha⟩,rfl⟩
  ·rw[if_neg hs]
   obtain⟨a1,a2,a3,a4,a5⟩:=h.arm ht (hV z nx hz)
   exact⟨⟨a1,fun e=>(by rw[a3]at e;cases e),fun _=>by rw[a4];exact⟨⟨z,hz⟩,hl⟩,fun _=>a2⟩,a5⟩
def stepS(s:Sv)(m:Int):Sv:=⟨go s.h m,s.t+m,s.ar,s.goal,s.past⟩
theorem SvB.step(h:SvB mn mx s t0)(h0:0<=m)(hM:s.t+m<=4503599627370496):SvB mn mx (stepS s m) t0:=by
 have h3:=h.tr
 exact⟨h.tm,by show(s.h.count+m)%4294967296=low (s.t+m);rw[h.cnt];unfold low;omega,h.cmp,by show 0<=t0/\t0<=s.t+m/\s.t+m<=_;omega⟩
theorem Sok.step(h:Sok mn mx s V t0)(h0:0<=m)(hM:s.t+m<=4503599627370496)(hw:s.ar=true->s.t+m<wkA mn mx t0 s.goal):Sok mn mx (stepS s m) V t0:=by
 refine⟨h.b.step h0 hM,h.no,h.yes,fun har=>?_⟩
 have hw:=hw har
 refine⟨(h.a har).1,?_⟩
 rcases(h.a har).2 with⟨h1,h2,h3⟩|⟨h1,h2,h3,h4,h5⟩
 ·rw[wkA_past h2]at hw;omega
 ·refine .inr ⟨h1,?_,h3,hw,h5⟩
  have h6:=wkA_rng h.b.tm (h.a har).1 h3
  have h7:=h.b.tr
  show(s.h.armed && !decide (ahead s.h<m))=true
  have h8:ahead s.h=wkA mn mx t0 s.goal-s.t-1:=by
   unfold ahead
   rw[h5,h.b.cnt]
   unfold low
   omega
  rw[h2,h8]
  simp;omega
def ackS(s:Sv):Sv:=⟨⟨s.h.count,s.h.compare,s.h.armed,false⟩,s.t,s.ar,s.goal,s.past⟩
end
end Vg
