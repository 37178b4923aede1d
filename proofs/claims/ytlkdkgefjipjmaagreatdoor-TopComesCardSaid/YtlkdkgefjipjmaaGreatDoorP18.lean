/- IcE, IcF, IcG, IcH, Storm, StormP, Irq (put together). -/
import Derived.Test.YtlkdkgefjipjmaaGreatDoorP17
import Derived.Test.YtlkdkgefjipjmaaGreatDoorP8
import Derived.Test.YtlkdkgefjipjmaaGreatDoorChecked
import Derived.Test.YtlkdkgefjipjmaaGreatDoorQ0
import Derived.Test.YtlkdkgefjipjmaaGreatDoorQ1
set_option linter.all false
set_option maxHeartbeats 40000000
set_option maxRecDepth 100000
namespace Go.Proofs.YtlkdkgefjipjmaaGreatDoor
open Go.ChangeShapes Go.WideShapes Go.ChangeAt Go.RowKit Go.Shelf
attribute [local go_sem] Oper.semAt_some
section
variable {w w':World}{c:Vg.Ic}{n m ed pc sc pe en g:Nat}{pa sa:Option Addr}{L:List Int}
theorem next_in (hb:Vg.blk w g=some (dkO pe en ed pa n pc sa m sc)) (h:IS w c n m pa pc sa sc) (hpe:c.pe=pe) (hen:c.en=en) (hT:Vg.Tab w) {x:Int} {is:Bool} (hx:c.nx=x) (his:decide (x≠64)=is) :
  CallsIn Fence.wide 4 Tryz.prog 188 #[.pointer (some ⟨g,0,none⟩)] w fun e w'=>e=.returned (.tuple #[.int .i64 x,.bool is])/\Below w.heap.size w w':=by
 have hro:Fence.wide.round=none:=rfl
 have hn1:1<=4:=by omega
 obtain⟨q1,q2,q3,q4⟩:=h.caps
 have hgl:=Vg.lt_of hb
 have h0l:0<w.heap.size:=World.block_lt_of_cell? w _ (hT 0 (by decide))
 obtain⟨lv,hlv⟩:∃l,c.lvl=l:=⟨_,rfl⟩
 obtain⟨ab,hab⟩:∃b,Vg.orB c.st 0=b:=⟨_,rfl⟩
 have hab64:ab<18446744073709551616:=by rw[<-hab];exact h.ok.act64
 have hpe64:pe<18446744073709551616:=by rw[<-hpe];exact h.ok.pe64
 have hen64:en<18446744073709551616:=by rw[<-hen];exact h.ok.en64
 obtain⟨cb,hcb⟩:∃b,c.cand=b:=⟨_,rfl⟩
 have hcb64:cb<18446744073709551616:=by rw[<-hcb];exact h.ok.cand64
 have e1:bits .and .u64 (pe:Int) (en:Int)=((pe &&& en:Nat):Int):=u64_and_nat _ _ hpe64 hen64
 have hpn:pe &&& en<18446744073709551616:=Nat.lt_of_le_of_lt Nat.and_le_left hpe64
 have e2:bits .andNot .u64 ((pe &&& en:Nat):Int) (ab:Int)=(cb:Int):=by
  have:=u64_andNot_nat (pe &&& en) ab hpn hab64
  rw[this,<-hcb,<-hab,<-hpe,<-hen]
  rfl
 obtain⟨pn,hpnn⟩:∃p,pe &&& en=p:=⟨_,rfl⟩
 rw[hpnn]at e1 e2
 clear hpn
 obtain⟨c_hb,f_hb,p_hb,l_hb,H_hb⟩:=Vg.lay hb;clear hb
 have H_h:=h_ h;have H_hT:=h_ hT;have H_hpe:=h_ hpe;have H_hen:=h_ hen;have H_hx:=h_ hx;have H_his:=h_ his;have H_hlv:=h_ hlv;have H_hab:=h_ hab;have H_hab64:=h_ hab64;have H_hpe64:=h_ hpe64;have H_hen64:=h_ hen64;have H_hcb:=h_ hcb;have H_hcb64:=h_ hcb64;have H_hpnn:=h_ hpnn;clear h hT hpe hen hx his hlv hab hab64 hpe64 hen64 hcb hcb64 hpnn
 have hmx:Tryz.prog.follows .mixedOrders=true:=by kernel_rfl
 refine callsIn_of_wp_marks Tryz.func188 rfl trivial ?_ rfl
 simp only[Tryz.ntmps188,List.size_toArray,List.length_cons,List.length_nil,Nat.reduceAdd,Nat.reduceSub,Array.replicate_succ,Array.replicate_zero,List.push_toArray,List.append_toArray,List.nil_append,List.cons_append]
 gi_wp2_with (first|(refine⟨trivial,?_⟩;gi_at_call 213;refine(callsIn_wide.2 (ic_level (w:=w.alloc (.cells #[.pointer (some ⟨g,0,none⟩)] 305)) (((Vg.Grows.refl w).alloc _).blk H_hb.out) (H_h.out.grows (Vg.gro)) H_hlv.out)).mono ?_;rintro e w1 ⟨rfl,x1,m1,rfl⟩))
 obtain⟨W1,hW1,y1,yB,yM,yg,hgw,hs1⟩:∃W1,((Vg.plus (w.alloc (.cells #[.pointer (some ⟨g,0,none⟩)] 305)) x1 m1).alloc (.cells #[.int .i64 64] 3)).alloc (.cells #[.int .i64 lv] 3)=W1/\Vg.blk W1 w.heap.size=some (.cells #[.pointer (some ⟨g,0,none⟩)] 305)/\Vg.blk W1 (w.heap.size+1+Vg.sz x1)=some (.cells #[.int .i64 64] 3)/\Vg.blk W1 (w.heap.size+1+Vg.sz x1+1)=some (.cells #[.int .i64 lv] 3)/\Vg.blk W1 g=some (dkO pe en ed pa n pc sa m sc)/\Vg.Grows w W1/\W1.heap.size=w.heap.size+1+Vg.sz x1+1+1:=by
  refine⟨_,rfl,?_,?_,?_,?_,Vg.gro,?_⟩
  ·exact Vg.Grows.blk (w0:=w.alloc _) (Vg.gro) (Vg.alloc_heap_at rfl)
  ·exact Vg.Grows.blk (w0:=(Vg.plus (w.alloc _) x1 m1).alloc _) (Vg.gro) (Vg.alloc_heap_at (by simp[Vg.plus_size]))
  ·exact Vg.alloc_heap_at (by simp[Vg.plus_size])
  ·exact Vg.Grows.blk (w0:=w) (Vg.gro) H_hb.out
  ·simp[Vg.plus_size]
 rw[hW1]
 clear hW1
 obtain⟨bB,hbB⟩:∃b,w.heap.size+1+Vg.sz x1=b:=⟨_,rfl⟩
 rw[hbB]at yB yM hs1 ⊢
 have hbB1:w.heap.size+1<=bB:=by omega
 have eM:w.heap.size+1+1+Vg.sz x1=bB+1:=by omega
 rw[eM]
 clear c_hb f_hb p_hb
 clear l_hb
 obtain⟨c_y1,f_y1,p_y1,l_y1,H_y1⟩:=Vg.lay y1;clear y1;obtain⟨c_yB,f_yB,p_yB,l_yB,H_yB⟩:=Vg.lay yB;clear yB;obtain⟨c_yM,f_yM,p_yM,l_yM,H_yM⟩:=Vg.lay yM;clear yM;obtain⟨c_yg,f_yg,p_yg,l_yg,H_yg⟩:=Vg.lay yg;clear yg
 have H_hbB:=h_ hbB;have H_hs1:=h_ hs1;have H_eM:=h_ eM;clear hbB hs1 eM
 rename_i K1 h1 K0 h0
 refine wpIn_wide.2 ?_
 refine Code.wp_mono (Q:=fun e a w=>match e with
  | .normal=>K0 a w
  | _=>False) (fun e a w h=>by cases e <;> first|exact h|exact h.elim) ?_
 refine wp_region_held_drew (S:=fun w'=>w.heap.size<w'.heap.size/\g<w'.heap.size/\w'.cell? ⟨w.heap.size,0,none⟩=some (.pointer (some ⟨g,0,none⟩))/\w'.cell? ⟨g,0,none⟩=some (.int .u64 pe)/\w'.cell? ⟨g,1,none⟩=some (.int .u64 en)) (by kernel_rfl) (by go_split_ands <;> (try dsimp only) <;> go_simp) (fun hHeld=>?_)
 refine tk 0 ?_
 refine tk 1 ?_
 refine tk 2 ?_
 refine tk 3 ?_
 refine tk 4 ?_
 refine tk 5 ?_
 refine tk 6 ?_
 refine tk 7 ?_
 refine tk 8 ?_
 refine tk 9 ?_
 refine tk 10 ?_
 refine tk 11 ?_
 (try simp only[List.getElem_toArray,List.getElem_cons_succ,List.getElem_cons_zero,Act.put,List.setIfInBounds_toArray,List.set_cons_zero,List.set_cons_succ])
 refine wpAnyH_ready (rs:=[12]) (by kernel_rfl) (by simp) ?_
 refine AllReadyH.cons (o:=_) rfl (fun K hK=>?st44) ?mo44
 case st44=>
  go_simp
  ((go_at_call 214;(with_reducible refine(ic_active (Vg.Grows.blk (w0:=W1) (Vg.gro) H_yg.out) (H_h.out.grows (Vg.gro)) H_hab.out).mono ?_);rintro e w2 ⟨rfl,rfl⟩))
  all_goals(try go_wp2_with fail)
  refine hK.out _ _ (by go_split_ands <;> (try dsimp only) <;> go_simp) (fun hHeld44=>?_)
  clear hK K
  refine tk 13 ?_
  (try simp only[List.getElem_toArray,List.getElem_cons_succ,List.getElem_cons_zero,Act.put,List.setIfInBounds_toArray,List.set_cons_zero,List.set_cons_succ])
  refine wpAnyH_ready (rs:=[14]) (by kernel_rfl) (by simp) ?_
  refine AllReadyH.cons (o:=_) rfl (fun K hK=>?st46) ?mo46
  case st46=>
   go_simp
   ((go_at_call 119;(with_reducible refine(bits_each cb _).mono ?_);rintro e w3 ⟨rfl,rfl⟩))
   all_goals(try go_wp2_with fail)
   refine hK.out _ _ (by go_split_ands <;> (try dsimp only) <;> go_simp) (fun hHeld46=>?_)
   clear hK K
   (try simp only[List.getElem_toArray,List.getElem_cons_succ,List.getElem_cons_zero,Act.put,List.setIfInBounds_toArray,List.set_cons_zero,List.set_cons_succ])
   refine wpAnyH_done (by kernel_rfl) ?_ _
   refine h0 _ _ ?_
   gi_wp2
   have hB0:Below w.heap.size w (W1.alloc (u64C cb)).drew:=Below.drew (hgw.below.alloc (by rw[H_hs1.out];omega) _)
   refine wpIn_rangeFunc_ownG hro hn1 (gf:=185) (lb:=#[.pointer (some ⟨W1.heap.size,0,none⟩)]) rfl trivial (enters_of Tryz.func185 (by kernel_rfl) rfl)
    (each_stops (4-1) (by omega) (fun k=>k=0\/k=W1.heap.size) W1.heap.size cb H_hcb64.out _ (.inl rfl) (.inr rfl)
     (by rintro k (rfl|rfl) <;> (simp;try omega))
     (((Vg.Grows.refl (W1.alloc (u64C cb))).drew).blk (Vg.alloc_heap_at rfl)) (H_hT.out.grows (Vg.gro))) Vg.Kept.trans
    (Vg.Kept.putObj (by rintro k (rfl|rfl) <;> (simp;try omega))) (Below.refl _ _) (fun _=>rfl)
    (fun pre W=>Boxed W w.heap.size 305 (.pointer (some ⟨g,0,none⟩))/\(Boxed W bB 3 (.int .i64 (c.pick (pre.map (·.1)) (64,lv)).1)/\(Boxed W (bB+1) 3 (.int .i64 (c.pick (pre.map (·.1)) (64,lv)).2)/\(W1.heap.size+1<=W.heap.size/\Below w.heap.size w W))))
    (fun _ _ _=>False)
    (OwnFrom.and (Own.from (boxed_own _ _ _) _) (OwnFrom.and (Own.from (boxed_own _ _ _) _) (OwnFrom.and (Own.from (boxed_own _ _ _) _) (OwnFrom.and (Vg.ownFrom_size _ _) (ownFrom_below (Nat.le_refl _) (by simp;omega))))))
    (fun _ _ _ _ _ hs _ _=>hs)
    ⟨?i1,?i2,?i3,by simp,hB0⟩ ?a1 ?assign ?body ?done ?stop
   case assign=>
    intro l x W K hK
    gi_wp2
    exact hK
   case i1=>exact(((Vg.Grows.refl W1).alloc _).drew).blk H_y1.out
   case i2=>exact(((Vg.Grows.refl W1).alloc _).drew).blk H_yB.out
   case i3=>exact(((Vg.Grows.refl W1).alloc _).drew).blk H_yM.out
   case body=>
    rintro l pre ⟨k,hkb⟩ W ⟨hu,hv,hz,hsz,hB⟩ hlt
    have hcu:=hu.cell
    have hcv:=hv.cell
    have hcz:=hz.cell
    have hfv:=hv.frozen
    have hfz:=hz.frozen
    have hkn:k<n:=by
     have:=hkb
     rw[<-H_hcb.out,H_h.out.ok.cand_tb]at this
     simp only[Bool.and_eq_true]at this
     exact Vg.lt_of_tb H_h.out.ok.pe this.1.1
    have yw:Vg.blk W g=some (dkO pe en ed pa n pc sa m sc):=(hB.block g hgl).trans H_hb.out
    obtain⟨gp,offp,hpa,hg2,hc2⟩:=H_h.out.pcell k hkn
    subst hpa
    have hc2:=(hB.cell (p:=⟨gp,offp+k,none⟩) hg2).trans hc2
    have hsW:=hB.size
    have hpk:=Vg.Ic.pick_snoc c (pre.map (·.1)) k (64,lv)
    obtain⟨⟨pb,pm⟩,hpm⟩:∃p,c.pick (pre.map (·.1)) (64,lv)=p:=⟨_,rfl⟩
    obtain⟨pr,hpr⟩:∃pr,c.prio k=pr:=⟨_,rfl⟩
    rw[hpm]at hcv hcz hpk hv hz
    rw[hpr]at hpk hc2
    have hpk:c.pick (List.map (fun x:Vg.Bit cb=>x.1) (pre ++ [(⟨k,hkb⟩:Vg.Bit cb)])) (64,lv)=if pm<pr then((k:Int),pr)else(pb,pm):=by rw[List.map_append];exact hpk
    have hk0:(0:Int)<=k:=by omega
    have hk1:(k:Int)<n:=by omega
    clear c_y1 f_y1 p_y1 c_yB f_yB p_yB c_yM f_yM p_yM c_yg f_yg p_yg
    clear l_y1 l_yB l_yM l_yg
    obtain⟨c_yw,f_yw,p_yw,l_yw,H_yw⟩:=Vg.lay yw;clear yw
    have hu9:=hu
    have hv9:=hv
    have hz9:=hz
    have HB:=h_ hB
    have HU:=h_ hu
    have HV:=h_ hv
    have HZ:=h_ hz
    clear hB hu hv hz
    have lu:=hu9.lt
    have lv':=hv9.lt
    have lz:=hz9.lt
    have lgp:gp<W.heap.size:=by omega
    have nB1:w.heap.size≠bB:=by omega
    have nB2:w.heap.size≠bB+1:=by omega
    have nB3:g≠bB:=by omega
    have nB4:g≠bB+1:=by omega
    have nB5:gp≠bB:=by omega
    have nB6:gp≠bB+1:=by omega
    have nB7:bB≠bB+1:=by omega
    by_cases hc:pm<pr
    ·rw[if_pos hc]at hpk
     have H_hpk:=h_ hpk;have H_hpm:=h_ hpm;have H_hpr:=h_ hpr;clear hpk hpm hpr
     gi_wp2
     rename_i K4 a4
     refine Vg.wpIn_region_held_drew (S:=fun w'=>w.heap.size<w'.heap.size/\bB+1<w'.heap.size/\g<w'.heap.size/\gp<w'.heap.size/\w'.cell? ⟨w.heap.size,0,none⟩=some (.pointer (some ⟨g,0,none⟩))/\w'.cell? ⟨g,4,none⟩=some (.slice (some ⟨gp,offp,none⟩) n pc)/\w'.cell? ⟨gp,offp+k,none⟩=some (.int .i64 pr)/\w'.cell? ⟨bB+1,0,none⟩=some (.int .i64 pm)) (by kernel_rfl) (Vg.noDefer_of (by kernel_rfl)) _ (fun _ _ h=>h) (by go_split_ands <;> (try dsimp only) <;> go_simp) (fun hHeld=>?_)
     refine tk 0 ?_
     refine tk 1 ?_
     refine tk 2 ?_
     refine tk 3 ?_
     refine tk 4 ?_
     refine tk 5 ?_
     refine tk 6 ?_
     refine tk 7 ?_
     refine tk 8 ?_
     refine tk 9 ?_
     (try simp only[List.getElem_toArray,List.getElem_cons_succ,List.getElem_cons_zero,Act.put,List.setIfInBounds_toArray,List.set_cons_zero,List.set_cons_succ])
     refine wpAnyH_done (by kernel_rfl) ?_ _
     refine a4 _ _ ?_
     gi_wp2
     refine Vg.wpIn_region_held_drew (S:=fun w'=>w.heap.size<w'.heap.size/\bB<w'.heap.size/\bB+1<w'.heap.size/\g<w'.heap.size/\gp<w'.heap.size/\w'.cell? ⟨w.heap.size,0,none⟩=some (.pointer (some ⟨g,0,none⟩))/\w'.cell? ⟨g,4,none⟩=some (.slice (some ⟨gp,offp,none⟩) n pc)/\w'.cell? ⟨gp,offp+k,none⟩=some (.int .i64 pr)) (by kernel_rfl) (Vg.noDefer_of (by kernel_rfl)) _ (fun _ _ h=>h) (by go_split_ands <;> (try dsimp only) <;> go_simp) (fun hHeld=>?_)
     refine tk 0 ?_
     refine tk 1 ?_
     refine tk 2 ?_
     refine tk 3 ?_
     refine tk 4 ?_
     refine tk 5 ?_
     refine tk 6 ?_
     refine tk 7 ?_
     refine tk 8 ?_
     (try simp only[List.getElem_toArray,List.getElem_cons_succ,List.getElem_cons_zero,Act.put,List.setIfInBounds_toArray,List.set_cons_zero,List.set_cons_succ])
     refine wpAnyH_ready (rs:=[9]) (by kernel_rfl) (by simp) ?_
     refine AllReadyH.cons (o:=_) rfl (fun K hK=>?st10) ?mo10
     case st10=>
      go_simp
      refine hK.out _ _ (by go_split_ands <;> (try dsimp only) <;> go_simp) (fun hHeld10=>?_)
      clear hK K
      (try simp only[List.getElem_toArray,List.getElem_cons_succ,List.getElem_cons_zero,Act.put,List.setIfInBounds_toArray,List.set_cons_zero,List.set_cons_succ])
      refine wpAnyH_ready (rs:=[10]) (by kernel_rfl) (by simp) ?_
      refine AllReadyH.cons (o:=_) rfl (fun K hK=>?st11) ?mo11
      case st11=>
       go_simp
       refine hK.out _ _ (by go_split_ands <;> (try dsimp only) <;> go_simp) (fun hHeld11=>?_)
       clear hK K
       (try simp only[List.getElem_toArray,List.getElem_cons_succ,List.getElem_cons_zero,Act.put,List.setIfInBounds_toArray,List.set_cons_zero,List.set_cons_succ])
       refine wpAnyH_done (by kernel_rfl) ?_ _
       have f1:Boxed ((W.setCell ⟨bB,0,none⟩ (.int .i64 k)).setCell ⟨bB+1,0,none⟩ (.int .i64 pr)) w.heap.size 305 (.pointer (some ⟨g,0,none⟩)):=(HU.out.kept (grownBy_setCell' W bB (.int .i64 k)) (by simp;exact nB1)).kept (grownBy_setCell' (W.setCell ⟨bB,0,none⟩ (.int .i64 k)) (bB+1) (.int .i64 pr)) (by simp;exact nB2)
       have f2:Boxed ((W.setCell ⟨bB,0,none⟩ (.int .i64 k)).setCell ⟨bB+1,0,none⟩ (.int .i64 pr)) bB 3 (.int .i64 k):=(HV.out.set (.int .i64 k)).kept (grownBy_setCell' (W.setCell ⟨bB,0,none⟩ (.int .i64 k)) (bB+1) (.int .i64 pr)) (by simp)
       have f3:Boxed ((W.setCell ⟨bB,0,none⟩ (.int .i64 k)).setCell ⟨bB+1,0,none⟩ (.int .i64 pr)) (bB+1) 3 (.int .i64 pr):=(HZ.out.kept (grownBy_setCell' W bB (.int .i64 k)) (by simp)).set (.int .i64 pr)
       refine(show KeepsFrom _ W _/\_/\_ from⟨((((KeepsOthers.setCell _ _ _).trans (KeepsOthers.setCell _ _ _)).trans (KeepsOthers.drew _)).trans (KeepsOthers.drew _)).from _,⟨by simp,fun z hz=>?_⟩,f1,?_,?_,by simp;omega,?_⟩)
       ·have h9:z≠bB/\z≠bB+1:=by
         have:=H_hs1.out
         rcases hz with rfl|rfl <;> omega
        show((W.setCell _ _).setCell _ _).heap[z]? = _
        rw[Below.heap_setCell _ _ _ z h9.2,Below.heap_setCell _ _ _ z h9.1]
       ·rw[H_hpk.out];exact f2
       ·rw[H_hpk.out];exact f3
       ·exact HB.out.trans (Below.drew (Below.drew (((Below.refl _ W).setCell (p:=⟨bB,0,none⟩) (show w.heap.size<=bB by omega) _).setCell (p:=⟨bB+1,0,none⟩) (show w.heap.size<=bB+1 by omega) _)))
      exact AllReadyH.nil
     exact AllReadyH.nil
    ·rw[if_neg hc]at hpk
     have H_hpk:=h_ hpk;have H_hpm:=h_ hpm;have H_hpr:=h_ hpr;clear hpk hpm hpr
     gi_wp2
     rename_i K4 a4
     refine Vg.wpIn_region_held_drew (S:=fun w'=>w.heap.size<w'.heap.size/\bB+1<w'.heap.size/\g<w'.heap.size/\gp<w'.heap.size/\w'.cell? ⟨w.heap.size,0,none⟩=some (.pointer (some ⟨g,0,none⟩))/\w'.cell? ⟨g,4,none⟩=some (.slice (some ⟨gp,offp,none⟩) n pc)/\w'.cell? ⟨gp,offp+k,none⟩=some (.int .i64 pr)/\w'.cell? ⟨bB+1,0,none⟩=some (.int .i64 pm)) (by kernel_rfl) (Vg.noDefer_of (by kernel_rfl)) _ (fun _ _ h=>h) (by go_split_ands <;> (try dsimp only) <;> go_simp) (fun hHeld=>?_)
     refine tk 0 ?_
     refine tk 1 ?_
     refine tk 2 ?_
     refine tk 3 ?_
     refine tk 4 ?_
     refine tk 5 ?_
     refine tk 6 ?_
     refine tk 7 ?_
     refine tk 8 ?_
     refine tk 9 ?_
     (try simp only[List.getElem_toArray,List.getElem_cons_succ,List.getElem_cons_zero,Act.put,List.setIfInBounds_toArray,List.set_cons_zero,List.set_cons_succ])
     refine wpAnyH_done (by kernel_rfl) ?_ _
     refine a4 _ _ ?_
     gi_wp2
     refine(show KeepsFrom _ W _/\_/\_ from⟨(KeepsOthers.drew _).from _,⟨by simp,fun z hz=>rfl⟩,HU.out,?_,?_,by simpa using hsz,HB.out.trans (Below.drew (Below.refl _ W))⟩)
     ·rw[H_hpk.out];exact HV.out
     ·rw[H_hpk.out];exact HZ.out
   case done=>
    rintro D ys W hD rfl ⟨hu,hv,hz,hsz,hB⟩ hK
    rw[Vg.blS_map]at hv hz
    have hnx:=H_hx.out
    unfold Vg.Ic.nx at hnx
    rw[H_hcb.out,H_hlv.out]at hnx
    rw[hnx]at hv
    have hc:=hv.cell
    have hii:=H_his.out
    have hgws:=hgw.size
    clear c_y1 f_y1 p_y1 c_yB f_yB p_yB c_yM f_yM p_yM c_yg f_yg p_yg
    clear l_y1 l_yB l_yM l_yg hnx
    by_cases h64:x=64
    ·have e9:is=false:=by rw[<-hii,h64];rfl
     subst e9 h64
     clear hii
     have H_hu:=h_ hu;have H_hv:=h_ hv;have H_hz:=h_ hz;have H_hB:=h_ hB;clear hu hv hz hB
     gi_wp2
     gi_region
     all_goals gi_wp2
     all_goals refine⟨by simp,.inl ⟨_,_,rfl,run_takeDeferred hK,?_⟩⟩
     all_goals exact⟨_,results_tmp2 rfl _ _ _,by simp,(Below.drew H_hB.out).trans (belowK_b (w:=w) (Nat.le_refl _) W.drew D _ _ (by simp at hD;omega) hK rfl rfl)⟩
    ·have e9:is=true:=by rw[<-hii];simp[h64]
     subst e9
     clear hii
     have H_hu:=h_ hu;have H_hv:=h_ hv;have H_hz:=h_ hz;have H_hB:=h_ hB;clear hu hv hz hB
     gi_wp2
     gi_region
     all_goals gi_wp2
     all_goals refine⟨by simp,.inl ⟨_,_,rfl,run_takeDeferred hK,?_⟩⟩
     all_goals exact⟨_,results_tmp2 rfl _ _ _,by simp[h64],(Below.drew H_hB.out).trans (belowK_b (w:=w) (Nat.le_refl _) W.drew D _ _ (by simp at hD;omega) hK rfl rfl)⟩
   case stop=>
    rintro D c pre W _ _ h _
    exact h.elim
  exact AllReadyH.nil
 exact AllReadyH.nil
theorem ic_next(hb:Vg.blk w g=some (dkO pe en ed pa n pc sa m sc))(h:IS w c n m pa pc sa sc)(hpe:c.pe=pe)(hen:c.en=en)(hT:Vg.Tab w){x:Int}{is:Bool}(hx:c.nx=x)(his:decide (x≠64)=is):
  Calls Tryz.prog 188 #[.pointer (some ⟨g,0,none⟩)] w fun e w'=>e=.returned (.tuple #[.int .i64 x,.bool is])/\Vg.Grows w w':=by
 refine((callsIn_wide (n:=4)).1 (next_in hb h hpe hen hT hx his)).mono ?_
 rintro e w' ⟨rfl,hb⟩
 exact⟨rfl,Vg.Grows.of_below hb⟩
end
end Go.Proofs.YtlkdkgefjipjmaaGreatDoor
namespace Go.Proofs.YtlkdkgefjipjmaaGreatDoor
open Go.ChangeShapes Go.WideShapes Go.ChangeAt Go.RowKit
abbrev ic0:Obj:=icO 0 0 0 none 0 0 none 0 0
def ICR(w w':World)(c:Vg.Ic)(n ed:Nat)(v:Value):Prop:=
 ∃pa pc sa m sc,v=icV c.pe c.en ed pa n pc sa m sc/\IS w' c n m pa pc sa sc/\(∀k,(Value.slice pa n pc).ownBlock=some k->w.heap.size<=k/\k<w'.heap.size)/\(∀k,(Value.slice sa m sc).ownBlock=some k->w.heap.size<=k/\k<w'.heap.size)
section
variable {w w' w1:World}{c c':Vg.Ic}{n m ed pc sc pe en g bR lo:Nat}{pa sa:Option Addr}{L:List Int}
theorem icr_of1(hI:IS w1 c n m pa pc sa sc)(f1:∀k,(Value.slice pa n pc).ownBlock=some k->lo<=k/\k<g)(f2:∀k,(Value.slice sa m sc).ownBlock=some k->lo<=k/\k<g)(hlo:w.heap.size<=lo)(hbR:bR<lo)(hgl:g<w1.heap.size)(hok:c'.Ok n)(hp:c'.pr=c.pr)(hs:c'.st=c.st)(o:Obj):
  ICR w (Vg.put w1 bR o) c' n ed (icV c'.pe c'.en ed pa n pc sa m sc):=by
 have h9:=hI.put (b:=bR) (fun k hk=>by have:=f1 k hk;omega) (fun k hk=>by have:=f2 k hk;omega) o
 refine⟨pa,pc,sa,m,sc,rfl,⟨hok,by rw[hs];exact h9.m,by rw[hp];exact h9.p,by rw[hs];exact h9.s⟩,fun k hk=>?_,fun k hk=>?_⟩
 ·have:=f1 k hk;rw[Vg.put_size];omega
 ·have:=f2 k hk;rw[Vg.put_size];omega
theorem ic_nextl(h:IS w c n m pa pc sa sc)(hed:2 ^ n-1=ed)(hpe:c.pe=pe)(hen:c.en=en)(hT:Vg.Tab w){x:Int}(hx:c.nx=x):
  Calls Tryz.prog 122 #[icV pe en ed pa n pc sa m sc] w fun e w'=>e=.returned (.tuple #[.int .i64 (if x=64 then 0 else x),.int .i64 (if x=64 then 3 else 0)])/\Vg.Grows w w':=by
 have hr0:(if(0:Int)<=0/\(0:Int)<(n:Int)then(0:Int)else 1)=0:=if_pos ⟨by omega,by have:=h.ok.n1;omega⟩
 by_cases h64:x=64
 ·have his:decide (x≠64)=false:=by simp[h64]
  subst h64
  simp only[if_true]
  have H_h:=h_ h;have H_hed:=h_ hed;have H_hpe:=h_ hpe;have H_hen:=h_ hen;have H_hT:=h_ hT;have H_hx:=h_ hx;have H_his:=h_ his;have H_hr0:=h_ hr0;clear h hed hpe hen hT hx his hr0
  go_enter Tryz.func122,Tryz.ntmps122
  go_wp2_with (first|(go_at_call 158;(with_reducible refine(ic_open 0 H_hr0.out (H_h.out.grows (Vg.gro)) H_hed.out H_hpe.out H_hen.out).mono ?_);rintro e w1 ⟨g,rfl,hg,pa',pc',sa',sc',hb,hI,-,-,f1,f2,hg1⟩;have H_hb:=h_ hb;have H_hI:=h_ hI;have H_f1:=h_ f1;have H_f2:=h_ f2;have H_hg1:=h_ hg1;clear hb hI f1 f2 hg1)|(go_at_call 188;(with_reducible refine(ic_next H_hb.out H_hI.out H_hpe.out H_hen.out ((H_hT.out.grows (Vg.gro)).grows H_hg1.out) H_hx.out H_his.out).mono ?_);rintro e w2 ⟨rfl,hg2⟩;have H_hg2:=h_ hg2;clear hg2))
  go_returns
  exact⟨rfl,(Vg.Grows.trans (Vg.gro) H_hg1.out).trans H_hg2.out⟩
 ·have his:decide (x≠64)=true:=by simp[h64]
  simp only[if_neg h64]
  have H_h:=h_ h;have H_hed:=h_ hed;have H_hpe:=h_ hpe;have H_hen:=h_ hen;have H_hT:=h_ hT;have H_hx:=h_ hx;have H_his:=h_ his;have H_hr0:=h_ hr0;clear h hed hpe hen hT hx his hr0
  go_enter Tryz.func122,Tryz.ntmps122
  go_wp2_with (first|(go_at_call 158;(with_reducible refine(ic_open 0 H_hr0.out (H_h.out.grows (Vg.gro)) H_hed.out H_hpe.out H_hen.out).mono ?_);rintro e w1 ⟨g,rfl,hg,pa',pc',sa',sc',hb,hI,-,-,f1,f2,hg1⟩;have H_hb:=h_ hb;have H_hI:=h_ hI;have H_f1:=h_ f1;have H_f2:=h_ f2;have H_hg1:=h_ hg1;clear hb hI f1 f2 hg1)|(go_at_call 188;(with_reducible refine(ic_next H_hb.out H_hI.out H_hpe.out H_hen.out ((H_hT.out.grows (Vg.gro)).grows H_hg1.out) H_hx.out H_his.out).mono ?_);rintro e w2 ⟨rfl,hg2⟩;have H_hg2:=h_ hg2;clear hg2))
  go_returns
  exact⟨rfl,(Vg.Grows.trans (Vg.gro) H_hg1.out).trans H_hg2.out⟩
end
end Go.Proofs.YtlkdkgefjipjmaaGreatDoor
namespace Go.Proofs.YtlkdkgefjipjmaaGreatDoor
open Go.ChangeShapes Go.WideShapes Go.ChangeAt Go.RowKit
section
variable {w w' w1:World}{c c':Vg.Ic}{n m ed pc sc pe en g bR lo:Nat}{pa sa:Option Addr}{L:List Int}
end
end Go.Proofs.YtlkdkgefjipjmaaGreatDoor
namespace Vg
open Go
end Vg
namespace Go.Proofs.YtlkdkgefjipjmaaGreatDoor
open Go.ChangeShapes Go.WideShapes Go.ChangeAt Go.RowKit
section
variable {w w' w1:World}{c c':Vg.Ic}{n m ed pc sc pe en g bR lo:Nat}{pa sa:Option Addr}{L:List Int}
theorem oddP_all{L:List Int}(h:L.any Vg.oddP=false):∀p∈L,1<=p/\p<=15:=fun p hp=>by
 have:=List.any_eq_false.1 h p hp
 simp[Vg.oddP]at this
 omega
theorem ic_make (hr:Vg.IR w pa pc L) (hn:L.length=n) (h1:1<=n) (h2:n<=64) (hodd:L.any Vg.oddP=false) (hed:2 ^ n-1=ed) :
  Calls Tryz.prog 47 #[.int .u64 ed,.slice pa n pc] w fun e w'=>∃v,e=.returned (.tuple #[v,.int .i64 0])/\ICR w w' ⟨0,ed,L,[]⟩ n ed v/\Vg.Grows w w':=by
 have h0:(0:Nat)<2 ^ n:=Nat.two_pow_pos n
 have hok:Vg.Ic.Ok n ⟨0,ed,L,[]⟩:=⟨hn,⟨h1,h2⟩,oddP_all hodd,h0,by show ed<2 ^ n;omega,fun i hi=>by simp at hi,List.Pairwise.nil⟩
 clear h0
 have H_hr:=h_ hr;have H_hn:=h_ hn;have H_hodd:=h_ hodd;have H_hed:=h_ hed;have H_hok:=h_ hok;clear hr hn hodd hed hok
 go_enter Tryz.func47,Tryz.ntmps47
 go_upto_region 3 with(first|(go_at_call 83;(with_reducible refine(clone (H_hr.out.grows (Vg.gro)) H_hn.out (by omega)).mono ?_);rintro e w1 ⟨a1,c1,rfl,hr1,hf1,-,hg1⟩;have yR:=hg1.blk (b:=w.heap.size) (o:=ic0) (by go_simp);have hgw:=Vg.Grows.trans (a:=w) (Vg.gro) hg1;have hs1:=hg1.size;simp only[World.size_alloc]at hf1 hs1;have q1:=hr1.1;have q2:c1<=9223372036854775807:=hr1.2.1;rw[H_hn.out]at q1;obtain⟨c_yR,f_yR,p_yR,l_yR,H_yR⟩:=Vg.lay yR;clear yR;have H_hr1:=h_ hr1;have H_hf1:=h_ hf1;have H_hg1:=h_ hg1;clear hr1 hf1 hg1)|(go_at_call 84;(with_reducible refine(ic_lines _ _ _ _ _ _ H_hed.out h1 h2 _).mono ?_);rintro e w2 ⟨rfl,x2,m2,rfl⟩))
 obtain⟨W2,hW2,zR,z6,hgw2,hr2,hs2⟩:∃W2,Vg.plus (w1.alloc (.cells #[.int .u64 0,.int .u64 ed,.int .u64 0,.int .u64 ed,.slice a1 n c1,.int .i64 0,.slice none 0 0] 145)) x2 m2=W2/\Vg.blk W2 w.heap.size=some ic0/\Vg.blk W2 w1.heap.size=some (icO 0 ed ed a1 n c1 none 0 0)/\Vg.Grows w W2/\Vg.IR W2 a1 c1 L/\w1.heap.size+1<=W2.heap.size:=⟨_,rfl,Vg.Grows.blk (w0:=w1) (Vg.gro) H_yR.out,(Vg.Grows.plus (Vg.Grows.refl _) _ _).blk (Vg.alloc_heap_at rfl),Vg.gro,H_hr1.out.grows (Vg.gro),by rw[Vg.plus_size,World.size_alloc];omega⟩
 rw[hW2]
 clear hW2
 clear c_yR f_yR p_yR
 obtain⟨c_zR,f_zR,p_zR,l_zR,H_zR⟩:=Vg.lay zR;clear zR;obtain⟨c_z6,f_z6,p_z6,l_z6,H_z6⟩:=Vg.lay z6;clear z6
 have hI:IS W2 ⟨0,ed,L,[]⟩ n 0 a1 c1 none 0:=⟨H_hok.out,rfl,hr2,Vg.IR.nil _⟩
 have hck:Calls Tryz.prog 85 #[.agg #[.int .u64 0,.int .u64 ed,.int .u64 0,.int .u64 ed,.slice a1 n c1,.int .i64 0,.slice none 0 0]] W2 fun e w'=>e=.returned (.int .i64 0)/\Vg.Grows W2 w':=ic_check hI H_hed.out rfl rfl
 have H_hr2:=h_ hr2;have H_hI:=h_ hI;have H_hck:=h_ hck;clear hr2 hI hck
 have n1:w1.heap.size≠w.heap.size:=by omega
 have n2:w.heap.size≠w1.heap.size:=by omega
 go_upto_region 4 with((go_at_call 85;(with_reducible refine(H_hck.out).mono ?_);rintro e w3 ⟨rfl,hg3⟩;have uR:=hg3.blk H_zR.out;have u6:=hg3.blk H_z6.out;have hgw3:=hgw2.trans hg3;have hs3:=hg3.size;clear c_zR f_zR p_zR c_z6 f_z6 p_z6;obtain⟨c_uR,f_uR,p_uR,l_uR,H_uR⟩:=Vg.lay uR;clear uR;obtain⟨c_u6,f_u6,p_u6,l_u6,H_u6⟩:=Vg.lay u6;clear u6;have H_hg3:=h_ hg3;clear hg3))
 have hpc:∀(cs:Array Value) (i:Nat),(Vg.put w3 w.heap.size (.cells cs 145)).cell? ⟨w.heap.size,i,none⟩=cs[i]?:=fun cs i=>Vg.cells_of (Vg.put_heap_same l_uR) i
 have H_hpc:=h_ hpc;clear hpc
 go_wp2_with fail
 refine bodyPost_ret (by simp[results,Tryz.results47,go_sem,H_hpc.out] <;> try rfl) rfl ?_
 have hfin:=icr_of1 (w:=w) (c':=⟨0,ed,L,[]⟩) (ed:=ed) (lo:=w.heap.size+1) (g:=w1.heap.size) (H_hI.out.grows H_hg3.out) (fun j hj=>by have:=H_hf1.out j hj;omega) (fun j hj=>by simp[Value.ownBlock]at hj) (by omega) (bR:=w.heap.size) (by omega) l_u6 H_hok.out rfl rfl
 exact⟨_,rfl,hfin _,Vg.Grows.put hgw3 (Nat.le_refl _) _⟩
theorem ic_make_no (hr:Vg.IR w pa pc L) (hn:L.length=n) (h1:1<=n) (h2:n<=4398046511104) (h:64<n\/L.any Vg.oddP=true) (ed:Int) :
  Calls Tryz.prog 47 #[.int .u64 ed,.slice pa n pc] w fun e w'=>e=.returned (.tuple #[icV 0 0 0 none 0 0 none 0 0,.int .i64 2])/\Vg.Grows w w':=by
 obtain⟨z,hz⟩:∃z:Nat,(if n<=64 then 2 ^ n-1 else 18446744073709551615)=z:=⟨_,rfl⟩
 have hlines:∀(a b d f:Int) (th:Int) (sa:Option Addr) (m sc pc:Nat) (pa:Option Addr) (w:World),Calls Tryz.prog 84 #[.agg #[.int .u64 a,.int .u64 b,.int .u64 d,.int .u64 f,.slice pa n pc,.int .i64 th,.slice sa m sc]] w fun e w'=>e=.returned (.int .u64 z)/\Vg.Grows w w':=fun a b d f th sa m sc pc pa w=>by
  by_cases h64:n<=64
  ·rw[if_pos h64]at hz
   exact ic_lines a b d f th z hz h1 h64 w
  ·rw[if_neg h64]at hz
   subst hz
   exact ic_lines9 a b d f th (by omega) (by omega) w
 have H_hr:=h_ hr;have H_hn:=h_ hn;have H_hz:=h_ hz;have H_h:=h_ h;have H_hlines:=h_ hlines;clear hr hn hz h hlines
 go_enter Tryz.func47,Tryz.ntmps47
 go_upto_region 3 with(first|(go_at_call 83;(with_reducible refine(clone (H_hr.out.grows (Vg.gro)) H_hn.out (by omega)).mono ?_);rintro e w1 ⟨a1,c1,rfl,hr1,hf1,-,hg1⟩;have yR:=hg1.blk (b:=w.heap.size) (o:=ic0) (by go_simp);have hgw:=Vg.Grows.trans (a:=w) (Vg.gro) hg1;have hs1:=hg1.size;simp only[World.size_alloc]at hf1 hs1;have q1:=hr1.1;have q2:c1<=9223372036854775807:=hr1.2.1;rw[H_hn.out]at q1;obtain⟨c_yR,f_yR,p_yR,l_yR,H_yR⟩:=Vg.lay yR;clear yR;have H_hr1:=h_ hr1;have H_hf1:=h_ hf1;have H_hg1:=h_ hg1;clear hr1 hf1 hg1)|(go_at_call 84;(with_reducible refine(H_hlines.out _ _ _ _ _ _ _ _ _ _ _).mono ?_);rintro e w2 ⟨rfl,x2,m2,rfl⟩))
 have hpc:∀(W:World) (hW:w.heap.size<W.heap.size) (cs:Array Value) (i:Nat),(Vg.put W w.heap.size (.cells cs 145)).cell? ⟨w.heap.size,i,none⟩=cs[i]?:=fun W hW cs i=>Vg.cells_of (Vg.put_heap_same hW) i
 go_upto_region 4 with((go_at_call 85;(with_reducible refine(ic_check_no (H_hr1.out.grows (Vg.gro)) H_hn.out h1 H_h.out _ _ _ _ _).mono ?_);rintro e w3 ⟨rfl,hg3⟩;have uR:=hg3.blk (Vg.Grows.blk (w0:=w1) (Vg.gro) H_yR.out);have hgw3:=Vg.Grows.trans (a:=w) (Vg.gro) hg3;clear c_yR f_yR p_yR;obtain⟨c_uR,f_uR,p_uR,l_uR,H_uR⟩:=Vg.lay uR;clear uR;have H_hg3:=h_ hg3;clear hg3))
 have hpc:=hpc w3 l_uR
 have H_hpc:=h_ hpc;clear hpc
 go_wp2_with fail
 refine bodyPost_ret (by simp[results,Tryz.results47,go_sem,H_hpc.out] <;> try rfl) rfl ?_
 exact⟨rfl,Vg.Grows.put hgw3 (Nat.le_refl _) _⟩
end
end Go.Proofs.YtlkdkgefjipjmaaGreatDoor
namespace Vg
open Go
def intArr(R:Nat->Int)(many:Nat):Array Value:=((List.range many).map fun i=>Value.int .i64 (R i)).toArray
theorem madeCells_int(m:Nat):madeCells #[.int .i64 0] m=intArr (fun _=>0) m:=by
 unfold madeCells intArr
 apply Array.ext'
 simp[List.map_const',Nat.mod_one]
end Vg
namespace Go.Proofs.YtlkdkgefjipjmaaGreatDoor
open Go.ChangeShapes Go.WideShapes Go.ChangeAt Go.RowKit
theorem Tryz.info_i64s:(Tryz.prog.info? 2).map (fun i=>(i.zero,i.size,i.bytes))=some (some (.int .i64 0),1,8):=by kernel_rfl
abbrev maskC(rb many:Nat)(window:Int)(first taken:Nat)(last refused:Int):Obj:=
 .cells #[.int .i64 window,.slice (some ⟨rb,0,none⟩) many many,.int .i64 first,.int .i64 taken,.int .i64 last,.int .i64 refused] 216
abbrev ringC(R:Nat->Int)(many:Nat):Obj:=.cells (Vg.intArr R many) 2
def Shows(R:Nat->Int)(many first:Nat)(q:List Int):Prop:=1<=many/\many<=64/\first<many/\q.length<=many/\∀i,i<q.length->R ((first+i)%many)=q.getD i 0
section
variable {b rb many:Nat}{window last refused:Int}{first taken:Nat}{R:Nat->Int}{w:World}
theorem storm_new_no(m wd:Int)(h:m<1\/64<m\/wd<1\/1099511627776<wd):
  Calls Tryz.prog 46 #[.int .i64 m,.int .i64 wd] w fun e w'=>e=.returned (.tuple #[.pointer none,.int .i64 1])/\w=w':=by
 by_cases h1:m<1
 ·clear h
  go_enter Tryz.func46,Tryz.ntmps46
  go_wp2
  go_ret2
  exact⟨rfl,rfl⟩
 by_cases h2:64<m
 ·clear h
  go_enter Tryz.func46,Tryz.ntmps46
  go_wp2
  go_ret2
  exact⟨rfl,rfl⟩
 by_cases h3:wd<1
 ·clear h
  go_enter Tryz.func46,Tryz.ntmps46
  go_wp2
  go_ret2
  exact⟨rfl,rfl⟩
 have h4:1099511627776<wd:=by omega
 clear h
 go_enter Tryz.func46,Tryz.ntmps46
 go_wp2
 go_ret2
 exact⟨rfl,rfl⟩
theorem storm_new_ok(m:Nat)(wd:Int)(h1:1<=m)(h2:m<=64)(h3:1<=wd)(h4:wd<=1099511627776):
  Calls Tryz.prog 46 #[.int .i64 m,.int .i64 wd] w fun e w'=>e=.returned (.tuple #[.pointer (some ⟨w.heap.size+1,0,none⟩),.int .i64 0]) /\
   w'=(w.alloc (ringC (fun _=>0) m)).alloc (maskC w.heap.size m wd 0 0 0 0):=by
 have hmk:∀wx:World,(Instr.makeSlice 91 (.int .i64 m) (.int .i64 m)).run Tryz.prog wx=.ok (.slice (some ⟨wx.heap.size,0,none⟩) m m) (wx.alloc (.cells (Vg.intArr (fun _=>0) m) 2)):=fun wx=>by
  have:=run_make_row' (P:=Tryz.prog) 91 2 (.int .i64 0) 8 Tryz.underlying91 Tryz.info_i64s rfl .i64 .i64 m (by omega) (by omega) wx
  rw[this,Vg.madeCells_int]
 go_enter Tryz.func46,Tryz.ntmps46
 go_wp2
 go_ret2
 exact⟨rfl,rfl⟩
end
end Go.Proofs.YtlkdkgefjipjmaaGreatDoor
namespace Vg
end Vg
namespace Vg
open Go
structure Ln where
 top:Int
 bot:Int
 lost:Int
 srv:Int
 many:Nat
 wd:Int
 q:List Int
 ml:Int
structure Lq where
 p:Ln
 mb:Nat
 rb:Nat
structure Bg where
 k:Nat
 left:Int
 bot:Int
structure Iq where
 c:Ic
 ls:List Ln
 S:List Bg
 last:Int
def lcells:List Lq->List Value
 | []=>[]
 | x::l=>.pointer (some ⟨x.mb,0,none⟩):: .int .i64 x.p.top :: .int .i64 x.p.bot :: .int .i64 x.p.lost :: .int .i64 x.p.srv::lcells l
theorem lcells_append:∀l m:List Lq,lcells (l++m)=lcells l++lcells m
 | [],m=>rfl
 | x::l,m=>by simp[lcells,lcells_append l m]
end Vg
namespace Go.Proofs.YtlkdkgefjipjmaaGreatDoor
open Go.ChangeShapes Go.WideShapes Go.ChangeAt Go.RowKit
def MK(w:World)(mb rb many:Nat)(wd:Int)(q:List Int)(ml:Int):Prop:=
 ∃first R rf,Vg.blk w mb=some (maskC rb many wd first q.length ml rf)/\Vg.blk w rb=some (ringC R many)/\mb≠rb/\Shows R many first q
section
variable {w w':World}{mb rb many:Nat}{wd ml:Int}{q:List Int}
theorem MK.lt(h:MK w mb rb many wd q ml):mb<w.heap.size/\rb<w.heap.size:=by
 obtain⟨first,R,rf,h1,h2,_⟩:=h
 exact⟨Vg.lt_of h1,Vg.lt_of h2⟩
theorem MK.touch{t:Nat->Prop}(h:MK w mb rb many wd q ml)(ht:Vg.Touch t w w')(h1:¬t mb)(h2:¬t rb):MK w' mb rb many wd q ml:=by
 obtain⟨first,R,rf,a1,a2,a3⟩:=h
 exact⟨first,R,rf,ht.bk a1 h1,ht.bk a2 h2,a3⟩
theorem MK.grows(h:MK w mb rb many wd q ml)(hg:Vg.Grows w w'):MK w' mb rb many wd q ml:=
 h.touch (t:=fun _=>False) (Vg.Touch.of_grows hg) id id
end
theorem IS.touch{w w':World}{t:Nat->Prop}{c:Vg.Ic}{n m pc sc:Nat}{pa sa:Option Addr}(h:IS w c n m pa pc sa sc)(ht:Vg.Touch t w w')(h1:∀k,(Value.slice pa n pc).ownBlock=some k->¬t k)(h2:∀k,(Value.slice sa m sc).ownBlock=some k->¬t k):IS w' c n m pa pc sa sc:=
 ⟨h.ok,h.m,h.p.touch ht h.ok.len h1,h.s.touch (n:=m) ht ((Vg.ic_len _).trans h.m) h2⟩
abbrev irqC(pe en ed:Nat)(pa:Option Addr)(n pc:Nat)(sa:Option Addr)(m sc:Nat)(lv sv:Value)(mk:Nat)(last:Int):Obj:=
 .cells #[.int .u64 pe,.int .u64 en,.int .u64 0,.int .u64 ed,.slice pa n pc,.int .i64 0,.slice sa m sc,lv,sv,.int .u64 mk,.int .i64 last] 149
section
variable {w w':World}{b lo n mk pc sc:Nat}{xs:List Vg.Lq}{s s':Vg.Iq}{lv sv:Value}{pa sa:Option Addr}{ow:Nat->Nat}
end
section
variable {w w':World}{b lo n mk pc sc:Nat}{xs:List Vg.Lq}{s s':Vg.Iq}{lv sv:Value}{pa sa:Option Addr}{ow:Nat->Nat}{OB:Nat->Prop}
end
end Go.Proofs.YtlkdkgefjipjmaaGreatDoor
