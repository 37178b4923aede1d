/- IrqZ, Work, WorkA, WorkN, WorkL, WorkQ, ServerU (put together). -/
import Derived.Test.YtlkdkgefjipjmaaGreatDoorP19
import Derived.Test.YtlkdkgefjipjmaaGreatDoorP16
import Derived.RangeFuncFrom
import Derived.Test.YtlkdkgefjipjmaaGreatDoorQ1
import Derived.Test.YtlkdkgefjipjmaaGreatDoorQ0
set_option linter.all false
set_option maxHeartbeats 40000000
set_option maxRecDepth 100000
namespace Vg
open Go
theorem Touch.turnedZ{w W W':World}{t:Nat->Prop}{row:Option Nat}{B:Nat}(h:Touch t w W)(hg:W.grownBy W' row)(hB:w.heap.size<=B)(hr:∀r,row=some r->B<=r):Touch t w W':=
 ⟨hg.os.trans h.os,hg.tape.trans h.tape,hg.output.trans h.output,Nat.le_trans h.size hg.size,fun k hk ht=>(hg.block k (Nat.lt_of_lt_of_le hk h.size) fun e=>by have:=hr k e.symm;omega).trans (h.block k hk ht)⟩
theorem Touch.tabZ{t:Nat->Prop}{w w':World}(h:Touch t w w')(hT:Tab w)(h0:¬t 0):Tab w':=fun j hj=>
 (World.cell?_of_block (w:=w) (h.block 0 (World.block_lt_of_cell? w _ (hT 0 (by decide))) h0)).trans (hT j hj)
end Vg
namespace Go.Proofs.YtlkdkgefjipjmaaGreatDoor
open Go.ChangeShapes Go.WideShapes Go.ChangeAt Go.RowKit Go.Shelf
attribute [local go_sem] Oper.semAt_some
section
variable {w w':World}{b nl:Nat}{last:Int}{OB:Nat->Prop}
def QZn(w w':World)(b nl:Nat)(now:Int)(OB:Nat->Prop):Prop:=QZ w' b nl now OB/\Vg.Touch (fun k=>k=b) w w'
theorem qz_active(h:QZ w b nl last OB):Calls Tryz.prog 126 #[.pointer (some ⟨b,0,none⟩)] w fun e w'=>e=.returned (.tuple #[.int .i64 0,.bool false])/\w=w':=by
 obtain⟨c,n,pa,pc,sa,sc,la,lc,h1,h2,h3,h4,h5,h6,h7,h8,h9⟩:=h
 have c8:=Vg.cells_of h3 8
 simp at c8
 have H_h3:=h_ h3;have H_h4:=h_ h4;have H_h5:=h_ h5;have H_h6:=h_ h6;clear h3 h4 h5 h6
 go_enter Tryz.func126,Tryz.ntmps126
 go_wp2
 go_ret2
 exact⟨rfl,rfl⟩
theorem qz_masked(i:Nat)(h:QZ w b nl last OB)(hi:i<nl):Calls Tryz.prog 125 #[.pointer (some ⟨b,0,none⟩),.int .i64 i] w fun e w'=>e=.returned (.bool false)/\w=w':=by
 obtain⟨c,n,pa,pc,sa,sc,la,lc,h1,h2,h3,h4,h5,h6,h7,h8,h9,h10,h11⟩:=h
 have hz:¬nl=0:=by omega
 obtain⟨g,o,rfl⟩:∃g o,la=some ⟨g,o,none⟩:=h11.resolve_left hz
 have c7:=Vg.cells_of h3 7
 have c9:=Vg.cells_of h3 9
 simp at c7 c9
 have h0:(0:Int)<=i:=by omega
 have h1:(i:Int)<nl:=by omega
 have hF:Calls Tryz.prog 190 #[.pointer (some ⟨b,0,none⟩),.int .i64 i] w fun e w'=>e=.returned (.pointer (some ⟨g,o+i*5,none⟩))/\w=w':=by
  have H_h3:=h_ h3;have H_h4:=h_ h4;have H_h5:=h_ h5;have H_h6:=h_ h6;clear h3 h4 h5 h6
  go_enter Tryz.func190,Tryz.ntmps190
  go_wp2
  go_ret
  exact⟨rfl,rfl⟩
 have e1:IntKind.u64.wrap (0:Int)=0:=by rw[IntKind.wrap_u64];omega
 have H_h3:=h_ h3;have H_h4:=h_ h4;have H_h5:=h_ h5;have H_h6:=h_ h6;have H_hF:=h_ hF;clear h3 h4 h5 h6 hF
 go_enter Tryz.func125,Tryz.ntmps125
 go_wp2_with ((go_at_call 190;(with_reducible refine(H_hF.out).mono ?_);rintro e w1 ⟨rfl,rfl⟩))
 go_ret
 exact⟨rfl,rfl⟩
theorem qz_tell(now:Int)(h:QZ w b nl last OB)(l1:last<=now)(l2:now<=4503599627370496):
  Calls Tryz.prog 118 #[.pointer (some ⟨b,0,none⟩),.int .i64 now] w fun e w'=>e=.returned (.int .i64 0)/\QZn w w' b nl now OB:=by
 obtain⟨c,n,pa,pc,sa,sc,la,lc,h1,h2,h3,h4,h5,h6,h7,h8,h9,h10,h11⟩:=h
 obtain⟨ed,hed⟩:∃ed,2 ^ n-1=ed:=⟨_,rfl⟩
 rw[hed]at h3
 obtain⟨c_h3,f_h3,p_h3,l_h3,H_h3⟩:=Vg.lay h3;clear h3
 have H_hed:=h_ hed;have H_h4:=h_ h4;have H_h5:=h_ h5;have H_h6:=h_ h6;have H_h8:=h_ h8;clear hed h4 h5 h6 h8
 go_enter Tryz.func118,Tryz.ntmps118
 go_wp2
 go_ret
 have ht:Vg.Touch (fun k=>k=b) w (Vg.put w b (irqC 0 c.en ed pa n pc sa 0 sc (.slice la nl lc) (.slice none 0 0) 0 now)):=Vg.Touch.put (Vg.Touch.refl (fun k=>k=b) w) rfl _
 exact⟨rfl,⟨c,n,pa,pc,sa,sc,la,lc,h1,h2,by rw[H_hed.out];exact Vg.blk_put_same l_h3,H_h4.out.touch ht (fun k hk=>(H_h5.out k hk).1) (fun k hk=>(H_h6.out k hk).1),H_h5.out,H_h6.out,h7,fun k hk=>Nat.lt_of_lt_of_le (H_h8.out k hk) ht.size,h9,h10,h11⟩,ht⟩
theorem qz_take(now:Int)(h:QZ w b nl last OB)(hT:Vg.Tab w)(hb0:b≠0)(l1:last<=now)(l2:now<=4503599627370496):
  Calls Tryz.prog 68 #[.pointer (some ⟨b,0,none⟩),.int .i64 now] w fun e w'=>e=.returned (.tuple #[.int .i64 0,.bool false,.int .i64 0])/\QZn w w' b nl now OB:=by
 have htk:=qz_tell now h l1 l2
 have H_htk:=h_ htk;have H_hT:=h_ hT;clear htk hT
 clear h
 go_enter Tryz.func68,Tryz.ntmps68
 go_wp2
 go_step3
 go_wp2_with ((go_at_call 118;(with_reducible refine(H_htk.out).mono ?_);rintro e w1 ⟨rfl,hQ,ht1⟩;have H_hQ:=h_ hQ;have H_ht1:=h_ ht1;clear hQ ht1))
 go_step3
 go_wp2
 have hT1:=H_ht1.out.tabZ H_hT.out (by simpa using Ne.symm hb0)
 have H_hT1:=h_ hT1;clear hT1
 go_loopg [] 0 (fun k wr=>k=0/\wr=w1)
 case atStart=>exact⟨rfl,rfl⟩
 case round=>
  obtain⟨rfl,rfl⟩:=hrel
  obtain⟨c,n,pa,pc,sa,sc,la,lc,h1,h2,h3,h4,h5,h6,h7,h8,h9,h10,h11⟩:=H_hQ.out
  obtain⟨ed,hed⟩:∃ed,2 ^ n-1=ed:=⟨_,rfl⟩
  obtain⟨en,hen⟩:∃en,c.en=en:=⟨_,rfl⟩
  rw[hed,hen]at h3
  have hN:Calls Tryz.prog 122 #[.agg #[.int .u64 0,.int .u64 en,.int .u64 0,.int .u64 ed,.slice pa n pc,.int .i64 0,.slice sa 0 sc]] wr fun e w'=>e=.returned (.tuple #[.int .i64 0,.int .i64 3])/\Vg.Grows wr w':=by
   rcases h4.ok.nx_cases with hx|⟨k,hx,hkn,hkp,hke,hks,hkl⟩
   ·have h9:=ic_nextl h4 hed h1 hen H_hT1.out hx
    simp only[icV,if_true,Int.natCast_zero]at h9
    exact h9
   ·rw[h1]at hkp;simp at hkp
  have H_h4:=h_ h4;have H_h5:=h_ h5;have H_h6:=h_ h6;have H_h8:=h_ h8;have H_hN:=h_ hN;have H_hed:=h_ hed;have H_hen:=h_ hen;clear h4 h5 h6 h8 hN hed hen
  obtain⟨c_h3,f_h3,p_h3,l_h3,H_h3⟩:=Vg.lay h3;clear h3
  go_wp2_with ((go_at_call 122;(with_reducible refine(H_hN.out).mono ?_);rintro e w2 ⟨rfl,hg2⟩;have H_hg2:=h_ hg2;clear hg2))
  rw[Exit.noGoto_ret]
  go_returns
  exact⟨rfl,H_hQ.out.grows H_hg2.out,H_ht1.out.trans (Vg.Touch.of_grows H_hg2.out)⟩
theorem zunmask_in (now:Int) (h:QZ w b nl last OB) (hT:Vg.Tab w) (hb0:b≠0) (l1:last<=now) (l2:now<=4503599627370496) :
  CallsIn Fence.wide 4 Tryz.prog 66 #[.pointer (some ⟨b,0,none⟩),.int .i64 now] w fun e w'=>e=.returned (.tuple #[.slice none 0 0,.int .i64 0])/\QZn w w' b nl now OB:=by
 have hro:Fence.wide.round=none:=rfl
 have hn1:1<=4:=by omega
 have h0l:0<w.heap.size:=World.block_lt_of_cell? w _ (hT 0 (by decide))
 have hbl:=h.own.2 b h.own.1
 have htk:∀wz,Vg.Grows w wz->Calls Tryz.prog 118 #[.pointer (some ⟨b,0,none⟩),.int .i64 now] wz fun e w'=>e=.returned (.int .i64 0)/\QZn wz w' b nl now OB:=fun wz hg=>qz_tell now (h.grows hg) l1 l2
 have H_h:=h_ h;have H_hT:=h_ hT;have H_htk:=h_ htk;clear h hT htk
 refine callsIn_of_wp_marks Tryz.func66 rfl trivial ?_ rfl
 simp only[Tryz.ntmps66,List.size_toArray,List.length_cons,List.length_nil,Nat.reduceAdd,Nat.reduceSub,Array.replicate_succ,Array.replicate_zero,List.push_toArray,List.append_toArray,List.nil_append,List.cons_append]
 gi_wp2_with (first|(refine⟨trivial,?_⟩;gi_at_call 118;refine(callsIn_wide.2 (H_htk.out _ (Vg.gro))).mono ?_;rintro e w1 ⟨rfl,hI1,ht1⟩;have y2:=ht1.bk (k:=w.heap.size) (o:=.cells #[.pointer (some ⟨b,0,none⟩)] 78) (by go_simp) (by omega);have y3:=ht1.bk (k:=w.heap.size+1) (o:=.cells #[.int .i64 now] 2) (by go_simp) (by omega);have hs1:=ht1.size;simp only[World.size_alloc]at hs1;obtain⟨c,n,pa,pc,sa,sc,la,lc,g1,g2,yb,g4,g5,g6,g7,g8,g9⟩:=(show QZ w1 b nl now OB from hI1);obtain⟨ed,hed⟩:∃ed,2 ^ n-1=ed:=⟨_,rfl⟩;rw[hed]at yb;obtain⟨c_y2,f_y2,p_y2,l_y2,H_y2⟩:=Vg.lay y2;clear y2;obtain⟨c_y3,f_y3,p_y3,l_y3,H_y3⟩:=Vg.lay y3;clear y3;obtain⟨c_yb,f_yb,p_yb,l_yb,H_yb⟩:=Vg.lay yb;clear yb;have H_hI1:=h_ hI1;have H_ht1:=h_ ht1;have H_g4:=h_ g4;have H_g5:=h_ g5;have H_g6:=h_ g6;have H_g8:=h_ g8;have H_hed:=h_ hed;clear hI1 ht1 g4 g5 g6 g8 hed)|(refine⟨trivial,?_⟩;gi_at_call 119;refine(callsIn_wide.2 (bits_each 0 _)).mono ?_;rintro e w2 ⟨rfl,rfl⟩))
 have hTw:Vg.Tab w1:=H_ht1.out.tabZ (H_hT.out.grows (Vg.gro)) (by simpa using Ne.symm hb0)
 have hgl:Vg.Grows w1 ((w1.alloc (.cells #[.slice none 0 0] 138)).alloc (u64C 0)):=Vg.gro
 obtain⟨b7,hb7⟩:∃b7,w1.heap.size=b7:=⟨_,rfl⟩
 obtain⟨WL,hWL⟩:∃WL,(w1.alloc (.cells #[.slice none 0 0] 138)).alloc (u64C 0)=WL:=⟨_,rfl⟩
 have hsL:WL.heap.size=b7+2:=by rw[<-hWL,<-hb7];simp
 have hT1:Vg.Tab WL:=hTw.grows (by rw[<-hWL];exact hgl)
 have hB1:Vg.blk WL (b7+1)=some (u64C 0):=by rw[<-hWL,<-hb7];exact Vg.alloc_heap_at (by simp)
 have hB7:Vg.blk WL b7=some (.cells #[.slice none 0 0] 138):=by rw[<-hWL,<-hb7];exact(Vg.alloc_heap_past (by simp)).trans (Vg.alloc_heap_at rfl)
 have hgL:Vg.Grows w1 WL:=by rw[<-hWL];exact hgl
 rw[hWL,hb7]
 rw[hb7]at hs1
 have H_hTw:=h_ hTw;have H_hWL:=h_ hWL;have H_hT1:=h_ hT1;have H_hB1:=h_ hB1;have H_hB7:=h_ hB7;have H_hgL:=h_ hgL;clear hTw hWL hT1 hB1 hB7 hgL
 clear hgl
 have h0L:0<WL.heap.size:=by omega
 refine wpIn_rangeFunc_ownG hro hn1 (gf:=185) (lb:=#[.pointer (some ⟨b7+1,0,none⟩)]) rfl trivial (enters_of Tryz.func185 (by kernel_rfl) rfl)
  (each_stops (4-1) (by omega) (fun k=>k=0\/k=b7+1) (b7+1) 0 (by omega) _ (.inl rfl) (.inr rfl)
   (by rintro k (rfl|rfl) <;> omega) H_hB1.out H_hT1.out) Vg.Kept.trans
  (Vg.Kept.putObj (by rintro k (rfl|rfl) <;> omega)) (Below.refl _ _) (fun _=>rfl)
  (fun pre W=>Vg.Touch (fun _=>False) WL W)
  (fun _ _ _=>False)
  (fun pre A C row hs hg hr=>hs.turnedZ hg (Nat.le_refl _) (fun r e=>(hr r e).1))
  (fun _ _ _ _ _ hs _ _=>hs)
  (Vg.Touch.refl _ _) ?a1 ?assign ?body ?done ?stop
 case assign=>
  intro l x W K hK
  gi_wp2
  exact hK
 case body=>
  rintro l pre ⟨k,hkb⟩
  simp at hkb
 case done=>
  rintro D zs W hD-hU hK
  have hc:=Vg.cells_of (hU.bk H_hB7.out (fun hh=>hh)) 0
  simp at hc
  clear c_y2 f_y2 p_y2 c_y3 f_y3 p_y3 c_yb f_yb p_yb
  have H_hU:=h_ hU;clear hU
  gi_wp2
  refine⟨by simp,.inl ⟨_,_,rfl,run_takeDeferred hK,?_⟩⟩
  have hU9:=H_hU.out.turnedZ (B:=WL.heap.size) (grownBy_putObj' W D (.deferred none)) (Nat.le_refl _) (fun r e=>by cases e;exact hD)
  have hgz:=(Vg.Touch.of_grows (t:=fun _=>False) H_hgL.out).trans hU9
  exact⟨_,results_tmp2 rfl _ _ _,rfl,H_hI1.out.touch hgz (fun _ _ hh=>hh),((Vg.Touch.of_grows (Vg.gro)).trans H_ht1.out).trans (hgz.mono fun _ _ hh=>hh.elim)⟩
 case stop=>
  rintro D c pre W _ _ h _
  exact h.elim
theorem qz_unmask(now:Int)(h:QZ w b nl last OB)(hT:Vg.Tab w)(hb0:b≠0)(l1:last<=now)(l2:now<=4503599627370496):
  Calls Tryz.prog 66 #[.pointer (some ⟨b,0,none⟩),.int .i64 now] w fun e w'=>e=.returned (.tuple #[.slice none 0 0,.int .i64 0])/\QZn w w' b nl now OB:=
 (callsIn_wide (n:=4)).1 (zunmask_in now h hT hb0 l1 l2)
theorem znext_in (h:QZ w b nl last OB) (hT:Vg.Tab w) :
  CallsIn Fence.wide 4 Tryz.prog 92 #[.pointer (some ⟨b,0,none⟩)] w fun e w'=>e=.returned (.tuple #[.int .i64 0,.bool false])/\Vg.Touch (fun _=>False) w w':=by
 have hro:Fence.wide.round=none:=rfl
 have hn1:1<=4:=by omega
 have h0l:0<w.heap.size:=World.block_lt_of_cell? w _ (hT 0 (by decide))
 obtain⟨c,n,pa,pc,sa,sc,la,lc,h1,h2,h3,h4,h5,h6,h7,h8,h9⟩:=h
 obtain⟨ed,hed⟩:∃ed,2 ^ n-1=ed:=⟨_,rfl⟩
 rw[hed]at h3
 have c9:=Vg.cells_of h3 9
 have hbl:=Vg.lt_of h3
 simp at c9
 have H_h3:=h_ h3;have H_h4:=h_ h4;have H_h5:=h_ h5;have H_h6:=h_ h6;have H_h8:=h_ h8;have H_hT:=h_ hT;have H_hed:=h_ hed;clear h3 h4 h5 h6 h8 hT hed
 refine callsIn_of_wp_marks Tryz.func92 rfl trivial ?_ rfl
 simp only[Tryz.ntmps92,List.size_toArray,List.length_cons,List.length_nil,Nat.reduceAdd,Nat.reduceSub,Array.replicate_succ,Array.replicate_zero,List.push_toArray,List.append_toArray,List.nil_append,List.cons_append]
 gi_wp2_with (refine⟨trivial,?_⟩;gi_at_call 119;refine(callsIn_wide.2 (bits_each 0 _)).mono ?_;rintro e w2 ⟨rfl,rfl⟩)
 obtain⟨b7,hb7⟩:∃b7,w.heap.size=b7:=⟨_,rfl⟩
 obtain⟨WL,hWL⟩:∃WL,(((w.alloc (.cells #[.pointer (some ⟨b,0,none⟩)] 78)).alloc (.cells #[.int .i64 0] 2)).alloc (.cells #[.bool false] 4)).alloc (u64C 0)=WL:=⟨_,rfl⟩
 have hgL:Vg.Grows w WL:=by rw[<-hWL];exact Vg.gro
 have hsL:WL.heap.size=b7+4:=by rw[<-hWL,<-hb7];simp
 have hB1:Vg.blk WL (b7+3)=some (u64C 0):=by rw[<-hWL,<-hb7];exact Vg.alloc_heap_at (by simp)
 have hB2:Vg.blk WL (b7+2)=some (.cells #[.bool false] 4):=by rw[<-hWL,<-hb7];exact(Vg.alloc_heap_past (by simp)).trans (Vg.alloc_heap_at (by simp))
 have hB7:Vg.blk WL (b7+1)=some (.cells #[.int .i64 0] 2):=by rw[<-hWL,<-hb7];exact(Vg.alloc_heap_past (by simp)).trans ((Vg.alloc_heap_past (by simp)).trans (Vg.alloc_heap_at (by simp)))
 have hT1:Vg.Tab WL:=H_hT.out.grows hgL
 have h0L:0<WL.heap.size:=by omega
 simp only[World.size_alloc,hb7]at⊢
 rw[hWL]
 have H_hWL:=h_ hWL;have H_hT1:=h_ hT1;have H_hB1:=h_ hB1;have H_hB2:=h_ hB2;have H_hB7:=h_ hB7;have H_hgL:=h_ hgL;clear hWL hT1 hB1 hB2 hB7 hgL
 refine wpIn_rangeFunc_ownG hro hn1 (gf:=185) (lb:=#[.pointer (some ⟨b7+3,0,none⟩)]) rfl trivial (enters_of Tryz.func185 (by kernel_rfl) rfl)
  (each_stops (4-1) (by omega) (fun k=>k=0\/k=b7+3) (b7+3) 0 (by omega) _ (.inl rfl) (.inr rfl)
   (by rintro k (rfl|rfl) <;> omega) H_hB1.out H_hT1.out) Vg.Kept.trans
  (Vg.Kept.putObj (by rintro k (rfl|rfl) <;> omega)) (Below.refl _ _) (fun _=>rfl)
  (fun pre W=>Vg.Touch (fun _=>False) WL W)
  (fun _ _ _=>False)
  (fun pre A C row hs hg hr=>hs.turnedZ hg (Nat.le_refl _) (fun r e=>(hr r e).1))
  (fun _ _ _ _ _ hs _ _=>hs)
  (Vg.Touch.refl _ _) ?a1 ?assign ?body ?done ?stop
 case assign=>
  intro l x W K hK
  gi_wp2
  exact hK
 case body=>
  rintro l pre ⟨k,hkb⟩
  simp at hkb
 case done=>
  rintro D zs W hD-hU hK
  have hc:=Vg.cells_of (hU.bk H_hB7.out (fun hh=>hh)) 0
  have hc2:=Vg.cells_of (hU.bk H_hB2.out (fun hh=>hh)) 0
  simp at hc hc2
  have hlD:=Vg.lt_of hK
  have hU2:=hU.size
  have ht9:=hU.trans (Vg.Touch.of_grows (t:=fun _=>False) ((Vg.Grows.refl W).drew))
  have hK9:W.drew.heap[D]? = some (.deferred (some [])):=hK
  have H_hU:=h_ hU;have H_hK:=h_ hK;have H_ht9:=h_ ht9;have H_hK9:=h_ hK9;clear hU hK ht9 hK9
  gi_wp2
  gi_region
  all_goals gi_wp2
  all_goals refine⟨by simp,.inl ⟨_,_,rfl,run_takeDeferred H_hK9.out,?_⟩⟩
  all_goals have hU9:=H_ht9.out.turnedZ (B:=WL.heap.size) (grownBy_putObj' W.drew D (.deferred none)) (Nat.le_refl _) (fun r e=>by cases e;exact hD)
  all_goals exact⟨_,results_tmp2 rfl _ _ _,rfl,(Vg.Touch.of_grows (t:=fun _=>False) H_hgL.out).trans hU9⟩
 case stop=>
  rintro D c pre W _ _ h _
  exact h.elim
theorem qz_next(h:QZ w b nl last OB)(hT:Vg.Tab w):
  Calls Tryz.prog 92 #[.pointer (some ⟨b,0,none⟩)] w fun e w'=>e=.returned (.tuple #[.int .i64 0,.bool false])/\Vg.Touch (fun _=>False) w w':=
 (callsIn_wide (n:=4)).1 (znext_in h hT)
end
end Go.Proofs.YtlkdkgefjipjmaaGreatDoor
namespace Vg
open Go
structure Wq where
 L:List Int
 depth:Int
 lost:Int
abbrev Wp:=Value×Wq
def qcells:List Wp->List Value
 | []=>[]
 | x::l=>x.1 :: .int .i64 x.2.depth :: .int .i64 x.2.lost::qcells l
theorem qcells_length:∀l:List Wp,(qcells l).length=l.length*3
 | []=>rfl
 | x::l=>by simp[qcells,qcells_length l];omega
theorem qcells_append:∀l m:List Wp,qcells (l++m)=qcells l++qcells m
 | [],m=>rfl
 | x::l,m=>by simp[qcells,qcells_append l m]
theorem qcells_get:∀(l:List Wp)(k:Nat)(h:k<l.length),(qcells l)[k*3]? = some l[k].1/\(qcells l)[k*3+1]? = some (.int .i64 l[k].2.depth)/\(qcells l)[k*3+2]? = some (.int .i64 l[k].2.lost)
 | [],k,h=>by simp at h
 | x::l,0,_=>by simp[qcells]
 | x::l,k+1,h=>by
  have:=qcells_get l k (by simpa using h)
  rw[show(k+1)*3=k*3+1+1+1 from by omega]
  simpa[qcells]using this
def Wk.put(Q:List Wq)(n cost:Int):List Wq×Int:=
 if n<0\/(Q.length:Int)<=n then(Q,1)else
 match Q[n.toNat]? with
 | none=>(Q,1)
 | some q=>if cost<1\/1099511627776<cost then(Q,1)else if q.depth<=q.L.length then(Q.set n.toNat ⟨q.L,q.depth,q.lost+1⟩,5)else(Q.set n.toNat ⟨q.L ++ [cost],q.depth,q.lost⟩,0)
def Wk.left(Q:List Wq)(n:Int):Int:=
 if n<0\/(Q.length:Int)<=n then 0 else
 match Q[n.toNat]? with
 | none=>0
 | some q=>q.L.headD 0
def Wk.waiting(Q:List Wq)(n:Int):Int:=
 if n<0\/(Q.length:Int)<=n then 0 else
 match Q[n.toNat]? with
 | none=>0
 | some q=>q.L.length
theorem Wk.left_out{Q:List Wq}{n:Int}(h:n<0\/(Q.length:Int)<=n):Wk.left Q n=0:=if_pos h
theorem Wk.waiting_out{Q:List Wq}{n:Int}(h:n<0\/(Q.length:Int)<=n):Wk.waiting Q n=0:=if_pos h
theorem Wk.put_in{Q:List Wq}{i:Nat}{cost:Int}(h:i<Q.length):Wk.put Q i cost=if cost<1\/1099511627776<cost then(Q,1)else if Q[i].depth<=Q[i].L.length then(Q.set i ⟨Q[i].L,Q[i].depth,Q[i].lost+1⟩,5)else(Q.set i ⟨Q[i].L ++ [cost],Q[i].depth,Q[i].lost⟩,0):=by
 unfold Wk.put
 rw[if_neg (by omega)]
 simp[List.getElem?_eq_getElem h]
theorem Wk.left_in{Q:List Wq}{i:Nat}(h:i<Q.length):Wk.left Q i=Q[i].L.headD 0:=by
 unfold Wk.left
 rw[if_neg (by omega)]
 simp[List.getElem?_eq_getElem h]
theorem Wk.waiting_in{Q:List Wq}{i:Nat}(h:i<Q.length):Wk.waiting Q i=Q[i].L.length:=by
 unfold Wk.waiting
 rw[if_neg (by omega)]
 simp[List.getElem?_eq_getElem h]
theorem Que.queue{w:World}{B:Nat}{ty:TypeId}{v:Value}{M:List Wp}(h:Que w B ty 3 v M.length (qcells M))(i:Nat)(hi:i<M.length):
  ∃g o c,v=.slice (some ⟨g,o,none⟩) M.length c/\B<=g/\g<w.heap.size/\M.length<=c/\c<=9223372036854775807/\w.cell? ⟨g,o+i*3,none⟩=some M[i].1/\w.cell? ⟨g,o+i*3+1,none⟩=some (.int .i64 M[i].2.depth)/\w.cell? ⟨g,o+i*3+2,none⟩=some (.int .i64 M[i].2.lost):=by
 obtain⟨a,c,rfl⟩:=h.shape
 have hl:=qcells_length M
 obtain⟨g,o,rfl,hg,hc,hm,hx⟩:=h.reads.open (by omega)
 obtain⟨g0,g1,g2⟩:=qcells_get M i hi
 have key:∀j u,i*3+j<(qcells M).length->(qcells M)[i*3+j]? = some u->w.cell? ⟨g,o+i*3+j,none⟩=some u:=fun j u hj hu=>by
  have:=hx (i*3+j) hj
  rw[<-Nat.add_assoc]at this
  rw[this,<-hu,List.getElem?_eq_getElem]
 have hhc:c<=9223372036854775807:=hm
 exact⟨g,o,c,rfl,(h.lt g rfl).1,hg,hc,hhc,by simpa using key 0 _ (by omega) g0,key 1 _ (by omega) g1,key 2 _ (by omega) g2⟩
theorem Que.head{w:World}{B:Nat}{ty:TypeId}{v:Value}{x:Int}{l:List Int}(h:Que w B ty 1 v (l.length+1) (ics (x::l))):
  ∃g o c,v=.slice (some ⟨g,o,none⟩) (l.length+1) c/\B<=g/\g<w.heap.size/\l.length+1<=c/\c<=9223372036854775807/\w.cell? ⟨g,o,none⟩=some (.int .i64 x):=by
 obtain⟨a,c,rfl⟩:=h.shape
 obtain⟨g,o,rfl,hg,hc,hm,hx⟩:=h.reads.open (by simp)
 have hhc:c<=9223372036854775807:=hm
 exact⟨g,o,c,rfl,(h.lt g rfl).1,hg,hc,hhc,by simpa using hx 0 (by simp)⟩
end Vg
namespace Go.Proofs.YtlkdkgefjipjmaaGreatDoor
open Go.ChangeShapes Go.WideShapes Go.ChangeAt Go.RowKit
theorem Tryz.info_queue:(Tryz.prog.info? 228).map (fun i=>(i.zero,i.size,i.bytes))=some (some (.agg #[.slice none 0 0,.int .i64 0,.int .i64 0]),3,40):=by kernel_rfl
abbrev workC(v:Value):Obj:=.cells #[v] 226
def wkown(v:Value)(qs:List Vg.Wp)(k:Nat):Prop:=v.ownBlock=some k \/ ∃i,∃h:i<qs.length,qs[i].1.ownBlock=some k
structure WK(w:World)(b B:Nat)(qs:List Vg.Wp)(v:Value):Prop where
 tab:Vg.blk w b=some (workC v)
 row:Vg.Que w B 228 3 v qs.length (Vg.qcells qs)
 pcs:∀i (h:i<qs.length),Vg.Que w B 2 1 qs[i].1 qs[i].2.L.length (Vg.ics qs[i].2.L)
 apart:∀i j (hi:i<qs.length)(hj:j<qs.length),i≠j->∀k,qs[i].1.ownBlock=some k->qs[j].1.ownBlock≠some k
 off:∀i (hi:i<qs.length) k,qs[i].1.ownBlock=some k->v.ownBlock≠some k
section
variable {w w':World}{b B S:Nat}{qs:List Vg.Wp}{v:Value}
theorem WK.lt(h:WK w b B qs v):b<w.heap.size:=Vg.lt_of h.tab
theorem WK.own(h:WK w b B qs v):∀k,wkown v qs k->B<=k/\k<w.heap.size:=by
 rintro k (hk|⟨i,hi,hk⟩)
 ·exact h.row.lt k hk
 ·exact(h.pcs i hi).lt k hk
theorem WK.kept(h:WK w b B qs v)(hb:Vg.blk w' b=Vg.blk w b)(hv:∀k,wkown v qs k->Vg.blk w' k=Vg.blk w k):WK w' b B qs v:=
 ⟨hb.trans h.tab,h.row.kept fun k hk=>hv k (.inl hk),fun i hi=>(h.pcs i hi).kept fun k hk=>hv k (.inr ⟨i,hi,hk⟩),h.apart,h.off⟩
theorem WK.grows(h:WK w b B qs v)(hg:Vg.Grows w w'):WK w' b B qs v:=by
 have hl:=h.lt
 have ho:=h.own
 obtain⟨x,n,rfl⟩:=hg
 exact h.kept (Vg.blk_plus hl) fun k hk=>Vg.blk_plus (ho k hk).2
theorem WK.touch{t:Nat->Prop}(h:WK w b B qs v)(ht:Vg.Touch t w w')(hb:¬t b)(hv:∀k,wkown v qs k->¬t k):WK w' b B qs v:=
 h.kept (ht.block b h.lt hb) fun k hk=>ht.block k (h.own k hk).2 (hv k hk)
theorem work_find_no(m:Int)(h:WK w b B qs v)(hm:m<0\/(qs.length:Int)<=m):
  Calls Tryz.prog 162 #[.pointer (some ⟨b,0,none⟩),.int .i64 m] w fun e w'=>e=.returned (.pointer none)/\w=w':=by
 obtain⟨a,c,rfl⟩:=h.row.shape
 have c0:=Vg.cells_of h.tab 0
 simp at c0
 clear h
 by_cases h0:m<0
 ·clear hm
  go_enter Tryz.func162,Tryz.ntmps162
  go_wp2
  go_ret
  exact⟨rfl,rfl⟩
 ·have h1:(qs.length:Int)<=m:=by omega
  clear hm
  go_enter Tryz.func162,Tryz.ntmps162
  go_wp2
  go_ret
  exact⟨rfl,rfl⟩
theorem work_find{g o c:Nat}(i:Nat)(hi:i<qs.length)(h:WK w b B qs (.slice (some ⟨g,o,none⟩) qs.length c))(hc:qs.length<=c)(hcm:c<=9223372036854775807):
  Calls Tryz.prog 162 #[.pointer (some ⟨b,0,none⟩),.int .i64 i] w fun e w'=>e=.returned (.pointer (some ⟨g,o+i*3,none⟩))/\w=w':=by
 have c0:=Vg.cells_of h.tab 0
 simp at c0
 clear h
 have h0:(0:Int)<=i:=by omega
 have h1:(i:Int)<qs.length:=by omega
 go_enter Tryz.func162,Tryz.ntmps162
 go_wp2
 go_ret
 exact⟨rfl,rfl⟩
theorem wk_left(m:Int)(h:WK w b B qs v):
  Calls Tryz.prog 160 #[.pointer (some ⟨b,0,none⟩),.int .i64 m] w fun e w'=>e=.returned (.int .i64 (Vg.Wk.left (qs.map (·.2)) m))/\w=w':=by
 by_cases hm:m<0\/(qs.length:Int)<=m
 ·rw[Vg.Wk.left_out (by simpa using hm)]
  have H_h:=h_ h;clear h
  go_enter Tryz.func160,Tryz.ntmps160
  go_wp2_with ((go_at_call 162;refine(work_find_no m H_h.out hm).mono ?_;rintro e w' ⟨rfl,rfl⟩))
  go_ret
  exact⟨rfl,rfl⟩
 ·obtain⟨i,rfl⟩:∃i:Nat,m=i:=⟨m.toNat,by omega⟩
  have hi:i<qs.length:=by omega
  rw[Vg.Wk.left_in (by simpa using hi)]
  have hp:=h.pcs i hi
  obtain⟨g,o,c,rfl,hg1,hg2,hc1,hc2,c0,c1,c2⟩:=h.row.queue i hi
  rw[List.getElem_map]
  obtain⟨⟨u,⟨L,d,lo⟩⟩,hx⟩:∃x,qs[i]=x:=⟨_,rfl⟩
  rw[hx]at c0 c1 c2 hp ⊢
  simp only[]at c0 c1 c2 hp ⊢
  have H_h:=h_ h;have H_hx:=h_ hx;clear h hx
  cases L with
  | nil=>
   obtain⟨ua,uc,rfl⟩:=hp.shape
   have H_hp:=h_ hp;clear hp
   go_enter Tryz.func160,Tryz.ntmps160
   go_wp2_with ((go_at_call 162;refine(work_find i hi H_h.out hc1 hc2).mono ?_;rintro e w' ⟨rfl,rfl⟩))
   go_ret
   exact⟨rfl,rfl⟩
  | cons x l=>
   obtain⟨g2,o2,c',rfl,hb2,hl2,hc3,hc4,hcell⟩:=Vg.Que.head hp
   have hz:((l.length:Int)+1==0)=false:=by simp;omega
   have H_hp:=h_ hp;clear hp
   go_enter Tryz.func160,Tryz.ntmps160
   go_wp2_with ((go_at_call 162;refine(work_find i hi H_h.out hc1 hc2).mono ?_;rintro e w' ⟨rfl,rfl⟩))
   go_ret
   exact⟨rfl,rfl⟩
theorem wk_waiting(m:Int)(h:WK w b B qs v):
  Calls Tryz.prog 200 #[.pointer (some ⟨b,0,none⟩),.int .i64 m] w fun e w'=>e=.returned (.int .i64 (Vg.Wk.waiting (qs.map (·.2)) m))/\w=w':=by
 by_cases hm:m<0\/(qs.length:Int)<=m
 ·rw[Vg.Wk.waiting_out (by simpa using hm)]
  have H_h:=h_ h;clear h
  go_enter Tryz.func200,Tryz.ntmps200
  go_wp2_with ((go_at_call 162;refine(work_find_no m H_h.out hm).mono ?_;rintro e w' ⟨rfl,rfl⟩))
  go_ret
  exact⟨rfl,rfl⟩
 ·obtain⟨i,rfl⟩:∃i:Nat,m=i:=⟨m.toNat,by omega⟩
  have hi:i<qs.length:=by omega
  rw[Vg.Wk.waiting_in (by simpa using hi)]
  have hp:=h.pcs i hi
  obtain⟨g,o,c,rfl,hg1,hg2,hc1,hc2,c0,c1,c2⟩:=h.row.queue i hi
  rw[List.getElem_map]
  obtain⟨⟨u,⟨L,d,lo⟩⟩,hx⟩:∃x,qs[i]=x:=⟨_,rfl⟩
  rw[hx]at c0 c1 c2 hp ⊢
  simp only[]at c0 c1 c2 hp ⊢
  obtain⟨ua,uc,rfl⟩:=hp.shape
  have H_h:=h_ h;have H_hx:=h_ hx;have H_hp:=h_ hp;clear h hx hp
  go_enter Tryz.func200,Tryz.ntmps200
  go_wp2_with ((go_at_call 162;refine(work_find i hi H_h.out hc1 hc2).mono ?_;rintro e w' ⟨rfl,rfl⟩))
  go_ret
  exact⟨rfl,rfl⟩
end
end Go.Proofs.YtlkdkgefjipjmaaGreatDoor
namespace Vg
open Go
end Vg
namespace Go.Proofs.YtlkdkgefjipjmaaGreatDoor
open Go.ChangeShapes Go.WideShapes Go.ChangeAt Go.RowKit
section
variable {w w':World}{b B S:Nat}{qs:List Vg.Wp}{v:Value}
end
end Go.Proofs.YtlkdkgefjipjmaaGreatDoor
namespace Vg
open Go
def oddW(x:Int):Bool:=decide (x<1)||decide (64<x)
def wq0(d:Int):Wp:=(.slice none 0 0,⟨[],d,0⟩)
end Vg
namespace Go.Proofs.YtlkdkgefjipjmaaGreatDoor
open Go.ChangeShapes Go.WideShapes Go.ChangeAt Go.RowKit
section
variable {w:World}{L:List Int}{sa:Option Addr}{sc:Nat}
theorem work_odd(x:Int)(w:World):Calls Tryz.prog 87 #[.int .i64 x] w fun e w'=>e=.returned (.bool (Vg.oddW x))/\w=w':=by
 by_cases h0:x<1
 ·go_enter Tryz.func87,Tryz.ntmps87
  go_wp2
  go_ret
  exact⟨ret_bool (by simp[Vg.oddW,h0]),rfl⟩
 ·by_cases h1:64<x
  ·go_enter Tryz.func87,Tryz.ntmps87
   go_wp2
   go_ret
   exact⟨ret_bool (by simp[Vg.oddW,h1]),rfl⟩
  ·go_enter Tryz.func87,Tryz.ntmps87
   go_wp2
   go_ret
   exact⟨ret_bool (by simp[Vg.oddW];omega),rfl⟩
theorem work_idx(hr:Vg.IR w sa sc L):
  Calls Tryz.prog 144 #[.slice sa L.length sc,.func (.func 87) #[] #[]] w fun e w'=>e=.returned (.int .i64 (Vg.idx Vg.oddW L))/\w=w':=by
 have HR:=h_ hr
 clear hr
 obtain⟨n,hn⟩:∃n,L.length=n:=⟨_,rfl⟩
 rw[hn]
 have hcm:n<=9223372036854775807:=by
  have h1:=HR.out.1
  have h2:sc<=9223372036854775807:=HR.out.2.1
  omega
 have H_hn:=h_ hn;clear hn
 go_enter Tryz.func144,Tryz.ntmps144
 go_wp2
 go_loop [8] (fun i=>∃k:Nat,k<=n/\i=.int .i64 k/\(L.take k).any Vg.oddW=false) (fun i=>n-(intOf i).toNat)
 case atStart=>exact⟨0,by omega,rfl,by simp⟩
 case round=>
  obtain⟨k,hk,rfl,hpre⟩:=hrel
  by_cases hlt:k<n
  ·have hkL:k<L.length:=by rw[H_hn.out];exact hlt
   obtain⟨g,off,rfl,hg,hc,hm,hcell⟩:=HR.out.icell k hkL
   have hsn:=List.take_succ_eq_append_getElem hkL
   obtain⟨x,hx⟩:∃x,L[k]=x:=⟨_,rfl⟩
   rw[hx]at hcell hsn
   cases hp:Vg.oddW x with
   | true=>
    have hi:=Vg.idx_at hkL hpre (by rw[hx];exact hp)
    have H_hpre:=h_ hpre;have H_hsn:=h_ hsn;have H_hx:=h_ hx;have H_hp:=h_ hp;have H_hi:=h_ hi;clear hpre hsn hx hp hi
    go_wp2_with ((go_at_call 87;refine(work_odd _ _).mono ?_;rintro e w' ⟨rfl,rfl⟩;rw[H_hp.out]))
    go_ret
    rw[H_hi.out]
    exact⟨rfl,rfl⟩
   | false=>
    have hnx:(L.take (k+1)).any Vg.oddW=false:=by rw[hsn,List.any_append,hpre];simp[hp]
    have H_hpre:=h_ hpre;have H_hsn:=h_ hsn;have H_hx:=h_ hx;have H_hp:=h_ hp;have H_hnx:=h_ hnx;clear hpre hsn hx hp hnx
    go_wp2_with ((go_at_call 87;refine(work_odd _ _).mono ?_;rintro e w' ⟨rfl,rfl⟩;rw[H_hp.out]))
    go_round
    case rel=>exact⟨k+1,by omega,by go_num,H_hnx.out⟩
    case measure=>simp[intOf];omega
  ·have hi:Vg.idx Vg.oddW L=-1:=Vg.idx_none (by rw[<-hpre,List.take_of_length_le (by rw[H_hn.out];omega)])
   have H_hpre:=h_ hpre;have H_hi:=h_ hi;clear hpre hi
   go_wp2
   go_ret
   rw[H_hi.out]
   exact⟨rfl,rfl⟩
theorem work_contains(hr:Vg.IR w sa sc L):
  Calls Tryz.prog 82 #[.slice sa L.length sc,.func (.func 87) #[] #[]] w fun e w'=>e=.returned (.bool (L.any Vg.oddW))/\w=w':=by
 cases h:L.any Vg.oddW with
 | true=>
  have hi:=Vg.idx_some h
  obtain⟨r,hr'⟩:∃r,Vg.idx Vg.oddW L=r:=⟨_,rfl⟩
  rw[hr']at hi
  have H_h:=h_ h;have H_hr':=h_ hr';have H_hr:=h_ hr;clear h hr' hr
  go_enter Tryz.func82,Tryz.ntmps82
  go_wp2_with ((go_at_call 144;refine(work_idx H_hr.out).mono ?_;rintro e w' ⟨rfl,rfl⟩;rw[H_hr'.out]))
  go_ret
  exact⟨rfl,rfl⟩
 | false=>
  have hi:=Vg.idx_none h
  have H_h:=h_ h;have H_hi:=h_ hi;have H_hr:=h_ hr;clear h hi hr
  go_enter Tryz.func82,Tryz.ntmps82
  go_wp2_with ((go_at_call 144;refine(work_idx H_hr.out).mono ?_;rintro e w' ⟨rfl,rfl⟩;rw[H_hi.out]))
  go_ret
  exact⟨rfl,rfl⟩
theorem work_new_no(hr:Vg.IR w sa sc L)(h:L.length=0\/64<L.length\/L.any Vg.oddW=true):
  Calls Tryz.prog 50 #[.slice sa L.length sc] w fun e w'=>e=.returned (.tuple #[.pointer none,.int .i64 1])/\w=w':=by
 by_cases h0:L.length=0
 ·have hl:L=[]:=List.eq_nil_of_length_eq_zero h0
  subst hl
  clear h h0
  have H_hr:=h_ hr;clear hr
  go_enter Tryz.func50,Tryz.ntmps50
  go_wp2_with fail
  go_ret2
  exact⟨rfl,rfl⟩
 ·have h3:=h.resolve_left h0
  have hz:((L.length:Int)==0)=false:=by simp;exact fun hh=>h0 (by rw[hh];rfl)
  by_cases h1:64<L.length
  ·clear h h3
   have H_hr:=h_ hr;have H_h0:=h_ h0;clear hr h0
   go_enter Tryz.func50,Tryz.ntmps50
   go_wp2_with fail
   go_ret2
   exact⟨rfl,rfl⟩
  ·have h2:L.any Vg.oddW=true:=h3.resolve_left h1
   clear h h3
   have H_hr:=h_ hr;have H_h2:=h_ h2;have H_h0:=h_ h0;clear hr h2 h0
   go_enter Tryz.func50,Tryz.ntmps50
   go_wp2_with ((go_at_call 82;refine(work_contains H_hr.out).mono ?_;rintro e w' ⟨rfl,rfl⟩;rw[H_h2.out]))
   go_ret2
   exact⟨rfl,rfl⟩
theorem work_new(hr:Vg.IR w sa sc L)(h0:1<=L.length)(h1:L.length<=64)(h2:L.any Vg.oddW=false):
  Calls Tryz.prog 50 #[.slice sa L.length sc] w fun e w'=>∃v,e=.returned (.tuple #[.pointer (some ⟨w.heap.size,0,none⟩),.int .i64 0])/\WK w' w.heap.size (w.heap.size+1) (L.map Vg.wq0) v/\Vg.Grows w w':=by
 obtain⟨i0,hi,hz0,hz1,hz2⟩:=info_parts Tryz.info_queue
 obtain⟨n,hn⟩:∃n,L.length=n:=⟨_,rfl⟩
 have hcon:=work_contains hr
 have HCON:=h_ hcon
 rw[hn]at h0 h1 ⊢
 have H16:n<=64:=h1
 have hz:((n:Int)==0)=false:=by simp;omega
 have H_hr:=h_ hr;have H_h2:=h_ h2;have H_hn:=h_ hn;clear hr h2 hn
 clear hcon
 go_enter Tryz.func50,Tryz.ntmps50
 go_wp2_with ((go_at_call 82;have hcon:=HCON.out;rw[H_hn.out]at hcon;refine hcon.mono ?_;clear hcon;rintro e w' ⟨rfl,rfl⟩;rw[H_h2.out]))
 obtain⟨b,hb⟩:∃b,w.heap.size=b:=⟨_,rfl⟩
 obtain⟨W0,hW0⟩:∃W0,w.alloc (workC (.slice none 0 0))=W0:=⟨_,rfl⟩
 have g1:Vg.blk W0 b=some (workC (.slice none 0 0)):=by rw[<-hW0,<-hb];exact Vg.alloc_heap_at rfl
 have g4:Vg.Grows w W0:=by rw[<-hW0];exact Vg.gro
 have hbw:w.heap.size<=b:=by omega
 have hsz:b+1<=W0.heap.size:=by rw[<-hW0,<-hb];simp
 simp only[hb]
 rw[hW0]
 have H_hb:=h_ hb;have H_hW0:=h_ hW0;have H_g1:=h_ g1;clear hb hW0 g1
 go_loopw [25] (fun i wr=>∃(k:Nat)(v:Value),k<=n/\i=.int .i64 k/\b+1<=wr.heap.size/\Vg.Grows w wr/\Vg.blk wr b=some (workC v)/\Vg.Que wr (b+1) 228 3 v ((L.take k).map Vg.wq0).length (Vg.qcells ((L.take k).map Vg.wq0))) (fun i _=>n-(intOf i).toNat)
 case atStart=>exact⟨0,_,by omega,rfl,hsz,g4,H_g1.out,Vg.Que.nil _ _ _ _⟩
 case round=>
  obtain⟨k,v,hk,rfl,hszr,hgr,d1,hq⟩:=hrel
  by_cases hlt:k<n
  ·have hkL:k<L.length:=by rw[H_hn.out];exact hlt
   obtain⟨g,off,rfl,hg,hc,hm,hcell⟩:=H_hr.out.icell k hkL
   have hsn:=List.take_succ_eq_append_getElem hkL
   obtain⟨x,hx⟩:∃x,L[k]=x:=⟨_,rfl⟩
   rw[hx]at hcell hsn
   have hcell:=(hgr.below.cell (p:=⟨g,off+k,none⟩) hg).trans hcell
   have hgl:g<wr.heap.size:=Nat.lt_of_lt_of_le hg hgr.size
   have hlk:((L.take k).map Vg.wq0).length=k:=by simp;omega
   rw[hlk]at hq
   obtain⟨va,vc,rfl⟩:=hq.shape
   obtain⟨c_d1,f_d1,p_d1,l_d1,H_d1⟩:=Vg.lay d1;clear d1
   have H_hq:=h_ hq;have H_hsn:=h_ hsn;have H_hx:=h_ hx;have H_hlk:=h_ hlk;clear hq hsn hx hlk
   go_wp2_with (at_builtin;(refine Vg.wpList_que (w:=_) rfl (.tmp 33) (.tmp 36) 224 rfl (b+1) 228 i0 (.agg #[.slice none 0 0,.int .i64 0,.int .i64 0]) 3 40 Tryz.underlying224 hi hz0 hz1 hz2 rfl (by decide) (.slice va k vc) k _ rfl (H_hq.out.grows (Vg.gro)) _ 1 1 [.slice none 0 0,.int .i64 x,.int .i64 0] rfl rfl (Vg.three_new (by first|rfl|((try simp only[World.size_alloc,Vg.plus_size,Vg.put_size,World.size_setCell,World.size_drew,World.heap_drewN])<;>omega))) (by simp[Value.oneCell']) (by decide) (by unfold maxLen;omega) (by omega) (by simp only[World.size_alloc];omega) ?_;intro v2 W1 y2 m2 hq2 hs2 ho2;obtain⟨a2,c2,rfl⟩:=hq2.shape;have z1:=(hs2.block b (fun hh=>by have:=(H_hq.out.lt b hh).1;omega)).trans ((Vg.alloc_heap_past l_d1).trans H_d1.out);have hszW:=hs2.size;rw[World.size_alloc]at hszW;have hgW:=hs2.grows (hgr.alloc _) (fun j hj=>by have:=(H_hq.out.lt j hj).1;omega);clear c_d1 f_d1 p_d1;obtain⟨c_z1,f_z1,p_z1,l_z1,H_z1⟩:=Vg.lay z1;clear z1;have H_hq2:=h_ hq2;have H_hs2:=h_ hs2;have H_ho2:=h_ ho2;clear hq2 hs2 ho2))
   refine⟨⟨k+1,_,by omega,by go_num,by rw[Vg.plus_size,Vg.put_size];omega,Vg.gro,(Vg.blk_plus (by rw[Vg.put_size];omega)).trans (Vg.put_heap_same (by omega)),?_⟩,by simp[intOf];omega⟩
   rw[H_hsn.out,List.map_append,Vg.qcells_append,List.length_append,H_hlk.out]
   refine H_hq2.out.kept fun j hj=>?_
   have:=(H_hq2.out.lt j hj).1
   rw[<-Vg.put_plus (by omega)]
   exact Vg.put_heap_other (by omega)
  ·have hkn:k=n:=by omega
   subst hkn
   have htk:L.take k=L:=List.take_of_length_le (by rw[H_hn.out];exact Nat.le_refl _)
   rw[htk]at hq
   have hce:WK wr b (b+1) (L.map Vg.wq0) v:=by
    have key:∀i (h:i<(L.map Vg.wq0).length),(L.map Vg.wq0)[i].1=.slice none 0 0/\(L.map Vg.wq0)[i].2.L=[]:=fun i h=>by rw[List.getElem_map];exact⟨rfl,rfl⟩
    refine⟨d1,hq,fun i h=>?_,fun i j h1 h2 _ x hx=>?_,fun i h x hx=>?_⟩
    ·rw[(key i h).1,(key i h).2];exact Vg.Que.nil _ _ _ _
    ·rw[(key i h1).1]at hx;simp[Value.ownBlock]at hx
    ·rw[(key i h).1]at hx;simp[Value.ownBlock]at hx
   have H_hce:=h_ hce;have H_htk:=h_ htk;have H_hq:=h_ hq;have H_d1:=h_ d1;clear hce htk hq d1
   go_wp2_with fail
   go_ret2
   exact⟨v,(by rw[H_hb.out];rfl),(by rw[H_hb.out];exact H_hce.out),hgr⟩
end
section
variable {w:World}{b B:Nat}{qs:List Vg.Wp}{v:Value}
end
end Go.Proofs.YtlkdkgefjipjmaaGreatDoor
namespace Go.Proofs.YtlkdkgefjipjmaaGreatDoor
open Go.ChangeShapes Go.WideShapes Go.ChangeAt Go.RowKit
structure WS(w:World)(b B:Nat)(Q:List Vg.Wq)(v:Value)(O:Nat->Prop):Prop where
 ex:∃qs,WK w b B qs v/\qs.map (·.2)=Q/\∀k,wkown v qs k->O k
 hb:b<B
 hB:B<=w.heap.size
 own:∀k,O k->B<=k/\k<w.heap.size
section
variable {w w' w0:World}{b B:Nat}{Q Q':List Vg.Wq}{v:Value}{O:Nat->Prop}{r x:Int}{is:Bool}
theorem WS.grows(h:WS w b B Q v O)(hg:Vg.Grows w w'):WS w' b B Q v O:=by
 obtain⟨⟨qs,h1,h2,h3⟩,h4,h5,h6⟩:=h
 exact⟨⟨qs,h1.grows hg,h2,h3⟩,h4,Nat.le_trans h5 hg.size,fun k hk=>⟨(h6 k hk).1,Nat.lt_of_lt_of_le (h6 k hk).2 hg.size⟩⟩
theorem WS.touch{t:Nat->Prop}(h:WS w b B Q v O)(ht:Vg.Touch t w w')(hb:¬t b)(hv:∀k,O k->¬t k):WS w' b B Q v O:=by
 obtain⟨⟨qs,h1,h2,h3⟩,h4,h5,h6⟩:=h
 exact⟨⟨qs,h1.touch ht hb fun k hk=>hv k (h3 k hk),h2,h3⟩,h4,Nat.le_trans h5 ht.size,fun k hk=>⟨(h6 k hk).1,Nat.lt_of_lt_of_le (h6 k hk).2 ht.size⟩⟩
theorem ws_waiting(m:Int)(h:WS w b B Q v O)(hx:Vg.Wk.waiting Q m=x):
  Calls Tryz.prog 200 #[.pointer (some ⟨b,0,none⟩),.int .i64 m] w fun e w'=>e=.returned (.int .i64 x)/\w=w':=by
 obtain⟨⟨qs,h1,h2,h3⟩,h4,h5,h6⟩:=h
 have:=wk_waiting m h1
 rw[h2,hx]at this
 exact this
theorem ws_new{L:List Int}{sa:Option Addr}{sc n:Nat}(hn:L.length=n)(hr:Vg.IR w sa sc L)(h0:1<=L.length)(h1:L.length<=64)(h2:L.any Vg.oddW=false)(hQ:(L.map fun d=>(⟨[],d,0⟩:Vg.Wq))=Q):
  Calls Tryz.prog 50 #[.slice sa n sc] w fun e w'=>∃v O,e=.returned (.tuple #[.pointer (some ⟨w.heap.size,0,none⟩),.int .i64 0])/\WS w' w.heap.size (w.heap.size+1) Q v O/\Vg.Grows w w':=by
 subst hn
 refine(work_new hr h0 h1 h2).mono ?_
 rintro e w' ⟨v,rfl,hk,hg⟩
 refine⟨v,wkown v (L.map Vg.wq0),rfl,⟨⟨_,hk,?_,fun k hk=>hk⟩,Nat.lt_succ_self _,hk.lt,hk.own⟩,hg⟩
 rw[List.map_map,<-hQ]
 rfl
theorem ws_new_no{L:List Int}{sa:Option Addr}{sc n:Nat}(hn:L.length=n)(hr:Vg.IR w sa sc L)(h:L.length=0\/64<L.length\/L.any Vg.oddW=true):
  Calls Tryz.prog 50 #[.slice sa n sc] w fun e w'=>e=.returned (.tuple #[.pointer none,.int .i64 1])/\w=w':=by
 subst hn
 exact work_new_no hr h
end
end Go.Proofs.YtlkdkgefjipjmaaGreatDoor
namespace Vg
open Go
def Wq.inv(k:Nat)(q:Wq):Prop:=q.depth<=64/\0<=q.lost/\q.lost<=k/\(q.L.length:Int)<=q.depth/\∀x∈q.L,1<=x/\x<=1099511627776
structure Wk.Inv(k:Nat)(Q:List Wq):Prop where
 len:Q.length<=64
 each:∀q∈Q,q.inv k
theorem Wk.Inv.start{L:List Int}(hl:L.length<=64)(h:L.any oddW=false):Wk.Inv 0 (L.map fun d=>(⟨[],d,0⟩:Wq)):=by
 refine⟨by simpa using hl,fun q hq=>?_⟩
 obtain⟨d,hd,rfl⟩:=List.mem_map.1 hq
 have ho:oddW d=false:=by
  cases hh:oddW d with
  | false=>rfl
  | true=>rw[<-h];exact(List.any_eq_true.2 ⟨d,hd,hh⟩).symm
 simp only[oddW,Bool.or_eq_false_iff,decide_eq_false_iff_not]at ho
 refine⟨?_,Int.le_refl _,Int.le_refl _,?_,fun x hx=>by simp at hx⟩
 ·show d<=64;omega
 ·show(0:Int)<=d;omega
end Vg
namespace Go.Proofs.YtlkdkgefjipjmaaGreatDoor
open Go.ChangeShapes Go.WideShapes Go.ChangeAt Go.RowKit
section
variable {b B:Nat}{left period last:Int}{v:Value}{L:List (Int×Int)}{w:World}{sa:Option Addr}{sc:Nat}
end
end Go.Proofs.YtlkdkgefjipjmaaGreatDoor
