/- ExNx, Ply, Plz (put together). -/
import Derived.Test.YtlkdkgefjipjmaaGreatDoorP30
import Derived.Laws.CopyRow
import Derived.Test.YtlkdkgefjipjmaaGreatDoorP33
import Derived.Test.YtlkdkgefjipjmaaGreatDoorPc
import Derived.Test.YtlkdkgefjipjmaaGreatDoorP38
import Derived.Test.YtlkdkgefjipjmaaGreatDoorP40
import Derived.Test.YtlkdkgefjipjmaaGreatDoorQ0
import Derived.OrdersHeld
import Derived.WalkKit
import Derived.Deep.RegionHeld
import Derived.Lib.Hide
import Derived.RowKit
set_option linter.all false
set_option maxHeartbeats 40000000
set_option maxRecDepth 100000
namespace Go.Proofs.YtlkdkgefjipjmaaGreatDoor
open Go.ChangeShapes Go.WideShapes Go.ChangeAt Go.RowKit
section
variable {w w' w0 w2:World}{xb lo N k N' k':Nat}{A:Vg.Ad}{s s':Vg.Xp}{mv:Value}{ws:List Value}{Bs:List Vg.Bp}{ql:Int}{ow:Nat->Nat}{OB:Nat->Prop}
theorem es_idle(h:ES w xb lo A s N k OB):Calls Tryz.prog 38 #[.pointer (some ⟨xb,0,none⟩)] w fun e w'=>e=.returned (.int .i64 s.idle)/\w=w':=by
 obtain⟨ma,mc,x0⟩:=h.tab
 have c16:=Vg.cells_of x0 16
 simp[exC]at c16
 have hl:=Vg.lt_of x0
 have H_h:=h_ h;have H_x0:=h_ x0;clear h x0
 go_enter Tryz.func38,Tryz.ntmps38
 go_wp2
 go_ret
 exact⟨rfl,rfl⟩
theorem es_stat(i:Nat)(h:ES w xb lo A s N k OB)(hi:i<s.B.length)(hT:A.T.length<=1048576):∃a b c d e9,Calls Tryz.prog 37 #[.pointer (some ⟨xb,0,none⟩),.int .i64 i] w fun e w'=>e=.returned (.agg #[.int .i64 a,.int .i64 b,.int .i64 c,.int .i64 d,.int .i64 e9])/\Vg.Grows w w':=by
 obtain⟨mv,ws,Bs,ql,ow,h1,h2,h3⟩:=h
 obtain⟨us,hi1,ua,uc,hus,hgb,u0,u1,u2,u3,u4,u5,u6,u7⟩:=h1.book_at hi
 have c10:=Vg.cells_of h1.tab 10
 simp at c10
 have hl:=Vg.lt_of h1.tab
 have hlg:=Vg.lt_of hgb
 have hnT:(i:Int)<A.T.length:=by have:=h1.bl.1;omega
 obtain⟨⟨sj,sm,sw9,ss,sl⟩,hst⟩:∃st,s.B[i].st=st:=⟨_,rfl⟩
 simp only[hst]at u3 u4 u5 u6 u7
 have d0:w.cell? ⟨A.gb,i*7+2,none⟩=some (.int .i64 sj):=by rw[Vg.cells_of hgb];simpa using u3
 have d1:w.cell? ⟨A.gb,i*7+2+1,none⟩=some (.int .i64 sm):=by rw[Vg.cells_of hgb];simpa using u4
 have d2:w.cell? ⟨A.gb,i*7+2+2,none⟩=some (.int .i64 sw9):=by rw[Vg.cells_of hgb];simpa using u5
 have d3:w.cell? ⟨A.gb,i*7+2+3,none⟩=some (.int .i64 ss):=by rw[Vg.cells_of hgb];simpa using u6
 have d4:w.cell? ⟨A.gb,i*7+2+4,none⟩=some (.int .i64 sl):=by rw[Vg.cells_of hgb];simpa using u7
 obtain⟨gb,hgbe⟩:∃gb,A.gb=gb:=⟨_,rfl⟩
 obtain⟨nt,hnt⟩:∃nt,A.T.length=nt:=⟨_,rfl⟩
 rw[hgbe]at c10 hlg d0 d1 d2 d3 d4
 rw[hnt]at c10 hnT
 have hi0:(0:Int)<=i:=by omega
 have hi9:¬(i:Int)<0:=by omega
 have hi8:¬(nt:Int)<=i:=by omega
 refine⟨sj,sm,sw9,ss,sl,?_⟩
 have H_h1:=h_ h1;have H_h2:=h_ h2;have H_h3:=h_ h3;have H_hus:=h_ hus;have H_hgb:=h_ hgb;have H_u0:=h_ u0;have H_u1:=h_ u1;have H_u2:=h_ u2;have H_u3:=h_ u3;have H_u4:=h_ u4;have H_u5:=h_ u5;have H_u6:=h_ u6;have H_u7:=h_ u7;have H_hgbe:=h_ hgbe;have H_hnt:=h_ hnt;have H_hst:=h_ hst;clear h1 h2 h3 hus hgb u0 u1 u2 u3 u4 u5 u6 u7 hgbe hnt hst
 go_enter Tryz.func37,Tryz.ntmps37
 go_wp2
 go_returns
 exact⟨rfl,Vg.gro⟩
end
end Go.Proofs.YtlkdkgefjipjmaaGreatDoor
namespace Go.Proofs.YtlkdkgefjipjmaaGreatDoor
open Go.ChangeShapes Go.WideShapes Go.ChangeAt Go.RowKit
section
variable {w:World}{xb lo N k:Nat}{A:Vg.Ad}{s:Vg.Xp}{OB:Nat->Prop}
theorem pl_do(n:Int){en:Int}(h:ES w xb lo A s N k OB)(hT:Vg.Tab w)(hlo:1<=lo)(hQ:Vg.Idle A.Q)(hnl:A.nl<=64)(hsw:0<=A.sw/\A.sw<=1099511627776)(hn0:0<=n)(hen:s.t+n=en)(hM:en<=4503599627370496)(hk:k<=800000)(hN:N<=1099511627776)
  (hX:∀m F s',m<=16384->Vg.Steps A en m F s s'->Vg.Xc A en s'/\F<=100000):
  Calls Tryz.prog 36 #[.pointer (some ⟨xb,0,none⟩),.agg #[.int .u8 1,.int .i64 0,.int .i64 n,.int .i64 0]] w fun e w'=>∃m F s',e=.returned (.int .i64 0)/\Vg.Steps A en m F s s'/\m<=16384/\ESn w w' xb lo A s' (N+F) (k+F) OB:=by
 have had:∀wz,Vg.Grows w wz->Calls Tryz.prog 9 #[.pointer (some ⟨xb,0,none⟩),.int .i64 n] wz fun e w'=>∃m F s',e=.returned (.tuple #[.int .i64 (s'.t-s.t),.int .i64 0])/\Vg.Steps A en m F s s'/\m<=16384/\ESn w w' xb lo A s' (N+F) (k+F) OB:=fun wz hg=>by
  refine(es_advance n (h.grows hg) (hT.grows hg) hlo hQ hnl hsw hn0 hen hM hk hN hX).mono ?_
  rintro e w' ⟨m,F,s',rfl,h1,h2,_,h3⟩
  exact⟨m,F,s',rfl,h1,h2,h3.pre hg⟩
 clear hX
 have H_h:=h_ h;have H_had:=h_ had;have H_hT:=h_ hT;have H_hQ:=h_ hQ;clear h had hT hQ
 go_enter Tryz.func36,Tryz.ntmps36
 go_wp2_with ((go_at_call 9;(with_reducible refine(H_had.out _ (Vg.gro)).mono ?_);rintro e1 w1 ⟨m,F,s',rfl,hS,hm,hn⟩;have H_hS:=h_ hS;have H_hn:=h_ hn;clear hS hn))
 go_ret
 exact⟨m,F,s',rfl,H_hS.out,hm,H_hn.out⟩
end
end Go.Proofs.YtlkdkgefjipjmaaGreatDoor
namespace Go.Proofs.YtlkdkgefjipjmaaGreatDoor
open Go.ChangeShapes Go.WideShapes Go.ChangeAt Go.RowKit
theorem Tryz.info_perr:(Tryz.prog.info? 31).map (fun i=>(i.zero,i.size,i.bytes))=some (some (.int .i64 0),1,8):=by kernel_rfl
theorem Tryz.info_pst:(Tryz.prog.info? 93).map (fun i=>(i.zero,i.size,i.bytes))=some (some (.agg #[.int .i64 0,.int .i64 0,.int .i64 0,.int .i64 0,.int .i64 0]),5,40):=by kernel_rfl
theorem pl_row{w:World}{xs:List Value}{t:TypeId}{n:Nat}(hn:n=w.heap.size):∀j u,xs[j]? = some u->(w.alloc (.cells xs.toArray t)).cell? ((⟨n,0,none⟩:Addr).add j)=some u:=by
 subst hn
 intro j q hq
 have hc:∀o:Nat,(w.alloc (.cells xs.toArray t)).cell? ⟨w.heap.size,o,none⟩=xs.toArray[o]?:=Vg.cells_of (Vg.alloc_heap_at rfl)
 unfold Addr.add
 split
 ·rename_i h0;subst h0;rw[hc];simpa using hq
 ·rw[hc,Nat.zero_add];simpa using hq
def PlayP(w w':World)(C:Vg.Cf)(long:Int)(e:Ending):Prop:=
 ∃(g q:Nat)(ms:List Vg.Mrk)(now idle:Int)(ya:Option Addr)(yc:Nat)(za:Option Addr)(zn zc:Nat),
  e=.returned (.tuple #[.agg #[.slice (some ⟨g,0,none⟩) q q,.slice ya 1 yc,.slice za zn zc,.int .i64 idle,.int .i64 now],.int .i64 0]) /\
  Vg.blk w' g=some (.cells (Vg.mkcells ms).toArray 60)/\ms.length=q/\Vg.Cm C long now ms/\Vg.Grows w w'
theorem pl_play (C:Vg.Cf) (v:Cv) (long:Int) (gb:Nat) (w:World) (hR:CR w C v) (hgd:Vg.Vt.good C) (hT:Vg.Tab w) (h0:0<=long) (h1:long<=1099511627776) (hq:Vg.qs long C.T<=300) (hb:Vg.blk w gb=some (.cells #[.int .u8 1,.int .i64 0,.int .i64 long,.int .i64 0] 54)) :
  Calls Tryz.prog 14 #[cfV C v,.int .i64 0,.slice (some ⟨gb,0,none⟩) 1 1] w fun e w'=>PlayP w w' C long e:=by
 obtain⟨i1,hI1,hz10,hz11,hz12⟩:=info_parts Tryz.info_perr
 obtain⟨i2,hI2,hz20,hz21,hz22⟩:=info_parts Tryz.info_pst
 have hok:=Vg.Vt.good_ok hgd
 have hw0:0<w.heap.size:=World.block_lt_of_cell? w _ (hT 0 (by decide))
 have hgl:=Vg.lt_of hb
 obtain⟨nt,hnt⟩:∃nt,C.T.length=nt:=⟨_,rfl⟩
 obtain⟨nl,hnl⟩:∃nl,C.L.length=nl:=⟨_,rfl⟩
 obtain⟨nh,hnh⟩:∃nh,C.H.length=nh:=⟨_,rfl⟩
 obtain⟨mn,hmne⟩:∃mn,C.mn=mn:=⟨_,rfl⟩
 obtain⟨mx,hmxe⟩:∃mx,C.mx=mx:=⟨_,rfl⟩
 obtain⟨sw,hswe⟩:∃sw,C.sw=sw:=⟨_,rfl⟩
 have hn32:nt<=32:=by rw[<-hnt];exact hok.nt.2
 have hnew:∀wz,Vg.Grows w wz->w.heap.size+2=wz.heap.size->Calls Tryz.prog 7 #[cfV C v,.int .i64 0] wz fun e w'=>∃(xb lo:Nat) (A:Vg.Ad) (N:Nat) (OB:Nat->Prop),e=.returned (.tuple #[.pointer (some ⟨xb,0,none⟩),.int .i64 0])/\ES w' xb lo A (Vg.ex0 C.T 0) N 0 OB/\w.heap.size+2=lo/\(A.T=C.T/\A.mn=C.mn/\A.mx=C.mx/\A.sw=C.sw/\A.nl=C.L.length/\Vg.Idle A.Q)/\N<=64/\Vg.Grows wz w':=fun wz hg hs=>by
  refine(ex_new C v 0 wz (hR.grows hg) hgd (hT.grows hg) (by decide) (by decide) (fun t ht hk=>by have:=(hok.tk t ht).og;omega)).mono ?_
  rintro e w' ⟨xb,A,N,OB,e1,e2,e3,e4,e5⟩
  exact⟨xb,_,A,N,OB,e1,e2,hs,e3,e4,e5⟩
 have hCV:cfV C v=.agg #[.int .i64 mn,.int .i64 mx,.int .i64 sw,.slice v.ta nt v.tc,.slice v.la nl v.lc,.slice v.ha nh v.hc]:=by simp only[cfV,hmne,hmxe,hswe,hnt,hnl,hnh]
 rw[hCV]at hnew ⊢
 have b0:Vg.blk ((w.alloc (.cells #[.int .i64 mn,.int .i64 mx,.int .i64 sw,.slice v.ta nt v.tc,.slice v.la nl v.lc,.slice v.ha nh v.hc] 30)).alloc (.cells #[.slice none 0 0,.slice none 0 0,.slice none 0 0,.int .i64 0,.int .i64 0] 49)) w.heap.size=some (.cells #[.int .i64 mn,.int .i64 mx,.int .i64 sw,.slice v.ta nt v.tc,.slice v.la nl v.lc,.slice v.ha nh v.hc] 30):=(Vg.alloc_heap_past (by simp)).trans (Vg.alloc_heap_at rfl)
 have r0:Vg.blk ((w.alloc (.cells #[.int .i64 mn,.int .i64 mx,.int .i64 sw,.slice v.ta nt v.tc,.slice v.la nl v.lc,.slice v.ha nh v.hc] 30)).alloc (.cells #[.slice none 0 0,.slice none 0 0,.slice none 0 0,.int .i64 0,.int .i64 0] 49)) (w.heap.size+1)=some (.cells #[.slice none 0 0,.slice none 0 0,.slice none 0 0,.int .i64 0,.int .i64 0] 49):=Vg.alloc_heap_at (by simp)
 have H_hR:=h_ hR;have H_hgd:=h_ hgd;have H_hT:=h_ hT;have H_hok:=h_ hok;have H_hnt:=h_ hnt;have H_hnl:=h_ hnl;have H_hnh:=h_ hnh;have H_hmne:=h_ hmne;have H_hmxe:=h_ hmxe;have H_hswe:=h_ hswe;have H_hCV:=h_ hCV;have H_hnew:=h_ hnew;have H_hb:=h_ hb;have H_b0:=h_ b0;have H_r0:=h_ r0;have H_hq:=h_ hq;clear hR hgd hT hok hnt hnl hnh hmne hmxe hswe hCV hnew hb b0 r0 hq
 go_enter Tryz.func14,Tryz.ntmps14
 go_upto_region 5 with((go_at_call 7;(with_reducible refine(H_hnew.out _ (Vg.gro) (by simp)).mono ?_);rintro e2 w2 ⟨xb,lo,A,N,OB,rfl,hE,hlo,⟨hA1,hA2,hA3,hA4,hA5,hA6⟩,hN,hg2⟩;have b2:=hg2.blk H_b0.out;have r2:=hg2.blk H_r0.out;have hgw2:=Vg.Grows.trans (Vg.gro:Vg.Grows w _) hg2;have hs2:=hg2.size;(simp only[World.size_alloc]at hs2);clear hg2;have H_hE:=h_ hE;have H_hA1:=h_ hA1;have H_hA2:=h_ hA2;have H_hA3:=h_ hA3;have H_hA4:=h_ hA4;have H_hA5:=h_ hA5;have H_hA6:=h_ hA6;have H_b2:=h_ b2;have H_r2:=h_ r2;have H_hgw2:=h_ hgw2;clear hE hA1 hA2 hA3 hA4 hA5 hA6 b2 r2 hgw2))
 have x3:Vg.blk (w2.alloc (.cells #[.slice none 0 0,.slice none 0 0,.slice none 0 0,.int .i64 0,.int .i64 0] 49)) w2.heap.size=some (.cells #[.slice none 0 0,.slice none 0 0,.slice none 0 0,.int .i64 0,.int .i64 0] 49):=Vg.alloc_heap_at rfl
 have hg3:Vg.Grows w2 (w2.alloc (.cells #[.slice none 0 0,.slice none 0 0,.slice none 0 0,.int .i64 0,.int .i64 0] 49)):=(Vg.Grows.refl _).alloc _
 generalize w2.alloc (.cells #[.slice none 0 0,.slice none 0 0,.slice none 0 0,.int .i64 0,.int .i64 0] 49)=w3 at x3 hg3 ⊢
 obtain⟨pb,hpb⟩:∃pb,w2.heap.size=pb:=⟨_,rfl⟩
 rw[hpb]at x3 hs2 ⊢
 have hob:∀j,OB j->w.heap.size+2<=j/\j<pb:=fun j hj=>by have:=H_hE.out.own.2 j hj;omega
 have hE3:=H_hE.out.grows hg3
 have hgw3:=H_hgw2.out.trans hg3
 have b3:=hg3.blk H_b2.out
 have r3:=hg3.blk H_r2.out
 have a3:=hgw3.blk H_hb.out
 have hl3:=Vg.lt_of x3
 have hdo:∀wz,Vg.Grows w3 wz->Calls Tryz.prog 36 #[.pointer (some ⟨xb,0,none⟩),.agg #[.int .u8 1,.int .i64 0,.int .i64 long,.int .i64 0]] wz fun e w'=>∃(s':Vg.Xp) (N' k':Nat) (OB':Nat->Prop),e=.returned (.int .i64 0)/\ES w' xb lo A s' N' k' OB'/\Vg.Cm C long s'.t s'.ms/\s'.B.length=nt/\(∀j,OB' j->w.heap.size+2<=j/\j≠pb)/\(∀b o,(b<w.heap.size+2\/b=pb\/w3.heap.size<=b)->Vg.blk wz b=some o->Vg.blk w' b=some o)/\Vg.Grows w w':=fun wz hg=>by
  have hst:=Vg.com_start (A:=A) H_hgd.out H_hA1.out H_hA2.out H_hA3.out h0 h1 H_hq.out
  refine(pl_do long (en:=long) (hE3.grows hg) (H_hT.out.grows (hgw3.trans hg)) (by omega) H_hA6.out (by rw[H_hA5.out];exact H_hok.out.nl) (by rw[H_hA4.out];exact H_hok.out.sw) h0 (by show(0:Int)+long=long;omega) (by omega) (by omega) (by omega) (hst.2.1.adv hst.1 (by show 0<=20000;omega) hst.2.2)).mono ?_
  rintro e w' ⟨m,F,s',rfl,hS,hm,OB1,e1,e2,e3⟩
  have hs3:=hg.size
  refine⟨s',N+F,0+F,OB1,rfl,e1,Vg.com_end H_hgd.out H_hA1.out H_hA2.out H_hA3.out h0 h1 H_hq.out hS hm,by rw[(hst.2.1.steps hst.1 hS).1.xk.bl,H_hA1.out];exact H_hnt.out,fun j hj=>?_,fun b o hb1 hb2=>e3.bk hb2 (fun hh=>?_),e3.gr (hgw3.trans hg) (fun j hj=>?_)⟩
  ·rcases e2 j hj with h|h
   ·have:=hob j h;omega
   ·omega
  ·have:=hob b hh;omega
  ·have:=hob j hj;omega
 obtain⟨c_a3,f_a3,p_a3,l_a3,H_a3⟩:=Vg.lay a3;clear a3
 have H_hob:=h_ hob;have H_hE3:=h_ hE3;have H_hgw3:=h_ hgw3;have H_b3:=h_ b3;have H_r3:=h_ r3;have H_hdo:=h_ hdo;have H_hpb:=h_ hpb;have H_x3:=h_ x3;clear hob hE3 hgw3 b3 r3 hdo hpb x3
 go_wp2_with fail
 go_loopw [26] (fun i wr=>(i=.int .i64 0/\w3=wr)\/(i=.int .i64 1/\∃(s':Vg.Xp) (N' k':Nat) (OB':Nat->Prop) (ya:Option Addr) (yc:Nat),ES wr xb lo A s' N' k' OB'/\Vg.Cm C long s'.t s'.ms/\s'.B.length=nt/\(∀j,OB' j->w.heap.size+2<=j/\j≠pb)/\Vg.blk wr pb=some (.cells #[.slice none 0 0,.slice ya 1 yc,.slice none 0 0,.int .i64 0,.int .i64 0] 49)/\Vg.blk wr w.heap.size=some (.cells #[.int .i64 mn,.int .i64 mx,.int .i64 sw,.slice v.ta nt v.tc,.slice v.la nl v.lc,.slice v.ha nh v.hc] 30)/\Vg.blk wr (w.heap.size+1)=some (.cells #[.slice none 0 0,.slice none 0 0,.slice none 0 0,.int .i64 0,.int .i64 0] 49)/\Vg.Grows w wr)) (fun i _=>1-(intOf i).toNat)
 case atStart=>exact .inl ⟨rfl,rfl⟩
 case round=>
  rcases hrel with⟨rfl,hw⟩|⟨rfl,s',N',k',OB',ya,yc,hE4,hC4,hB4,hO4,x4,b4,r4,hg4⟩
  ·subst hw
   go_upto_region 8 with fail
   have y5:Vg.blk (w3.alloc (.cells #[.int .u8 1,.int .i64 0,.int .i64 long,.int .i64 0] 54)) w3.heap.size=some (.cells #[.int .u8 1,.int .i64 0,.int .i64 long,.int .i64 0] 54):=Vg.alloc_heap_at rfl
   have hg5:Vg.Grows w3 (w3.alloc (.cells #[.int .u8 1,.int .i64 0,.int .i64 long,.int .i64 0] 54)):=(Vg.Grows.refl _).alloc _
   generalize w3.alloc (.cells #[.int .u8 1,.int .i64 0,.int .i64 long,.int .i64 0] 54)=w5 at y5 hg5 ⊢
   have x5:=hg5.blk H_x3.out
   have b5:=hg5.blk H_b3.out
   have r5:=hg5.blk H_r3.out
   obtain⟨ab,hab⟩:∃ab,w3.heap.size=ab:=⟨_,rfl⟩
   rw[hab]at y5 ⊢
   have hne1:¬ab=pb:=by omega
   have hne2:¬pb=ab:=by omega
   obtain⟨c_x5,f_x5,p_x5,l_x5,H_x5⟩:=Vg.lay x5;clear x5;obtain⟨c_y5,f_y5,p_y5,l_y5,H_y5⟩:=Vg.lay y5;clear y5
   have H_b5:=h_ b5;have H_r5:=h_ r5;clear b5 r5
   refine wp_region_held_drew (S:=fun w'=>pb<w'.heap.size/\w'.cell? ⟨ab,0,none⟩=some (.int .u8 1)/\w'.cell? ⟨ab,1,none⟩=some (.int .i64 0)/\w'.cell? ⟨ab,2,none⟩=some (.int .i64 long)/\w'.cell? ⟨ab,3,none⟩=some (.int .i64 0)) (by kernel_rfl) (by go_split_ands <;> (try dsimp only) <;> go_simp) (fun hHeld=>?_)
   refine tk 0 ?_
   refine tk 2 ?_
   refine tk 3 ?_
   refine wpAnyH_ready (rs:=[1,4]) (by kernel_rfl) (by simp) ?_
   refine AllReadyH.cons (o:=_) rfl (fun K hK=>?st4) ?mo4
   case st4=>
    go_simp
    refine hK.out _ _ (by go_split_ands <;> (try dsimp only) <;> go_simp) (fun hHeld4=>?_)
    clear hK K
    refine wpAnyH_ready (rs:=[4]) (by kernel_rfl) (by simp) ?_
    refine AllReadyH.cons (o:=_) rfl (fun K hK=>?st5) ?mo5
    case st5=>
     go_simp
     ((go_at_call 36;(with_reducible refine(H_hdo.out _ (Vg.gro)).mono ?_);rintro e6 w6 ⟨s',N',k',OB',rfl,hE6,hC6,hB6,hO6,hK6,hg6⟩;have x6:=hK6 _ _ (by omega) ((Vg.gro:Vg.Grows w5 _).blk H_x5.out);have y6:=hK6 _ _ (by omega) ((Vg.gro:Vg.Grows w5 _).blk H_y5.out);have b6:=hK6 _ _ (by omega) ((Vg.gro:Vg.Grows w5 _).blk H_b5.out);have r6:=hK6 _ _ (by omega) ((Vg.gro:Vg.Grows w5 _).blk H_r5.out);clear hK6;obtain⟨c_x6,f_x6,p_x6,l_x6,H_x6⟩:=Vg.lay x6;clear x6;obtain⟨c_y6,f_y6,p_y6,l_y6,H_y6⟩:=Vg.lay y6;clear y6;have H_hE6:=h_ hE6;have H_hC6:=h_ hC6;have H_hB6:=h_ hB6;have H_hO6:=h_ hO6;have H_hg6:=h_ hg6;have H_b6:=h_ b6;have H_r6:=h_ r6;clear hE6 hC6 hB6 hO6 hg6 b6 r6))
     all_goals(try go_wp2_with fail)
     refine hK.out _ _ (by go_split_ands <;> (try dsimp only) <;> go_simp) (fun hHeld5=>?_)
     clear hK K
     refine wpAnyH_ready (rs:=[5]) (by kernel_rfl) (by simp) ?_
     refine AllReadyH.cons (o:=_) rfl (fun K hK=>?st6) ?mo6
     case st6=>
      go_simp
      refine hK.out _ _ (by go_split_ands <;> (try dsimp only) <;> go_simp) (fun hHeld6=>?_)
      clear hK K
      refine wpAnyH_ready (rs:=[6]) (by kernel_rfl) (by simp) ?_
      refine AllReadyH.cons (o:=_) rfl (fun K hK=>?st7) ?mo7
      case st7=>
       refine Vg.step_que1 rfl (.tmp 31) (.tmp 35) 46 rfl (w.heap.size+2) 31 i1 (.int .i64 0) 1 8 Tryz.underlying46 hI1 hz10 hz11 hz12 rfl (by decide) (.slice none 0 0) 0 [] (by simp[Act.eval,Act.put]) (Vg.Que.nil _ _ _ _) ⟨w6.heap.size,0,none⟩ 1 [.int .i64 0] (by simp[Act.eval,Act.put]) rfl (pl_row (by simp)) (by simp[Value.oneCell']) (by unfold maxLen;omega) (by omega) (by decide) (by(simp only[World.size_alloc,World.size_drew]);omega) ?_;intro v2 W1 y2 m2 hq2 hs2 ho2;obtain⟨a2,c2,rfl⟩:=hq2.shape;have hT7:=(Vg.Touch.of_grows (t:=fun j=>(Value.slice none 0 0).ownBlock=some j) (Vg.gro:Vg.Grows w6 _)).trans ((Vg.Touch.of_same hs2).trans (Vg.Touch.of_grows ((Vg.Grows.refl _).plus y2 m2)));obtain⟨W7,hW7⟩:∃W7,Vg.plus W1 y2 m2=W7:=⟨_,rfl⟩;rw[hW7]at hT7 ⊢;clear hW7 hs2 ho2 hq2;have hG7:=Vg.Touch.toGrows (hT7.mono (t':=fun _=>False) (fun j _ hj=>by cases hj));clear hT7;have x7:=hG7.blk H_x6.out;have y7:=hG7.blk H_y6.out;have l7:=Vg.lt_of x7;obtain⟨c_x7,f_x7,p_x7,l_x7,H_x7⟩:=Vg.lay x7;clear x7;obtain⟨c_y7,f_y7,p_y7,l_y7,H_y7⟩:=Vg.lay y7;clear y7;have H_hG7:=h_ hG7;clear hG7
       refine hK.out _ _ (by go_split_ands <;> (try dsimp only) <;> go_simp) (fun hHeld7=>?_)
       clear hK K
       refine tk 7 ?_
       refine wpAnyH_ready (rs:=[8]) (by kernel_rfl) (by simp) ?_
       refine AllReadyH.cons (o:=_) rfl (fun K hK=>?st9) ?mo9
       case st9=>
        go_simp
        refine hK.out _ _ (by go_split_ands <;> (try dsimp only) <;> go_simp) (fun hHeld9=>?_)
        clear hK K
        refine wpAnyH_done (by kernel_rfl) ?_ _
        go_wp2_with fail
        go_roundw
        case rel=>
         refine .inr ⟨by go_num,s',N',k',OB',a2,c2,(H_hE6.out.grows H_hG7.out).touch (t:=fun j=>j=pb) (Vg.Touch.put (t:=fun j=>j=pb) (Vg.Touch.refl _ _) rfl _) (fun j hj=>(H_hO6.out j hj).2),H_hC6.out,H_hB6.out,H_hO6.out,Vg.blk_put_same l7,(Vg.blk_put_other (by omega)).trans (H_hG7.out.blk H_b6.out),(Vg.blk_put_other (by omega)).trans (H_hG7.out.blk H_r6.out),(H_hg6.out.trans H_hG7.out).put (by omega) _⟩
        case measure=>simp[intOf]
       exact AllReadyH.nil
      exact AllReadyH.nil
     exact AllReadyH.nil
    exact AllReadyH.nil
   refine AllReadyH.cons (o:=_) rfl (fun K hK=>?st10) ?mo10
   case st10=>
    go_simp
    ((go_at_call 36;(with_reducible refine(H_hdo.out _ (Vg.gro)).mono ?_);rintro e6 w6 ⟨s',N',k',OB',rfl,hE6,hC6,hB6,hO6,hK6,hg6⟩;have x6:=hK6 _ _ (by omega) ((Vg.gro:Vg.Grows w5 _).blk H_x5.out);have y6:=hK6 _ _ (by omega) ((Vg.gro:Vg.Grows w5 _).blk H_y5.out);have b6:=hK6 _ _ (by omega) ((Vg.gro:Vg.Grows w5 _).blk H_b5.out);have r6:=hK6 _ _ (by omega) ((Vg.gro:Vg.Grows w5 _).blk H_r5.out);clear hK6;obtain⟨c_x6,f_x6,p_x6,l_x6,H_x6⟩:=Vg.lay x6;clear x6;obtain⟨c_y6,f_y6,p_y6,l_y6,H_y6⟩:=Vg.lay y6;clear y6;have H_hE6:=h_ hE6;have H_hC6:=h_ hC6;have H_hB6:=h_ hB6;have H_hO6:=h_ hO6;have H_hg6:=h_ hg6;have H_b6:=h_ b6;have H_r6:=h_ r6;clear hE6 hC6 hB6 hO6 hg6 b6 r6))
    all_goals(try go_wp2_with fail)
    refine hK.out _ _ (by go_split_ands <;> (try dsimp only) <;> go_simp) (fun hHeld10=>?_)
    clear hK K
    refine wpAnyH_ready (rs:=[1,5]) (by kernel_rfl) (by simp) ?_
    refine AllReadyH.cons (o:=_) rfl (fun K hK=>?st11) ?mo11
    case st11=>
     go_simp
     refine hK.out _ _ (by go_split_ands <;> (try dsimp only) <;> go_simp) (fun hHeld11=>?_)
     clear hK K
     refine wpAnyH_ready (rs:=[5]) (by kernel_rfl) (by simp) ?_
     refine AllReadyH.cons (o:=_) rfl (fun K hK=>?st12) ?mo12
     case st12=>
      go_simp
      refine hK.out _ _ (by go_split_ands <;> (try dsimp only) <;> go_simp) (fun hHeld12=>?_)
      clear hK K
      refine wpAnyH_ready (rs:=[6]) (by kernel_rfl) (by simp) ?_
      refine AllReadyH.cons (o:=_) rfl (fun K hK=>?st13) ?mo13
      case st13=>
       refine Vg.step_que1 rfl (.tmp 31) (.tmp 35) 46 rfl (w.heap.size+2) 31 i1 (.int .i64 0) 1 8 Tryz.underlying46 hI1 hz10 hz11 hz12 rfl (by decide) (.slice none 0 0) 0 [] (by simp[Act.eval,Act.put]) (Vg.Que.nil _ _ _ _) ⟨w6.heap.size,0,none⟩ 1 [.int .i64 0] (by simp[Act.eval,Act.put]) rfl (pl_row (by simp)) (by simp[Value.oneCell']) (by unfold maxLen;omega) (by omega) (by decide) (by(simp only[World.size_alloc,World.size_drew]);omega) ?_;intro v2 W1 y2 m2 hq2 hs2 ho2;obtain⟨a2,c2,rfl⟩:=hq2.shape;have hT7:=(Vg.Touch.of_grows (t:=fun j=>(Value.slice none 0 0).ownBlock=some j) (Vg.gro:Vg.Grows w6 _)).trans ((Vg.Touch.of_same hs2).trans (Vg.Touch.of_grows ((Vg.Grows.refl _).plus y2 m2)));obtain⟨W7,hW7⟩:∃W7,Vg.plus W1 y2 m2=W7:=⟨_,rfl⟩;rw[hW7]at hT7 ⊢;clear hW7 hs2 ho2 hq2;have hG7:=Vg.Touch.toGrows (hT7.mono (t':=fun _=>False) (fun j _ hj=>by cases hj));clear hT7;have x7:=hG7.blk H_x6.out;have y7:=hG7.blk H_y6.out;have l7:=Vg.lt_of x7;obtain⟨c_x7,f_x7,p_x7,l_x7,H_x7⟩:=Vg.lay x7;clear x7;obtain⟨c_y7,f_y7,p_y7,l_y7,H_y7⟩:=Vg.lay y7;clear y7;have H_hG7:=h_ hG7;clear hG7
       refine hK.out _ _ (by go_split_ands <;> (try dsimp only) <;> go_simp) (fun hHeld13=>?_)
       clear hK K
       refine tk 7 ?_
       refine wpAnyH_ready (rs:=[8]) (by kernel_rfl) (by simp) ?_
       refine AllReadyH.cons (o:=_) rfl (fun K hK=>?st15) ?mo15
       case st15=>
        go_simp
        refine hK.out _ _ (by go_split_ands <;> (try dsimp only) <;> go_simp) (fun hHeld15=>?_)
        clear hK K
        refine wpAnyH_done (by kernel_rfl) ?_ _
        go_wp2_with fail
        go_roundw
        case rel=>
         refine .inr ⟨by go_num,s',N',k',OB',a2,c2,(H_hE6.out.grows H_hG7.out).touch (t:=fun j=>j=pb) (Vg.Touch.put (t:=fun j=>j=pb) (Vg.Touch.refl _ _) rfl _) (fun j hj=>(H_hO6.out j hj).2),H_hC6.out,H_hB6.out,H_hO6.out,Vg.blk_put_same l7,(Vg.blk_put_other (by omega)).trans (H_hG7.out.blk H_b6.out),(Vg.blk_put_other (by omega)).trans (H_hG7.out.blk H_r6.out),(H_hg6.out.trans H_hG7.out).put (by omega) _⟩
        case measure=>simp[intOf]
       exact AllReadyH.nil
      exact AllReadyH.nil
     exact AllReadyH.nil
    refine AllReadyH.cons (o:=_) rfl (fun K hK=>?st16) ?mo16
    case st16=>
     go_simp
     refine hK.out _ _ (by go_split_ands <;> (try dsimp only) <;> go_simp) (fun hHeld16=>?_)
     clear hK K
     refine wpAnyH_ready (rs:=[1]) (by kernel_rfl) (by simp) ?_
     refine AllReadyH.cons (o:=_) rfl (fun K hK=>?st17) ?mo17
     case st17=>
      go_simp
      refine hK.out _ _ (by go_split_ands <;> (try dsimp only) <;> go_simp) (fun hHeld17=>?_)
      clear hK K
      refine wpAnyH_ready (rs:=[6]) (by kernel_rfl) (by simp) ?_
      refine AllReadyH.cons (o:=_) rfl (fun K hK=>?st18) ?mo18
      case st18=>
       refine Vg.step_que1 rfl (.tmp 31) (.tmp 35) 46 rfl (w.heap.size+2) 31 i1 (.int .i64 0) 1 8 Tryz.underlying46 hI1 hz10 hz11 hz12 rfl (by decide) (.slice none 0 0) 0 [] (by simp[Act.eval,Act.put]) (Vg.Que.nil _ _ _ _) ⟨w6.heap.size,0,none⟩ 1 [.int .i64 0] (by simp[Act.eval,Act.put]) rfl (pl_row (by simp)) (by simp[Value.oneCell']) (by unfold maxLen;omega) (by omega) (by decide) (by(simp only[World.size_alloc,World.size_drew]);omega) ?_;intro v2 W1 y2 m2 hq2 hs2 ho2;obtain⟨a2,c2,rfl⟩:=hq2.shape;have hT7:=(Vg.Touch.of_grows (t:=fun j=>(Value.slice none 0 0).ownBlock=some j) (Vg.gro:Vg.Grows w6 _)).trans ((Vg.Touch.of_same hs2).trans (Vg.Touch.of_grows ((Vg.Grows.refl _).plus y2 m2)));obtain⟨W7,hW7⟩:∃W7,Vg.plus W1 y2 m2=W7:=⟨_,rfl⟩;rw[hW7]at hT7 ⊢;clear hW7 hs2 ho2 hq2;have hG7:=Vg.Touch.toGrows (hT7.mono (t':=fun _=>False) (fun j _ hj=>by cases hj));clear hT7;have x7:=hG7.blk H_x6.out;have y7:=hG7.blk H_y6.out;have l7:=Vg.lt_of x7;obtain⟨c_x7,f_x7,p_x7,l_x7,H_x7⟩:=Vg.lay x7;clear x7;obtain⟨c_y7,f_y7,p_y7,l_y7,H_y7⟩:=Vg.lay y7;clear y7;have H_hG7:=h_ hG7;clear hG7
       refine hK.out _ _ (by go_split_ands <;> (try dsimp only) <;> go_simp) (fun hHeld18=>?_)
       clear hK K
       refine tk 7 ?_
       refine wpAnyH_ready (rs:=[8]) (by kernel_rfl) (by simp) ?_
       refine AllReadyH.cons (o:=_) rfl (fun K hK=>?st20) ?mo20
       case st20=>
        go_simp
        refine hK.out _ _ (by go_split_ands <;> (try dsimp only) <;> go_simp) (fun hHeld20=>?_)
        clear hK K
        refine wpAnyH_done (by kernel_rfl) ?_ _
        go_wp2_with fail
        go_roundw
        case rel=>
         refine .inr ⟨by go_num,s',N',k',OB',a2,c2,(H_hE6.out.grows H_hG7.out).touch (t:=fun j=>j=pb) (Vg.Touch.put (t:=fun j=>j=pb) (Vg.Touch.refl _ _) rfl _) (fun j hj=>(H_hO6.out j hj).2),H_hC6.out,H_hB6.out,H_hO6.out,Vg.blk_put_same l7,(Vg.blk_put_other (by omega)).trans (H_hG7.out.blk H_b6.out),(Vg.blk_put_other (by omega)).trans (H_hG7.out.blk H_r6.out),(H_hg6.out.trans H_hG7.out).put (by omega) _⟩
        case measure=>simp[intOf]
       exact AllReadyH.nil
      exact AllReadyH.nil
     exact AllReadyH.nil
    exact AllReadyH.nil
   exact AllReadyH.nil
  ·obtain⟨wl,hwl⟩:∃wl,wl=wr:=⟨_,rfl⟩
   subst hwl
   obtain⟨c_x4,f_x4,p_x4,l_x4,H_x4⟩:=Vg.lay x4;clear x4;obtain⟨c_b4,f_b4,p_b4,l_b4,H_b4⟩:=Vg.lay b4;clear b4
   have H_hE4:=h_ hE4;have H_hC4:=h_ hC4;have H_hB4:=h_ hB4;have H_hO4:=h_ hO4;have H_r4:=h_ r4;have H_hg4:=h_ hg4;clear hE4 hC4 hB4 hO4 r4 hg4
   go_wp2_with fail
   have hOl:∀j,OB' j->j<wl.heap.size:=fun j hj=>(H_hE4.out.own.2 j hj).2
   have hwr:w.heap.size+2<=pb:=by omega
   have H_hOl:=h_ hOl;clear hOl
   go_loopw [42] (fun i wr=>∃(k:Nat) (za:Option Addr) (zc:Nat) (xs:List Value),k<=nt/\i=.int .i64 k/\ES wr xb lo A s' N' k' OB'/\Vg.blk wr pb=some (.cells #[.slice none 0 0,.slice ya 1 yc,.slice za k zc,.int .i64 0,.int .i64 0] 49)/\Vg.blk wr (w.heap.size+1)=some (.cells #[.slice none 0 0,.slice none 0 0,.slice none 0 0,.int .i64 0,.int .i64 0] 49)/\Vg.Que wr wl.heap.size 93 5 (.slice za k zc) k xs/\Vg.Grows w wr/\wl.heap.size<=wr.heap.size) (fun i _=>nt-(intOf i).toNat)
   case atStart=>exact⟨0,none,0,[],by omega,rfl,H_hE4.out,H_x4.out,H_r4.out,Vg.Que.nil _ _ _ _,H_hg4.out,Nat.le_refl _⟩
   case round=>
    obtain⟨k,za,zc,xs,hk,rfl,hE5,x5,r5,hq5,hg5,hs5⟩:=hrel
    by_cases hlt:k<nt
    ·have hkI:(k:Int)<nt:=by omega
     have hst:∀wz,Vg.Grows wr wz->Calls Tryz.prog 37 #[.pointer (some ⟨xb,0,none⟩),.int .i64 k] wz fun e w'=>∃(f1 f2 f3 f4 f5:Int),e=.returned (.agg #[.int .i64 f1,.int .i64 f2,.int .i64 f3,.int .i64 f4,.int .i64 f5])/\Vg.Grows wz w':=fun wz hg=>by
      obtain⟨f1,f2,f3,f4,f5,hc⟩:=es_stat k (hE5.grows hg) (by rw[H_hB4.out];exact hlt) (by rw[H_hA1.out,H_hnt.out];omega)
      exact hc.mono fun e w' h=>⟨f1,f2,f3,f4,f5,h.1,h.2⟩
     have hqlt:=hq5.lt
     obtain⟨c_x5,f_x5,p_x5,l_x5,H_x5⟩:=Vg.lay x5;clear x5
     have H_hE5:=h_ hE5;have H_r5:=h_ r5;have H_hq5:=h_ hq5;have H_hg5:=h_ hg5;have H_hst:=h_ hst;have H_hqlt:=h_ hqlt;clear hE5 r5 hq5 hg5 hst hqlt
     go_upto_region 13 with fail
     refine wp_region_held_drew (S:=fun w'=>pb<w'.heap.size) (by kernel_rfl) (by go_split_ands <;> (try dsimp only) <;> go_simp) (fun hHeld=>?_)
     refine tk 0 ?_
     refine tk 2 ?_
     refine tk 3 ?_
     refine wpAnyH_ready (rs:=[1,4]) (by kernel_rfl) (by simp) ?_
     refine AllReadyH.cons (o:=_) rfl (fun K hK=>?st24) ?mo24
     case st24=>
      go_simp
      refine hK.out _ _ (by go_split_ands <;> (try dsimp only) <;> go_simp) (fun hHeld24=>?_)
      clear hK K
      refine wpAnyH_ready (rs:=[4]) (by kernel_rfl) (by simp) ?_
      refine AllReadyH.cons (o:=_) rfl (fun K hK=>?st25) ?mo25
      case st25=>
       go_simp
       ((go_at_call 37;(with_reducible refine(H_hst.out _ (Vg.gro)).mono ?_);rintro e8 w8 ⟨f1,f2,f3,f4,f5,rfl,hg8⟩;have hg8:=Vg.Grows.trans (Vg.gro:Vg.Grows wr _) hg8;have x8:=hg8.blk H_x5.out;have hs8:=hg8.size;clear c_x5 f_x5 p_x5;obtain⟨c_x8,f_x8,p_x8,l_x8,H_x8⟩:=Vg.lay x8;clear x8;have H_hg8:=h_ hg8;clear hg8))
       all_goals(try go_wp2_with fail)
       refine hK.out _ _ (by go_split_ands <;> (try dsimp only) <;> go_simp) (fun hHeld25=>?_)
       clear hK K
       refine wpAnyH_ready (rs:=[5]) (by kernel_rfl) (by simp) ?_
       refine AllReadyH.cons (o:=_) rfl (fun K hK=>?st26) ?mo26
       case st26=>
        go_simp
        refine hK.out _ _ (by go_split_ands <;> (try dsimp only) <;> go_simp) (fun hHeld26=>?_)
        clear hK K
        refine wpAnyH_ready (rs:=[6]) (by kernel_rfl) (by simp) ?_
        refine AllReadyH.cons (o:=_) rfl (fun K hK=>?st27) ?mo27
        case st27=>
         refine Vg.step_que1 rfl (.tmp 46) (.tmp 50) 47 rfl wl.heap.size 93 i2 (.agg #[.int .i64 0,.int .i64 0,.int .i64 0,.int .i64 0,.int .i64 0]) 5 40 Tryz.underlying47 hI2 hz20 hz21 hz22 rfl (by decide) (.slice za k zc) k xs (by simp[Act.eval,Act.put]) (H_hq5.out.grows (by have q:=H_hg8.out;exact Vg.gro)) ⟨w8.heap.size,0,none⟩ 1 [.int .i64 f1,.int .i64 f2,.int .i64 f3,.int .i64 f4,.int .i64 f5] (by simp[Act.eval,Act.put]) rfl (pl_row (by simp)) (by simp[Value.oneCell']) (by unfold maxLen;omega) (by omega) (by decide) (by(simp only[World.size_alloc,World.size_drew]);omega) ?_;intro v2 W1 y2 m2 hq2 hs2 ho2;obtain⟨a2,c2,rfl⟩:=hq2.shape;have hT7:=(Vg.Touch.of_grows (t:=fun j=>(Value.slice za k zc).ownBlock=some j) (by have q:=H_hg8.out;exact Vg.gro:Vg.Grows wr _)).trans ((Vg.Touch.of_same hs2).trans (Vg.Touch.of_grows ((Vg.Grows.refl _).plus y2 m2)));obtain⟨W7,hW7⟩:∃W7,Vg.plus W1 y2 m2=W7:=⟨_,rfl⟩;rw[hW7]at hq2 hT7 ⊢;clear hW7 hs2 ho2;have x7:=hT7.bk H_x5.out (fun hj=>by have:=(H_hqlt.out _ hj).1;omega);have l7:=Vg.lt_of x7;clear c_x8 f_x8 p_x8;obtain⟨c_x7,f_x7,p_x7,l_x7,H_x7⟩:=Vg.lay x7;clear x7;have H_hq2:=h_ hq2;have H_hT7:=h_ hT7;clear hq2 hT7
         refine hK.out _ _ (by go_split_ands <;> (try dsimp only) <;> go_simp) (fun hHeld27=>?_)
         clear hK K
         refine tk 7 ?_
         refine wpAnyH_ready (rs:=[8]) (by kernel_rfl) (by simp) ?_
         refine AllReadyH.cons (o:=_) rfl (fun K hK=>?st29) ?mo29
         case st29=>
          go_simp
          refine hK.out _ _ (by go_split_ands <;> (try dsimp only) <;> go_simp) (fun hHeld29=>?_)
          clear hK K
          refine wpAnyH_done (by kernel_rfl) ?_ _
          go_wp2_with fail
          go_roundw
          case rel=>
           have hown:∀j,j<wl.heap.size->¬(Value.slice za k zc).ownBlock=some j:=fun j hj h=>by have:=(H_hqlt.out _ h).1;omega
           have hsz:=H_hT7.out.size
           have hEz:=(H_hE5.out.touch H_hT7.out (fun j hj=>hown j (H_hOl.out j hj))).touch (Vg.Touch.put (t:=fun j=>j=pb) (Vg.Touch.refl _ _) rfl (.cells #[.slice none 0 0,.slice ya 1 yc,.slice a2 (k+1) c2,.int .i64 0,.int .i64 0] 49)) (fun j hj=>(H_hO4.out j hj).2)
           refine⟨k+1,a2,c2,_,by omega,by go_num,hEz,Vg.blk_put_same l7,(Vg.blk_put_other (by omega)).trans (H_hT7.out.bk H_r5.out (hown _ (by omega))),H_hq2.out.kept fun j hj=>Vg.put_heap_other (by have:=(H_hq2.out.lt j hj).1;omega),(H_hT7.out.gr H_hg5.out (fun j hj=>by have:=(H_hqlt.out j hj).1;omega)).put (by omega) _,by rw[Vg.put_size];omega⟩
          case measure=>simp[intOf];omega
         exact AllReadyH.nil
        exact AllReadyH.nil
       exact AllReadyH.nil
      exact AllReadyH.nil
     refine AllReadyH.cons (o:=_) rfl (fun K hK=>?st30) ?mo30
     case st30=>
      go_simp
      ((go_at_call 37;(with_reducible refine(H_hst.out _ (Vg.gro)).mono ?_);rintro e8 w8 ⟨f1,f2,f3,f4,f5,rfl,hg8⟩;have hg8:=Vg.Grows.trans (Vg.gro:Vg.Grows wr _) hg8;have x8:=hg8.blk H_x5.out;have hs8:=hg8.size;clear c_x5 f_x5 p_x5;obtain⟨c_x8,f_x8,p_x8,l_x8,H_x8⟩:=Vg.lay x8;clear x8;have H_hg8:=h_ hg8;clear hg8))
      all_goals(try go_wp2_with fail)
      refine hK.out _ _ (by go_split_ands <;> (try dsimp only) <;> go_simp) (fun hHeld30=>?_)
      clear hK K
      refine wpAnyH_ready (rs:=[1,5]) (by kernel_rfl) (by simp) ?_
      refine AllReadyH.cons (o:=_) rfl (fun K hK=>?st31) ?mo31
      case st31=>
       go_simp
       refine hK.out _ _ (by go_split_ands <;> (try dsimp only) <;> go_simp) (fun hHeld31=>?_)
       clear hK K
       refine wpAnyH_ready (rs:=[5]) (by kernel_rfl) (by simp) ?_
       refine AllReadyH.cons (o:=_) rfl (fun K hK=>?st32) ?mo32
       case st32=>
        go_simp
        refine hK.out _ _ (by go_split_ands <;> (try dsimp only) <;> go_simp) (fun hHeld32=>?_)
        clear hK K
        refine wpAnyH_ready (rs:=[6]) (by kernel_rfl) (by simp) ?_
        refine AllReadyH.cons (o:=_) rfl (fun K hK=>?st33) ?mo33
        case st33=>
         refine Vg.step_que1 rfl (.tmp 46) (.tmp 50) 47 rfl wl.heap.size 93 i2 (.agg #[.int .i64 0,.int .i64 0,.int .i64 0,.int .i64 0,.int .i64 0]) 5 40 Tryz.underlying47 hI2 hz20 hz21 hz22 rfl (by decide) (.slice za k zc) k xs (by simp[Act.eval,Act.put]) (H_hq5.out.grows (by have q:=H_hg8.out;exact Vg.gro)) ⟨w8.heap.size,0,none⟩ 1 [.int .i64 f1,.int .i64 f2,.int .i64 f3,.int .i64 f4,.int .i64 f5] (by simp[Act.eval,Act.put]) rfl (pl_row (by simp)) (by simp[Value.oneCell']) (by unfold maxLen;omega) (by omega) (by decide) (by(simp only[World.size_alloc,World.size_drew]);omega) ?_;intro v2 W1 y2 m2 hq2 hs2 ho2;obtain⟨a2,c2,rfl⟩:=hq2.shape;have hT7:=(Vg.Touch.of_grows (t:=fun j=>(Value.slice za k zc).ownBlock=some j) (by have q:=H_hg8.out;exact Vg.gro:Vg.Grows wr _)).trans ((Vg.Touch.of_same hs2).trans (Vg.Touch.of_grows ((Vg.Grows.refl _).plus y2 m2)));obtain⟨W7,hW7⟩:∃W7,Vg.plus W1 y2 m2=W7:=⟨_,rfl⟩;rw[hW7]at hq2 hT7 ⊢;clear hW7 hs2 ho2;have x7:=hT7.bk H_x5.out (fun hj=>by have:=(H_hqlt.out _ hj).1;omega);have l7:=Vg.lt_of x7;clear c_x8 f_x8 p_x8;obtain⟨c_x7,f_x7,p_x7,l_x7,H_x7⟩:=Vg.lay x7;clear x7;have H_hq2:=h_ hq2;have H_hT7:=h_ hT7;clear hq2 hT7
         refine hK.out _ _ (by go_split_ands <;> (try dsimp only) <;> go_simp) (fun hHeld33=>?_)
         clear hK K
         refine tk 7 ?_
         refine wpAnyH_ready (rs:=[8]) (by kernel_rfl) (by simp) ?_
         refine AllReadyH.cons (o:=_) rfl (fun K hK=>?st35) ?mo35
         case st35=>
          go_simp
          refine hK.out _ _ (by go_split_ands <;> (try dsimp only) <;> go_simp) (fun hHeld35=>?_)
          clear hK K
          refine wpAnyH_done (by kernel_rfl) ?_ _
          go_wp2_with fail
          go_roundw
          case rel=>
           have hown:∀j,j<wl.heap.size->¬(Value.slice za k zc).ownBlock=some j:=fun j hj h=>by have:=(H_hqlt.out _ h).1;omega
           have hsz:=H_hT7.out.size
           have hEz:=(H_hE5.out.touch H_hT7.out (fun j hj=>hown j (H_hOl.out j hj))).touch (Vg.Touch.put (t:=fun j=>j=pb) (Vg.Touch.refl _ _) rfl (.cells #[.slice none 0 0,.slice ya 1 yc,.slice a2 (k+1) c2,.int .i64 0,.int .i64 0] 49)) (fun j hj=>(H_hO4.out j hj).2)
           refine⟨k+1,a2,c2,_,by omega,by go_num,hEz,Vg.blk_put_same l7,(Vg.blk_put_other (by omega)).trans (H_hT7.out.bk H_r5.out (hown _ (by omega))),H_hq2.out.kept fun j hj=>Vg.put_heap_other (by have:=(H_hq2.out.lt j hj).1;omega),(H_hT7.out.gr H_hg5.out (fun j hj=>by have:=(H_hqlt.out j hj).1;omega)).put (by omega) _,by rw[Vg.put_size];omega⟩
          case measure=>simp[intOf];omega
         exact AllReadyH.nil
        exact AllReadyH.nil
       exact AllReadyH.nil
      refine AllReadyH.cons (o:=_) rfl (fun K hK=>?st36) ?mo36
      case st36=>
       go_simp
       refine hK.out _ _ (by go_split_ands <;> (try dsimp only) <;> go_simp) (fun hHeld36=>?_)
       clear hK K
       refine wpAnyH_ready (rs:=[1]) (by kernel_rfl) (by simp) ?_
       refine AllReadyH.cons (o:=_) rfl (fun K hK=>?st37) ?mo37
       case st37=>
        go_simp
        refine hK.out _ _ (by go_split_ands <;> (try dsimp only) <;> go_simp) (fun hHeld37=>?_)
        clear hK K
        refine wpAnyH_ready (rs:=[6]) (by kernel_rfl) (by simp) ?_
        refine AllReadyH.cons (o:=_) rfl (fun K hK=>?st38) ?mo38
        case st38=>
         refine Vg.step_que1 rfl (.tmp 46) (.tmp 50) 47 rfl wl.heap.size 93 i2 (.agg #[.int .i64 0,.int .i64 0,.int .i64 0,.int .i64 0,.int .i64 0]) 5 40 Tryz.underlying47 hI2 hz20 hz21 hz22 rfl (by decide) (.slice za k zc) k xs (by simp[Act.eval,Act.put]) (H_hq5.out.grows (by have q:=H_hg8.out;exact Vg.gro)) ⟨w8.heap.size,0,none⟩ 1 [.int .i64 f1,.int .i64 f2,.int .i64 f3,.int .i64 f4,.int .i64 f5] (by simp[Act.eval,Act.put]) rfl (pl_row (by simp)) (by simp[Value.oneCell']) (by unfold maxLen;omega) (by omega) (by decide) (by(simp only[World.size_alloc,World.size_drew]);omega) ?_;intro v2 W1 y2 m2 hq2 hs2 ho2;obtain⟨a2,c2,rfl⟩:=hq2.shape;have hT7:=(Vg.Touch.of_grows (t:=fun j=>(Value.slice za k zc).ownBlock=some j) (by have q:=H_hg8.out;exact Vg.gro:Vg.Grows wr _)).trans ((Vg.Touch.of_same hs2).trans (Vg.Touch.of_grows ((Vg.Grows.refl _).plus y2 m2)));obtain⟨W7,hW7⟩:∃W7,Vg.plus W1 y2 m2=W7:=⟨_,rfl⟩;rw[hW7]at hq2 hT7 ⊢;clear hW7 hs2 ho2;have x7:=hT7.bk H_x5.out (fun hj=>by have:=(H_hqlt.out _ hj).1;omega);have l7:=Vg.lt_of x7;clear c_x8 f_x8 p_x8;obtain⟨c_x7,f_x7,p_x7,l_x7,H_x7⟩:=Vg.lay x7;clear x7;have H_hq2:=h_ hq2;have H_hT7:=h_ hT7;clear hq2 hT7
         refine hK.out _ _ (by go_split_ands <;> (try dsimp only) <;> go_simp) (fun hHeld38=>?_)
         clear hK K
         refine tk 7 ?_
         refine wpAnyH_ready (rs:=[8]) (by kernel_rfl) (by simp) ?_
         refine AllReadyH.cons (o:=_) rfl (fun K hK=>?st40) ?mo40
         case st40=>
          go_simp
          refine hK.out _ _ (by go_split_ands <;> (try dsimp only) <;> go_simp) (fun hHeld40=>?_)
          clear hK K
          refine wpAnyH_done (by kernel_rfl) ?_ _
          go_wp2_with fail
          go_roundw
          case rel=>
           have hown:∀j,j<wl.heap.size->¬(Value.slice za k zc).ownBlock=some j:=fun j hj h=>by have:=(H_hqlt.out _ h).1;omega
           have hsz:=H_hT7.out.size
           have hEz:=(H_hE5.out.touch H_hT7.out (fun j hj=>hown j (H_hOl.out j hj))).touch (Vg.Touch.put (t:=fun j=>j=pb) (Vg.Touch.refl _ _) rfl (.cells #[.slice none 0 0,.slice ya 1 yc,.slice a2 (k+1) c2,.int .i64 0,.int .i64 0] 49)) (fun j hj=>(H_hO4.out j hj).2)
           refine⟨k+1,a2,c2,_,by omega,by go_num,hEz,Vg.blk_put_same l7,(Vg.blk_put_other (by omega)).trans (H_hT7.out.bk H_r5.out (hown _ (by omega))),H_hq2.out.kept fun j hj=>Vg.put_heap_other (by have:=(H_hq2.out.lt j hj).1;omega),(H_hT7.out.gr H_hg5.out (fun j hj=>by have:=(H_hqlt.out j hj).1;omega)).put (by omega) _,by rw[Vg.put_size];omega⟩
          case measure=>simp[intOf];omega
         exact AllReadyH.nil
        exact AllReadyH.nil
       exact AllReadyH.nil
      exact AllReadyH.nil
     exact AllReadyH.nil
    ·have hke:k=nt:=by omega
     subst hke
     obtain⟨q,hqq⟩:∃q,s'.ms.length=q:=⟨_,rfl⟩
     have hq6:q<=65536:=by have:=H_hC4.out.2.1;omega
     have hmk:∀wz,Vg.Grows wr wz->Calls Tryz.prog 10 #[.pointer (some ⟨xb,0,none⟩)] wz fun e w'=>∃g,e=.returned (.slice (some ⟨g,0,none⟩) q q)/\Vg.blk w' g=some (.cells (Vg.mkcells s'.ms).toArray 60)/\wz.heap.size<=g/\Vg.Grows wz w':=fun wz hg=>es_marks (n:=q) (hE5.grows hg) hqq hq6 (by have:=hg.size;omega)
     have hid:∀wz,Vg.Grows wr wz->Calls Tryz.prog 38 #[.pointer (some ⟨xb,0,none⟩)] wz fun e w'=>e=.returned (.int .i64 s'.idle)/\wz=w':=fun wz hg=>es_idle (hE5.grows hg)
     have hnw:∀wz,Vg.Grows wr wz->Calls Tryz.prog 8 #[.pointer (some ⟨xb,0,none⟩)] wz fun e w'=>e=.returned (.int .i64 s'.t)/\wz=w':=fun wz hg=>es_now_c hE5 hg
     have hpl:=Vg.lt_of x5
     have hn1:¬w.heap.size+1=pb:=by omega
     have hn2:¬pb=w.heap.size+1:=by omega
     have H_x5:=h_ x5;have H_hE5:=h_ hE5;have H_r5:=h_ r5;have H_hq5:=h_ hq5;have H_hg5:=h_ hg5;have H_hqq:=h_ hqq;have H_hmk:=h_ hmk;have H_hid:=h_ hid;have H_hnw:=h_ hnw;clear x5 hE5 r5 hq5 hg5 hqq hmk hid hnw
     go_wp2_with (first|(go_at_call 10;(with_reducible refine(H_hmk.out _ (Vg.gro)).mono ?_);rintro e8 w8 ⟨g8,rfl,m8,n8,hg8⟩;have x8:=hg8.blk H_x5.out;have r8:=hg8.blk H_r5.out;have s8:=hg8.size;obtain⟨c_x8,f_x8,p_x8,l_x8,H_x8⟩:=Vg.lay x8;clear x8;obtain⟨c_r8,f_r8,p_r8,l_r8,H_r8⟩:=Vg.lay r8;clear r8;have H_m8:=h_ m8;clear m8)|(go_at_call 38;(with_reducible refine(H_hid.out _ (Vg.gro)).mono ?_);rintro e9 w9 ⟨rfl,rfl⟩)|(go_at_call 8;(with_reducible refine(H_hnw.out _ (Vg.gro)).mono ?_);rintro e10 w10 ⟨rfl,rfl⟩))
     have hbz:Vg.blk (Vg.put (Vg.put w8 (w.heap.size+1) (.cells #[.slice (some ⟨g8,0,none⟩) q q,.slice ya 1 yc,.slice za k zc,.int .i64 s'.idle,.int .i64 s'.t] 49)) pb (.cells #[.slice (some ⟨g8,0,none⟩) q q,.slice ya 1 yc,.slice za k zc,.int .i64 s'.idle,.int .i64 s'.t] 49)) (w.heap.size+1)=some (.cells #[.slice (some ⟨g8,0,none⟩) q q,.slice ya 1 yc,.slice za k zc,.int .i64 s'.idle,.int .i64 s'.t] 49):=(Vg.blk_put_other (by omega)).trans (Vg.blk_put_same l_r8)
     have hcz:=Vg.cells_of hbz
     have hfz:=Vg.frozen_of hbz
     refine bodyPost_ret (by simp[results,Tryz.results14,go_sem,hcz,hfz] <;> try rfl) rfl ?_
     have hg9:=hg8
     have hgw:Vg.Grows w w8:=H_hg5.out.trans (Vg.gro)
     exact⟨g8,q,s'.ms,s'.t,s'.idle,ya,yc,za,k,zc,rfl,(Vg.blk_put_other (by omega)).trans ((Vg.blk_put_other (by omega)).trans H_m8.out),H_hqq.out,H_hC4.out,(hgw.put (by omega) _).put (by omega) _⟩
end Go.Proofs.YtlkdkgefjipjmaaGreatDoor
