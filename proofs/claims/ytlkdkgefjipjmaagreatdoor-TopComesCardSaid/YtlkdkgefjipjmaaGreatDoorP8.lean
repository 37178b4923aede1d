/- WheelR, WheelT, WheelN, InR (put together). -/
import Derived.Test.YtlkdkgefjipjmaaGreatDoorP7
import Derived.Test.YtlkdkgefjipjmaaGreatDoorQ6
import Derived.Test.YtlkdkgefjipjmaaGreatDoorQ4
import Derived.Maps.OwnIn
import Derived.Test.YtlkdkgefjipjmaaGreatDoorQ2
import Derived.Deep.RegionHeld
import Derived.Test.YtlkdkgefjipjmaaGreatDoorQ0
set_option linter.all false
set_option maxHeartbeats 40000000
set_option maxRecDepth 100000
namespace Vg
open Go
theorem Touch.tabW{t:Nat->Prop}{w w':World}(h:Touch t w w')(hT:Tab w)(h0:¬t 0):Tab w':=fun j hj=>
 (World.cell?_of_block (w:=w) (h.block 0 (Classical.byContradiction fun hh=>by
  have h9:=hT j hj
  have h8:w.heap[0]? = none:=Array.getElem?_eq_none (by omega)
  simp[World.cell?,h8]at h9) h0)).trans (hT j hj)
theorem Ahd.rng{s:Wl}{L:Nat->List Nat}(h:WI s L){r a:Int}{is:Bool}(hA:Ahd s L r a is):0<=r/\r<257:=by
 cases is with
 | true=>obtain⟨_,_,h1,h2,_⟩:=h.step hA;exact⟨h1,h2⟩
 | false=>cases hA with|no=>omega
end Vg
namespace Go.Proofs.YtlkdkgefjipjmaaGreatDoor
open Go.ChangeShapes Go.WideShapes Go.ChangeAt Go.RowKit
section
variable {w w0 w':World}{b pb p1 p2 gt gm n l i:Nat}{s:Vg.Wl}{L L':Nat->List Nat}{F F' A B:List Nat}
theorem WI.far0(hI:Vg.WI s L):∀i∈L 256,0<=s.T.getD (i*3+1) 0:=fun i hi=>(hI.at0 256 (by omega) i hi).1
theorem wh_next(h:WO w b pb p1 p2 gt gm n s L F)(hI:Vg.WI s L)(hT:Vg.Tab w):
  Calls Tryz.prog 146 #[.pointer (some ⟨b,0,none⟩)] w fun e w'=>(∃t is,e=.returned (.tuple #[.int .i64 t,.bool is])/\Vg.Nx s L t is)/\Vg.Grows w w':=by
 have x1:=h.tab
 have hah:=wh_ahead h hT hI.now0 hI.u64 (WI.far0 hI)
 have hlk:∀(l:Nat) wz,l<258->Vg.Grows w wz->Calls Tryz.prog 181 #[.pointer (some ⟨b,0,none⟩),.int .i64 l] wz fun e w'=>e=.returned (.int .i64 (Vg.leastT s.T (L l) 4503599627370496))/\Vg.Grows wz w':=fun l wz hl hg=>wh_least l hl (h.grows hg) rfl
 obtain⟨ff,hff⟩:∃ff,(L 257).headD 0=ff:=⟨_,rfl⟩
 have hfk:∀is,(!(L 257).isEmpty)=is->Calls Tryz.prog 180 #[.pointer (some ⟨pb,0,none⟩),.int .i64 257] w fun e w'=>e=.returned (.tuple #[.int .i64 ff,.bool is])/\w=w':=fun is his=>pool_first 257 h.pl (by omega) hff his
 by_cases hem:L 257=[]
 ·have his:(!(L 257).isEmpty)=false:=by rw[hem];rfl
  obtain⟨c_x1,f_x1,p_x1,l_x1,H_x1⟩:=Vg.lay x1;clear x1
  have H_h:=h_ h;have H_hT:=h_ hT;have H_hI:=h_ hI;have H_hah:=h_ hah;have H_hlk:=h_ hlk;have H_hfk:=h_ hfk;have H_his:=h_ his;have H_hem:=h_ hem;have H_hff:=h_ hff;clear h hT hI hah hlk hfk his hem hff
  go_enter Tryz.func146,Tryz.ntmps146
  go_upto_region 5 with(first|(go_at_call 180;(with_reducible refine(H_hfk.out _ H_his.out).mono ?_);rintro e w1 ⟨rfl,rfl⟩)|(go_at_call 113;(with_reducible refine(H_hah.out).mono ?_);rintro e w2 ⟨⟨r,a,is,rfl,hA⟩,hg2⟩;have H_hg2:=h_ hg2;clear hg2))
  cases is with
  | false=>
   have hN:=Vg.WI.next_no H_hI.out H_hem.out hA
   have H_hN:=h_ hN;have H_hA:=h_ hA;clear hN hA
   go_wp2_with fail
   go_ret2
   exact⟨⟨_,_,rfl,H_hN.out⟩,H_hg2.out⟩
  | true=>
   have hN:=Vg.WI.next H_hI.out H_hem.out hA
   obtain⟨hr0,hr1⟩:=Vg.Ahd.rng H_hI.out hA
   obtain⟨k,rfl⟩:∃k:Nat,r=k:=⟨r.toNat,by omega⟩
   have hl9:=H_hlk.out k _ (by omega) H_hg2.out
   rw[show((k:Int).toNat)=k by omega]at hN
   obtain⟨v,hv⟩:∃v,Vg.leastT s.T (L k) 4503599627370496=v:=⟨_,rfl⟩
   rw[hv]at hN hl9
   have H_hN:=h_ hN;have H_hA:=h_ hA;have H_hl9:=h_ hl9;clear hN hA hl9
   go_wp2_with ((go_at_call 181;(with_reducible refine(H_hl9.out).mono ?_);rintro e w3 ⟨rfl,hg3⟩;have H_hg3:=h_ hg3;clear hg3))
   go_ret2
   exact⟨⟨_,_,rfl,H_hN.out⟩,H_hg2.out.trans H_hg3.out⟩
 ·have his:(!(L 257).isEmpty)=true:=by cases hq:L 257 with|nil=>exact absurd hq hem|cons a l=>rfl
  have hN:=hI.next_due hem
  have hl9:Calls Tryz.prog 181 #[.pointer (some ⟨b,0,none⟩),.int .i64 257] w fun e w'=>e=.returned (.int .i64 (Vg.leastT s.T (L 257) 4503599627370496))/\Vg.Grows w w':=hlk 257 w (by omega) (Vg.Grows.refl _)
  obtain⟨v,hv⟩:∃v,Vg.leastT s.T (L 257) 4503599627370496=v:=⟨_,rfl⟩
  rw[hv]at hN hl9
  obtain⟨c_x1,f_x1,p_x1,l_x1,H_x1⟩:=Vg.lay x1;clear x1
  have H_h:=h_ h;have H_hT:=h_ hT;have H_hI:=h_ hI;have H_hah:=h_ hah;have H_hlk:=h_ hlk;have H_hfk:=h_ hfk;have H_his:=h_ his;have H_hem:=h_ hem;have H_hff:=h_ hff;have H_hN:=h_ hN;have H_hl9:=h_ hl9;clear h hT hI hah hlk hfk his hem hff hN hl9
  go_enter Tryz.func146,Tryz.ntmps146
  go_wp2_with (first|(go_at_call 180;(with_reducible refine(H_hfk.out _ H_his.out).mono ?_);rintro e w1 ⟨rfl,rfl⟩)|(go_at_call 181;(with_reducible refine(H_hl9.out).mono ?_);rintro e w3 ⟨rfl,hg3⟩;have H_hg3:=h_ hg3;clear hg3))
  go_ret2
  exact⟨⟨_,_,rfl,H_hN.out⟩,H_hg3.out⟩
def SetR(s:Vg.Wl)(L:Nat->List Nat)(s':Vg.Wl)(L':Nat->List Nat):Prop:=Vg.WI s' L'/\s'.T=s.T/\s'.ids=s.ids/\s'.turns=s.turns/\s.now<=s'.now/\∀z,Vg.inL L' z↔Vg.inL L z
theorem wh_set (nx:Int) (h:WO w b pb p1 p2 gt gm n s L F) (hI:Vg.WI s L) (hT:Vg.Tab w) (h0:¬wown b pb p1 p2 gt gm 0) (h1:s.now<=nx) (h2:nx<=4503599627370496) :
  Calls Tryz.prog 63 #[.pointer (some ⟨b,0,none⟩),.int .i64 nx] w fun e w'=>e=.returned (.int .i64 0)/\∃s' L',WOn w w' b pb p1 p2 gt gm n s' L' F/\SetR s L s' L'/\s'.now=nx:=by
 have x1:=h.tab
 have hb1:¬nx<s.now:=by omega
 have hb2:¬4503599627370496<nx:=by omega
 have hst:WOn w w b pb p1 p2 gt gm n s L F/\SetR s L s L:=⟨WOn.refl h,hI,rfl,rfl,rfl,Int.le_refl _,fun z=>Iff.rfl⟩
 obtain⟨c_x1,f_x1,p_x1,l_x1,H_x1⟩:=Vg.lay x1;clear x1
 have H_h:=h_ h;have H_hT:=h_ hT;have H_hI:=h_ hI;have H_hst:=h_ hst;have H_h0:=h_ h0;clear h hT hI hst h0
 go_enter Tryz.func63,Tryz.ntmps63
 go_wp2
 go_step3
 go_wp2
 go_step3
 go_wp2
 go_loopg [] (nx-s.now).toNat (fun k wr=>∃s' L',k=(nx-s'.now).toNat/\WOn w wr b pb p1 p2 gt gm n s' L' F/\SetR s L s' L'/\s'.now<=nx)
 case atStart=>exact⟨s,L,rfl,H_hst.out.1,H_hst.out.2,h1⟩
 case round=>
  obtain⟨s1,L1,hk,hw,hR,hn⟩:=hrel
  clear c_x1 f_x1 p_x1 l_x1
  have y1:=hw.1.tab
  have hT1:=hw.2.tabW H_hT.out H_h0.out
  have hah:=wh_ahead hw.1 hT1 hR.1.now0 hR.1.u64 (WI.far0 hR.1)
  obtain⟨q,q1,q2⟩:=hw.1.pl
  have hnd:=q2.nd
  clear q1 q2
  obtain⟨c_y1,f_y1,p_y1,l_y1,H_y1⟩:=Vg.lay y1;clear y1
  have H_hw:=h_ hw;have H_hR:=h_ hR;have H_hT1:=h_ hT1;have H_hah:=h_ hah;have H_hnd:=h_ hnd;clear hw hR hT1 hah hnd
  go_upto_region 6 with((go_at_call 113;(with_reducible refine(H_hah.out).mono ?_);rintro e w2 ⟨⟨r,a,is,rfl,hA⟩,hg2⟩;have H_hg2:=h_ hg2;clear hg2))
  have hw2:=H_hw.out.grows H_hg2.out
  have y2:=hw2.1.tab
  clear c_y1 f_y1 p_y1 l_y1
  obtain⟨c_y2,f_y2,p_y2,l_y2,H_y2⟩:=Vg.lay y2;clear y2
  by_cases hgo:is=true/\a<=nx
  ·obtain⟨rfl,han⟩:=hgo
   have han':¬nx<a:=by omega
   obtain⟨c1,c2,c3,c4,c5,c6,c7⟩:=Vg.WI.step H_hR.out.1 hA
   have hn0:=H_hR.out.1.now0
   obtain⟨l,rfl⟩:∃l:Nat,r=l:=⟨r.toNat,by omega⟩
   rw[show((l:Int).toNat)=l by omega]at c5
   have hl:l<258:=by omega
   obtain⟨x,hx⟩:∃x,Vg.spr a s1.T l (L1 l) (L1,s1.U)=x:=⟨_,rfl⟩
   obtain⟨d1,d2⟩:=Vg.WI.spread hl ⟨by omega,c2⟩ c5 (H_hnd.out l hl) hx
   have hw3:=hw2.setTab a s1.turns s1.U (Int.le_refl _)
   obtain⟨w3,hw3e⟩:∃w3,Vg.put w2 b (wheelC pb gt gm n a s1.turns s1.U)=w3:=⟨_,rfl⟩
   have hw3e':=hw3e
   simp only[wheelC]at hw3e'
   rw[hw3e]at hw3
   have hsk:=wh_spread (w:=w3) l hl hw3.1 ⟨by show 0<=a;omega,c2⟩ H_hR.out.1.u64 (fun i hi=>H_hR.out.1.at0 l hl i hi) (x:=x) hx
   have hm:(nx-a).toNat<(nx-s1.now).toNat:=by omega
   have H_hA:=h_ hA;have H_hw2:=h_ hw2;have H_c5:=h_ c5;have H_c7:=h_ c7;have H_hx:=h_ hx;have H_d1:=h_ d1;have H_d2:=h_ d2;have H_hw3:=h_ hw3;have H_hsk:=h_ hsk;clear hA hw2 c5 c7 hx d1 d2 hw3 hsk
   go_upto_region 5 with fail
   (try rw[hw3e'])
   clear hw3e hw3e' c_y2 f_y2 p_y2 l_y2
   go_wp2_with ((go_at_call 114;(with_reducible refine(H_hsk.out).mono ?_);rintro e w4 ⟨rfl,hw4⟩;have H_hw4:=h_ hw4;clear hw4))
   go_roundg (nx-a).toNat
   case measure=>rw[hk];exact hm
   case rel=>exact⟨_,_,rfl,H_hw3.out.trans H_hw4.out,⟨H_d1.out,H_hR.out.2.1,H_hR.out.2.2.1,H_hR.out.2.2.2.1,by have h9:=H_hR.out.2.2.2.2.1;show s.now<=a;omega,fun z=>(H_d2.out z).trans (H_hR.out.2.2.2.2.2 z)⟩,han⟩
  ·have hd1:=Vg.WI.jump H_hR.out.1 hA ⟨hn,h2⟩ (fun h=>by have:¬a<=nx:=fun h9=>hgo ⟨h,h9⟩;omega)
   have hw3:=hw2.setTab nx s1.turns s1.U (Int.le_refl _)
   have hfin:SetR s L { s1 with now:=nx } L1:=⟨hd1,H_hR.out.2.1,H_hR.out.2.2.1,H_hR.out.2.2.2.1,by have h9:=H_hR.out.2.2.2.2.1;show s.now<=nx;omega,H_hR.out.2.2.2.2.2⟩
   cases is with
   | false=>
    clear hgo
    have H_hA:=h_ hA;have H_hw2:=h_ hw2;have H_hd1:=h_ hd1;have H_hw3:=h_ hw3;have H_hfin:=h_ hfin;clear hA hw2 hd1 hw3 hfin
    go_wp2_with fail
    rw[Exit.noGoto_ret]
    go_returns
    exact⟨rfl,_,_,H_hw3.out,H_hfin.out,rfl⟩
   | true=>
    have han:nx<a:=by
     have:¬a<=nx:=fun h9=>hgo ⟨rfl,h9⟩
     omega
    clear hgo
    have H_hA:=h_ hA;have H_hw2:=h_ hw2;have H_hd1:=h_ hd1;have H_hw3:=h_ hw3;have H_hfin:=h_ hfin;clear hA hw2 hd1 hw3 hfin
    go_wp2_with fail
    rw[Exit.noGoto_ret]
    go_returns
    exact⟨rfl,_,_,H_hw3.out,H_hfin.out,rfl⟩
end
end Go.Proofs.YtlkdkgefjipjmaaGreatDoor
namespace Go.Proofs.YtlkdkgefjipjmaaGreatDoor
open Go.ChangeShapes Go.WideShapes Go.ChangeAt Go.RowKit
theorem Tryz.info_timer:(Tryz.prog.info? 304).map (fun i=>(i.zero,i.size,i.bytes))=some (some (.agg #[.int .i64 0,.int .i64 0,.int .i64 0]),3,24):=by kernel_rfl
theorem mk_timers(n:Nat)(hn:n<=4096)(w:World):(Instr.makeSlice 266 (.int .i64 n) (.int .i64 n)).run Tryz.prog w=.ok (.slice (some ⟨w.heap.size,0,none⟩) n n) (w.alloc (Vg.rowP (List.replicate (n*3) 0) 304)):=by
 obtain⟨i,hi,hz,hs,hb⟩:=info_parts Tryz.info_timer
 have:=run_make (P:=Tryz.prog) w 266 304 i (.agg #[.int .i64 0,.int .i64 0,.int .i64 0]) Tryz.underlying266 hi hz .i64 .i64 n n (by omega) (by omega) (by rw[hb];omega) (by omega)
 rw[hs]at this
 simp only[Int.toNat_natCast]at this
 rw[this,show(Value.agg #[.int .i64 0,.int .i64 0,.int .i64 0]).cells=#[.int .i64 0,.int .i64 0,.int .i64 0]from rfl,Vg.madeP3]
theorem WO.start(w w1:World)(n pb p1 p2:Nat)(now:Int)(hp:PL w1 pb p1 p2 n 258 (fun _=>[]) (List.range n))(hpo:∀k,pown pb p1 p2 k->w.heap.size<=k)(hg:Vg.Grows w w1):
  WO (((w1.alloc (Vg.rowP (List.replicate (n*3) 0) 304)).alloc (.map #[] 0)).alloc (wheelC pb w1.heap.size (w1.heap.size+1) n now 0 (fun _=>0))) (w1.heap.size+1+1) pb p1 p2 w1.heap.size (w1.heap.size+1) n ⟨now,0,List.replicate (n*3) 0,fun _=>none,fun _=>0⟩ (fun _=>[]) (List.range n):=by
 have hlt:=hp.lt
 refine⟨Vg.alloc_heap_at (by simp),(Vg.alloc_heap_past (by simp;omega)).trans ((Vg.alloc_heap_past (by simp)).trans (Vg.alloc_heap_at rfl)),⟨0,Int.le_refl _,?_⟩,hp.grows (Vg.gro),by omega,by omega,by omega,fun k hk=>by have:=hlt k hk;omega,by simp⟩
 have h9:=Vg.IMap.made (w1.alloc (Vg.rowP (List.replicate (n*3) 0) 304)) Tryz.prog 3 3
 rw[World.size_alloc]at h9
 exact h9.keep (Vg.alloc_heap_past (by simp))
def WNew(w w':World)(n:Nat)(now:Int)(e:Ending):Prop:=∃b pb p1 p2 gt gm,e=.returned (.tuple #[.pointer (some ⟨b,0,none⟩),.int .i64 0])/\WO w' b pb p1 p2 gt gm n ⟨now,0,List.replicate (n*3) 0,fun _=>none,fun _=>0⟩ (fun _=>[]) (List.range n)/\(∀k,wown b pb p1 p2 gt gm k->w.heap.size<=k)/\Vg.Grows w w'
theorem wh_new(now:Int)(n:Nat)(w:World)(h1:0<=now)(h2:now<=4503599627370496)(hn1:1<=n)(hn:n<=4096):
  Calls Tryz.prog 79 #[.int .i64 now,.int .i64 n] w fun e w'=>WNew w w' n now e:=by
 have hm:=mk_timers n hn
 have hmm:=@run_makeMap Tryz.prog
 have hpk:∀wz,Calls Tryz.prog 143 #[.int .i64 n,.int .i64 258] wz fun e w'=>PNew wz w' n 258 e:=fun wz=>pool_new n 258 wz hn1 hn (by omega) (by omega)
 have H_hpk:=h_ hpk;clear hpk
 go_enter Tryz.func79,Tryz.ntmps79
 go_wp2_with ((go_at_call 143;(with_reducible refine(H_hpk.out _).mono ?_);rintro e w1 ⟨pb,p1,p2,rfl,hp,hpo,hg⟩;have H_hp:=h_ hp;have H_hpo:=h_ hpo;have H_hg:=h_ hg;clear hp hpo hg))
 go_ret2
 refine⟨_,pb,p1,p2,w1.heap.size,w1.heap.size+1,rfl,WO.start w w1 n pb p1 p2 now H_hp.out H_hpo.out H_hg.out,?_,by have h9:=H_hg.out;exact Vg.gro⟩
 have h8:=H_hg.out.size
 rintro k (rfl|rfl|rfl|hk)
 ·omega
 ·omega
 ·omega
 ·exact H_hpo.out k hk
end Go.Proofs.YtlkdkgefjipjmaaGreatDoor
namespace Vg
open Go
def cmpI(x y:Int):Int:=if x<y then -1 else if y<x then 1 else 0
end Vg
namespace Go.Proofs.YtlkdkgefjipjmaaGreatDoor
open Go.ChangeShapes Go.WideShapes Go.ChangeAt Go.RowKit
theorem nan64(x:Int)(w:World):Calls Tryz.prog 229 #[.int .i64 x] w fun e w'=>e=.returned (.bool false)/\w=w':=by
 go_enter Tryz.func229,Tryz.ntmps229
 go_wp2
 go_ret
 exact⟨rfl,rfl⟩
theorem nanI(x:Int)(w:World):Calls Tryz.prog 230 #[.int .i64 x] w fun e w'=>e=.returned (.bool false)/\w=w':=by
 go_enter Tryz.func230,Tryz.ntmps230
 go_wp2
 go_ret
 exact⟨rfl,rfl⟩
theorem cmp64(x y:Int)(w:World){r:Int}(hr:Vg.cmpI x y=r):Calls Tryz.prog 224 #[.int .i64 x,.int .i64 y] w fun e w'=>e=.returned (.int .i64 r)/\w=w':=by
 unfold Vg.cmpI at hr
 by_cases h1:x<y
 ·rw[if_pos h1]at hr
  subst hr
  go_enter Tryz.func224,Tryz.ntmps224
  go_wp2_with ((go_at_call 229;(with_reducible refine(nan64 _ _).mono ?_);rintro e w1 ⟨rfl,rfl⟩))
  go_ret
  exact⟨rfl,rfl⟩
 ·rw[if_neg h1]at hr
  by_cases h2:y<x
  ·rw[if_pos h2]at hr
   subst hr
   go_enter Tryz.func224,Tryz.ntmps224
   go_wp2_with ((go_at_call 229;(with_reducible refine(nan64 _ _).mono ?_);rintro e w1 ⟨rfl,rfl⟩))
   go_ret
   exact⟨rfl,rfl⟩
  ·rw[if_neg h2]at hr
   subst hr
   go_enter Tryz.func224,Tryz.ntmps224
   go_wp2_with ((go_at_call 229;(with_reducible refine(nan64 _ _).mono ?_);rintro e w1 ⟨rfl,rfl⟩))
   go_ret
   exact⟨rfl,rfl⟩
theorem cmpII(x y:Int)(w:World){r:Int}(hr:Vg.cmpI x y=r):Calls Tryz.prog 225 #[.int .i64 x,.int .i64 y] w fun e w'=>e=.returned (.int .i64 r)/\w=w':=by
 unfold Vg.cmpI at hr
 by_cases h1:x<y
 ·rw[if_pos h1]at hr
  subst hr
  go_enter Tryz.func225,Tryz.ntmps225
  go_wp2_with ((go_at_call 230;(with_reducible refine(nanI _ _).mono ?_);rintro e w1 ⟨rfl,rfl⟩))
  go_ret
  exact⟨rfl,rfl⟩
 ·rw[if_neg h1]at hr
  by_cases h2:y<x
  ·rw[if_pos h2]at hr
   subst hr
   go_enter Tryz.func225,Tryz.ntmps225
   go_wp2_with ((go_at_call 230;(with_reducible refine(nanI _ _).mono ?_);rintro e w1 ⟨rfl,rfl⟩))
   go_ret
   exact⟨rfl,rfl⟩
  ·rw[if_neg h2]at hr
   subst hr
   go_enter Tryz.func225,Tryz.ntmps225
   go_wp2_with ((go_at_call 230;(with_reducible refine(nanI _ _).mono ?_);rintro e w1 ⟨rfl,rfl⟩))
   go_ret
   exact⟨rfl,rfl⟩
theorem cmpOr(x y:Int)(w:World)(g:Nat)(c0:w.cell? ⟨g,0,none⟩=some (.int .i64 x))(c1:w.cell? ⟨g,1,none⟩=some (.int .i64 y)){r:Int}(hr:(if x=0 then y else x)=r):
  Calls Tryz.prog 223 #[.slice (some ⟨g,0,none⟩) 2 2] w fun e w'=>e=.returned (.int .i64 r)/\w=w':=by
 have H_hr:=h_ hr;clear hr
 go_enter Tryz.func223,Tryz.ntmps223
 go_wp2
 go_loop [8] (fun i=>∃k:Nat,k<=2/\i=.int .i64 k/\(0<k->x=0)/\(1<k->y=0)) (fun i=>2-(intOf i).toNat)
 case atStart=>exact⟨0,by omega,rfl,fun h=>by omega,fun h=>by omega⟩
 case round=>
  obtain⟨k,hk,rfl,hx,hy⟩:=hrel
  have hc:k=0\/k=1\/k=2:=by omega
  rcases hc with rfl|rfl|rfl
  ·by_cases h1:x=0
   ·subst h1
    go_wp2
    go_round
    case rel=>exact⟨1,by omega,by go_num,fun _=>by trivial,fun h=>by omega⟩
    case measure=>simp[intOf]
   ·have hr:=H_hr.out
    rw[if_neg h1]at hr
    subst hr
    go_wp2
    go_returns
    exact⟨rfl,rfl⟩
  ·have h1:=hx (by omega)
   subst h1
   have hr:=H_hr.out
   rw[if_pos rfl]at hr
   subst hr
   by_cases h2:y=0
   ·subst h2
    go_wp2
    go_round
    case rel=>exact⟨2,by omega,by go_num,fun _=>by trivial,fun _=>by trivial⟩
    case measure=>simp[intOf]
   ·go_wp2
    go_returns
    exact⟨rfl,rfl⟩
  ·have h1:=hx (by omega)
   subst h1
   have h2:=hy (by omega)
   subst h2
   have hr:=H_hr.out
   rw[if_pos rfl]at hr
   subst hr
   go_wp2
   go_returns
   exact⟨rfl,rfl⟩
theorem wh_before(a1 a2 a3 b1 b2 b3:Int)(w:World):
  Calls Tryz.prog 208 #[.agg #[.int .i64 a1,.int .i64 a2,.int .i64 a3],.agg #[.int .i64 b1,.int .i64 b2,.int .i64 b3]] w fun e w'=>(∃r,e=.returned (.int .i64 r))/\Vg.Grows w w':=by
 obtain⟨r1,hr1⟩:∃r1,Vg.cmpI a2 b2=r1:=⟨_,rfl⟩
 obtain⟨r2,hr2⟩:∃r2,Vg.cmpI a3 b3=r2:=⟨_,rfl⟩
 obtain⟨r3,hr3⟩:∃r3,(if r1=0 then r2 else r1)=r3:=⟨_,rfl⟩
 have H_hr1:=h_ hr1;have H_hr2:=h_ hr2;have H_hr3:=h_ hr3;clear hr1 hr2 hr3
 go_enter Tryz.func208,Tryz.ntmps208
 go_upto_region 1 with fail
 obtain⟨bx,hbx⟩:∃bx,bx=w.heap.size:=⟨_,rfl⟩
 obtain⟨w1,hw1⟩:∃w1,(w.alloc (.cells #[.int .i64 a1,.int .i64 a2,.int .i64 a3] 304)).alloc (.cells #[.int .i64 b1,.int .i64 b2,.int .i64 b3] 304)=w1:=⟨_,rfl⟩
 have hg1:Vg.Grows w w1:=by rw[<-hw1];exact Vg.gro
 have k1:w1.cell? ⟨bx,1,none⟩=some (.int .i64 a2):=by rw[<-hw1,hbx];clear hw1;go_simp
 have k2:w1.cell? ⟨bx,2,none⟩=some (.int .i64 a3):=by rw[<-hw1,hbx];clear hw1;go_simp
 have k3:w1.cell? ⟨bx+1,1,none⟩=some (.int .i64 b2):=by rw[<-hw1,hbx];clear hw1;go_simp
 have k4:w1.cell? ⟨bx+1,2,none⟩=some (.int .i64 b3):=by rw[<-hw1,hbx];clear hw1;go_simp
 have hl1:bx+1<w1.heap.size:=by rw[<-hw1,hbx];simp
 have hl0:bx<w1.heap.size:=by omega
 rw[hw1,<-hbx]
 clear hw1 hbx
 have H_hg1:=h_ hg1;clear hg1
 refine wp_region_held_drew (S:=fun w'=>bx+1<w'.heap.size/\w'.cell? ⟨bx,1,none⟩=some (.int .i64 a2)/\w'.cell? ⟨bx,2,none⟩=some (.int .i64 a3)/\w'.cell? ⟨bx+1,1,none⟩=some (.int .i64 b2)/\w'.cell? ⟨bx+1,2,none⟩=some (.int .i64 b3)) (by kernel_rfl) (by go_split_ands<;>(try dsimp only)<;>go_simp) (fun hHeld=>?_)
 refine tk 0 ?_
 refine tk 1 ?_
 refine tk 2 ?_
 refine tk 3 ?_
 refine tk 4 ?_
 refine tk 5 ?_
 refine tk 7 ?_
 refine tk 8 ?_
 refine tk 9 ?_
 refine tk 10 ?_
 refine wpAnyH_ready (rs:=[6]) (by kernel_rfl) (by simp) ?_
 refine AllReadyH.cons (o:=_) rfl (fun K hK=>?st11) ?mo11
 case st11=>
  go_simp
  ((go_at_call 224;(with_reducible refine(cmp64 _ _ _ H_hr1.out).mono ?_);rintro e7 w7 ⟨rfl,rfl⟩))
  all_goals(try go_wp2_with fail)
  refine hK.out _ _ (by go_split_ands<;>(try dsimp only)<;>go_simp) (fun hHeld11=>?_)
  clear hK K
  refine wpAnyH_ready (rs:=[11]) (by kernel_rfl) (by simp) ?_
  refine AllReadyH.cons (o:=_) rfl (fun K hK=>?st12) ?mo12
  case st12=>
   go_simp
   ((go_at_call 225;(with_reducible refine(cmpII _ _ _ H_hr2.out).mono ?_);rintro e8 w8 ⟨rfl,rfl⟩))
   all_goals(try go_wp2_with fail)
   refine hK.out _ _ (by go_split_ands<;>(try dsimp only)<;>go_simp) (fun hHeld12=>?_)
   clear hK K
   refine wpAnyH_ready (rs:=[12]) (by kernel_rfl) (by simp) ?_
   refine AllReadyH.cons (o:=_) rfl (fun K hK=>?st13) ?mo13
   case st13=>
    go_simp
    refine hK.out _ _ (by go_split_ands<;>(try dsimp only)<;>go_simp) (fun hHeld13=>?_)
    clear hK K
    refine wpAnyH_ready (rs:=[13]) (by kernel_rfl) (by simp) ?_
    refine AllReadyH.cons (o:=_) rfl (fun K hK=>?st14) ?mo14
    case st14=>
     go_simp
     ((go_at_call 223;(with_reducible refine(cmpOr r1 r2 _ _ (by go_simp) (by go_simp) H_hr3.out).mono ?_);rintro e8 w8 ⟨rfl,rfl⟩))
     all_goals(try go_wp2_with fail)
     refine hK.out _ _ (by go_split_ands<;>(try dsimp only)<;>go_simp) (fun hHeld14=>?_)
     clear hK K
     refine tk 14 ?_
     refine wpAnyH_done (by kernel_rfl) ?_ _
     go_wp2_with fail
     go_ret
     exact⟨⟨_,rfl⟩,by have h9:=H_hg1.out;exact Vg.gro⟩
    exact AllReadyH.nil
   exact AllReadyH.nil
  exact AllReadyH.nil
 exact AllReadyH.nil
end Go.Proofs.YtlkdkgefjipjmaaGreatDoor
namespace Vg
open Go
section
variable {P:Program}{ops:Array Oper}{Q:Exit->Act->World->Prop}{md:Region.Mode}{l n:Nat}
theorem wpOp_in{i:Nat}{K:Act->World->Prop}{a:Act}{w:World}(hd:∀(i:Nat)(o:Oper)(c:Call),ops[i]? = some o->o.op ≠ .defer c)(hL:¬LetsOut Q)
  (h:wpOp P ops Q i K a w):wpOpIn (Fence.wide.inRound l) n P ops Q i K a w:=by
 unfold wpOp at h
 unfold wpOpIn
 cases ho:ops[i]? with
 | none=>rw[ho]at h;exact h
 | some o=>
  rw[ho]at h
  simp only at h ⊢
  split
  ·rename_i hw
   rw[if_pos hw]at h
   have h:=h.resolve_right fun hh=>hL hh.2
   unfold Oper.wp at h
   unfold Oper.wpIn
   refine⟨fun _ _=>trivial,?_⟩
   rw[Oper.semAt_eq _ _ _ (fun c=>hd i o c ho)]
   generalize (execOp a.eval o).run P w=r at h ⊢
   cases r with
   | ok x w'=>
    cases x<;>simp only[Oper.upon,Oper.uponIn]at h ⊢
    case value=>exact h
    case skip=>exact h
    case defer=>exact h
    case enter f args=>exact⟨fun hh=>(by cases hh),CallsIn.inRound l (callsIn_wide.2 h)⟩
    case row r args=>
     refine⟨fun hh=>(by cases hh),fun c cs _=>?_⟩
     obtain⟨v,w1,h1,h2⟩:=h c cs
     exact⟨v,w1,h1,stepsIn_wide.2 h2⟩
   | halt x w'=>cases x<;>simp only[Oper.upon,Oper.uponIn]at h ⊢ <;> exact h
  ·rename_i hw
   rw[if_neg hw]at h
   exact⟨fun _ _=>trivial,h⟩
theorem wpAny_in(hd:∀(i:Nat)(o:Oper)(c:Call),ops[i]? = some o->o.op ≠ .defer c)(hL:¬LetsOut Q):∀(fuel:Nat)(listed:Array Bool)(a:Act)(w:World),
  wpAny P md ops Q fuel listed a w->wpAnyIn (Fence.wide.inRound l) n P md ops Q fuel listed a w
 | 0,_,_,_,h=>h
 | fuel+1,_,_,_,h=>⟨h.1,fun i hi=>wpOp_in hd hL (wpOp_mono (fun a' w' h'=>wpAny_in hd hL fuel _ a' w' h') (h.2 i hi))⟩
theorem noDefer_of{l:List Oper}(h:(l.all fun o=>match o.op with | .defer _=>false|_=>true)=true):∀(i:Nat)(o:Oper)(c:Call),l.toArray[i]? = some o->o.op ≠ .defer c:=by
 intro i o c ho hc
 have:=List.all_eq_true.1 h o (List.mem_of_getElem? (by simpa using ho))
 rw[hc]at this
 cases this
theorem wpIn_region_held_drew{S:World->Prop}{id:Nat}{a:Act}{w:World}(hm:P.follows .mixedOrders=true)(hd:∀(i:Nat)(o:Oper)(c:Call),ops[i]? = some o->o.op ≠ .defer c)(K:Act->World->Prop)
  (hK:∀a w,K a w->Q .normal a w)(hS:S w.drew)
  (h:S w.drew->wpAnyH P .any ops (fun e a w=>match e with | .normal=>K a w|_=>False) S ops.size (Array.replicate ops.size false) a w.drew):(Code.region id ops true).wpIn (Fence.wide.inRound l) n P Q a w:=by
 refine Code.wpIn_mono (Q:=fun e a w=>match e with | .normal=>K a w|_=>False) (fun e a w hh=>?_) (wpIn_region_any hm ?_)
 ·cases e<;>first|exact hK _ _ hh|exact hh.elim
 ·exact wpAny_in hd (fun hh=>by obtain⟨a,w,hh⟩:=hh;exact hh) _ _ _ _ (wpAny_of_held _ _ _ _ (h hS))
end
end Vg
