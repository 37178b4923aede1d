/- Tc, TcB, TcW (put together). -/
import Derived.Test.YtlkdkgefjipjmaaGreatDoorPc
import Derived.Test.YtlkdkgefjipjmaaGreatDoorPd
import Derived.Test.YtlkdkgefjipjmaaGreatDoorPb
import Derived.Test.YtlkdkgefjipjmaaGreatDoorPa
import Derived.Test.YtlkdkgefjipjmaaGreatDoorQ0
import Derived.OrdersHeld
import Derived.WalkKit
import Derived.Deep.RegionHeld
import Derived.Lib.Hide
import Derived.RowKit
set_option linter.all false
set_option maxHeartbeats 40000000
set_option maxRecDepth 100000
namespace Go.Proofs.YtlkdkgefjipjmaaGreatDoor
open Go.ChangeShapes Go.WideShapes Go.ChangeAt Go.RowKit
theorem low18(w:World):Calls Tryz.prog 17 #[.int .i64 4294967301] w fun e w'=>e=.returned (.int .u32 5)/\w=w':=by
 go_enter Tryz.func17,Tryz.ntmps17
 go_wp2
 go_ret
 exact⟨rfl,rfl⟩
theorem diff18(w:World):Calls Tryz.prog 18 #[.int .u32 3,.int .u32 5] w fun e w'=>e=.returned (.int .i64 (-2))/\w=w':=by
 go_enter Tryz.func18,Tryz.ntmps18
 go_wp2
 go_ret
 exact⟨ret_int (by kernel_rfl),rfl⟩
theorem begins18(w:World):Calls Tryz.prog 5 #[] w fun e w'=>e=.returned (.bool true)/\w=w':=by
 go_enter Tryz.func5,Tryz.ntmps5
 go_wp2_with (first|(go_at_call 17;refine(low18 _).mono ?_;rintro e w' ⟨rfl,rfl⟩)|(go_at_call 18;refine(diff18 _).mono ?_;rintro e w' ⟨rfl,rfl⟩))
 go_ret
 exact⟨rfl,rfl⟩
def TcP(w w':World)(e:Ending):Prop:=e=.returned (.bool true)/\Vg.Grows w w'
theorem tc_out(C:Vg.Cf)(v:Cv)(long:Int)(w:World)(hR:CR w C v)(hmx : -9223372036854775808<=C.mx)(hT:Vg.Tab w)(h:¬(0<=long/\long<=1099511627776/\Vg.Vt.good C/\quietB C long=true)):
  Calls Tryz.prog 4 #[cfV C v,.int .i64 long] w fun e w'=>TcP w w' e:=by
 have hgc:∀wz,Vg.Grows w wz->Calls Tryz.prog 11 #[.int .i64 12,.int .i64 18] wz fun e w'=>e=.returned (.tuple #[.int .i64 6,.int .i64 0])/\wz=w':=fun wz hg=>hg_gcd wz (hT.grows hg)
 have hck:=fun wz (hg:Vg.Grows w wz)=>vet_check C v wz (hR.grows hg) hmx
 have hqu:=fun wz (hg:Vg.Grows w wz)(hgd:Vg.Vt.good C)(h0:0<=long)(h1:long<=1099511627776)=>vt_quiet C v long wz (hR.grows hg) hgd h0 h1
 obtain⟨nt,hnt⟩:∃nt,C.T.length=nt:=⟨_,rfl⟩
 obtain⟨nl,hnl⟩:∃nl,C.L.length=nl:=⟨_,rfl⟩
 obtain⟨nh,hnh⟩:∃nh,C.H.length=nh:=⟨_,rfl⟩
 obtain⟨mn,hmne⟩:∃mn,C.mn=mn:=⟨_,rfl⟩
 obtain⟨mx,hmxe⟩:∃mx,C.mx=mx:=⟨_,rfl⟩
 obtain⟨sw,hswe⟩:∃sw,C.sw=sw:=⟨_,rfl⟩
 have hCV:cfV C v=.agg #[.int .i64 mn,.int .i64 mx,.int .i64 sw,.slice v.ta nt v.tc,.slice v.la nl v.lc,.slice v.ha nh v.hc]:=by simp only[cfV,hmne,hmxe,hswe,hnt,hnl,hnh]
 rw[hCV]at hck hqu ⊢
 have b0:Vg.blk (w.alloc (.cells #[.int .i64 mn,.int .i64 mx,.int .i64 sw,.slice v.ta nt v.tc,.slice v.la nl v.lc,.slice v.ha nh v.hc] 30)) w.heap.size=some (.cells #[.int .i64 mn,.int .i64 mx,.int .i64 sw,.slice v.ta nt v.tc,.slice v.la nl v.lc,.slice v.ha nh v.hc] 30):=Vg.alloc_heap_at rfl
 by_cases hlo:long<0
 ·clear h hck hqu
  have H_hR:=h_ hR;have H_hT:=h_ hT;have H_hnt:=h_ hnt;have H_hnl:=h_ hnl;have H_hnh:=h_ hnh;have H_hmne:=h_ hmne;have H_hmxe:=h_ hmxe;have H_hswe:=h_ hswe;have H_hCV:=h_ hCV;have H_hgc:=h_ hgc;have H_hmx:=h_ hmx;clear hR hT hnt hnl hnh hmne hmxe hswe hCV hgc hmx
  go_enter Tryz.func4,Tryz.ntmps4
  go_wp2_with (first|(go_at_call 5;(with_reducible refine(begins18 _).mono ?_);rintro e0 w0 ⟨rfl,rfl⟩)|(go_at_call 11;(with_reducible refine(H_hgc.out _ (Vg.gro)).mono ?_);rintro e1 w1 ⟨rfl,rfl⟩))
  go_ret
  exact⟨rfl,Vg.gro⟩
 by_cases hhi:1099511627776<long
 ·clear h hck hqu
  have H_hR:=h_ hR;have H_hT:=h_ hT;have H_hnt:=h_ hnt;have H_hnl:=h_ hnl;have H_hnh:=h_ hnh;have H_hmne:=h_ hmne;have H_hmxe:=h_ hmxe;have H_hswe:=h_ hswe;have H_hCV:=h_ hCV;have H_hgc:=h_ hgc;have H_hmx:=h_ hmx;clear hR hT hnt hnl hnh hmne hmxe hswe hCV hgc hmx
  go_enter Tryz.func4,Tryz.ntmps4
  go_wp2_with (first|(go_at_call 5;(with_reducible refine(begins18 _).mono ?_);rintro e0 w0 ⟨rfl,rfl⟩)|(go_at_call 11;(with_reducible refine(H_hgc.out _ (Vg.gro)).mono ?_);rintro e1 w1 ⟨rfl,rfl⟩))
  go_ret
  exact⟨rfl,Vg.gro⟩
 by_cases hgd:Vg.Vt.good C
 ·have hqf:quietB C long=false:=by
   cases hq:quietB C long
   ·rfl
   ·exact absurd ⟨by omega,by omega,hgd,hq⟩ h
  have hc0:∀wz,Vg.Grows w wz->Calls Tryz.prog 12 #[.agg #[.int .i64 mn,.int .i64 mx,.int .i64 sw,.slice v.ta nt v.tc,.slice v.la nl v.lc,.slice v.ha nh v.hc]] wz fun e w'=>e=.returned (.int .i64 0)/\Vg.Grows wz w':=fun wz hg=>(hck wz hg).mono (by
   rintro e w' ⟨⟨r,rfl,h1⟩,h2⟩
   rcases h1 with⟨rfl,_⟩|⟨_,h1⟩
   ·exact⟨rfl,h2⟩
   ·exact absurd hgd h1)
  have hq0:∀wz,Vg.Grows w wz->Calls Tryz.prog 13 #[.agg #[.int .i64 mn,.int .i64 mx,.int .i64 sw,.slice v.ta nt v.tc,.slice v.la nl v.lc,.slice v.ha nh v.hc],.int .i64 long] wz fun e w'=>e=.returned (.bool false)/\Vg.Grows wz w':=fun wz hg=>(hqu wz hg hgd (by omega) (by omega)).mono (by
   rintro e w' ⟨h1,h2⟩
   rw[hqf]at h1
   exact⟨h1,h2⟩)
  clear h hck hqu
  have H_hR:=h_ hR;have H_hT:=h_ hT;have H_hnt:=h_ hnt;have H_hnl:=h_ hnl;have H_hnh:=h_ hnh;have H_hmne:=h_ hmne;have H_hmxe:=h_ hmxe;have H_hswe:=h_ hswe;have H_hCV:=h_ hCV;have H_hgc:=h_ hgc;have H_hmx:=h_ hmx;have H_hc0:=h_ hc0;have H_hq0:=h_ hq0;have H_hgd:=h_ hgd;have H_hqf:=h_ hqf;have H_b0:=h_ b0;clear hR hT hnt hnl hnh hmne hmxe hswe hCV hgc hmx hc0 hq0 hgd hqf b0
  go_enter Tryz.func4,Tryz.ntmps4
  go_wp2_with (first|(go_at_call 5;(with_reducible refine(begins18 _).mono ?_);rintro e0 w0 ⟨rfl,rfl⟩)|(go_at_call 11;(with_reducible refine(H_hgc.out _ (Vg.gro)).mono ?_);rintro e1 w1 ⟨rfl,rfl⟩)|(go_at_call 12;(with_reducible refine(H_hc0.out _ (Vg.gro)).mono ?_);rintro e2 w2 ⟨rfl,hg2⟩;have x2:=hg2.blk H_b0.out;have hg2:=Vg.Grows.trans (Vg.gro:Vg.Grows w _) hg2;obtain⟨c_x2,f_x2,p_x2,l_x2,H_x2⟩:=Vg.lay x2;clear x2)|(go_at_call 13;(with_reducible refine(H_hq0.out _ (Vg.gro)).mono ?_);rintro e3 w3 ⟨rfl,hg3⟩;have hg3:=Vg.Grows.trans (Vg.gro:Vg.Grows w _) hg3))
  go_ret
  exact⟨rfl,Vg.gro⟩
 ·have hc0:∀wz,Vg.Grows w wz->Calls Tryz.prog 12 #[.agg #[.int .i64 mn,.int .i64 mx,.int .i64 sw,.slice v.ta nt v.tc,.slice v.la nl v.lc,.slice v.ha nh v.hc]] wz fun e w'=>(∃r,e=.returned (.int .i64 r)/\r≠0)/\Vg.Grows wz w':=fun wz hg=>(hck wz hg).mono (by
   rintro e w' ⟨⟨r,rfl,h1⟩,h2⟩
   rcases h1 with⟨_,h1⟩|⟨h1,_⟩
   ·exact absurd h1 hgd
   ·exact⟨⟨r,rfl,h1⟩,h2⟩)
  clear h hck hqu
  have H_hR:=h_ hR;have H_hT:=h_ hT;have H_hnt:=h_ hnt;have H_hnl:=h_ hnl;have H_hnh:=h_ hnh;have H_hmne:=h_ hmne;have H_hmxe:=h_ hmxe;have H_hswe:=h_ hswe;have H_hCV:=h_ hCV;have H_hgc:=h_ hgc;have H_hmx:=h_ hmx;have H_hc0:=h_ hc0;have H_hgd:=h_ hgd;have H_b0:=h_ b0;clear hR hT hnt hnl hnh hmne hmxe hswe hCV hgc hmx hc0 hgd b0
  go_enter Tryz.func4,Tryz.ntmps4
  go_wp2_with (first|(go_at_call 5;(with_reducible refine(begins18 _).mono ?_);rintro e0 w0 ⟨rfl,rfl⟩)|(go_at_call 11;(with_reducible refine(H_hgc.out _ (Vg.gro)).mono ?_);rintro e1 w1 ⟨rfl,rfl⟩)|(go_at_call 12;(with_reducible refine(H_hc0.out _ (Vg.gro)).mono ?_);rintro e2 w2 ⟨⟨r,rfl,hr⟩,hg2⟩;have hg2:=Vg.Grows.trans (Vg.gro:Vg.Grows w _) hg2))
  go_ret
  exact⟨rfl,Vg.gro⟩
end Go.Proofs.YtlkdkgefjipjmaaGreatDoor
namespace Go.Proofs.YtlkdkgefjipjmaaGreatDoor
open Go.ChangeShapes Go.WideShapes Go.ChangeAt Go.RowKit
theorem tc_in (C:Vg.Cf) (v:Cv) (long:Int) (w:World) (hR:CR w C v) (hmx : -9223372036854775808<=C.mx) (hT:Vg.Tab w) (h0:0<=long) (h1:long<=1099511627776) (hgd:Vg.Vt.good C) (hqt:quietB C long=true) :
  Calls Tryz.prog 4 #[cfV C v,.int .i64 long] w fun e w'=>TcP w w' e:=by
 have hok:=Vg.Vt.good_ok hgd
 have hqs:=quietB_qs hqt
 have hgc:∀wz,Vg.Grows w wz->Calls Tryz.prog 11 #[.int .i64 12,.int .i64 18] wz fun e w'=>e=.returned (.tuple #[.int .i64 6,.int .i64 0])/\wz=w':=fun wz hg=>hg_gcd wz (hT.grows hg)
 have hck:∀wz,Vg.Grows w wz->Calls Tryz.prog 12 #[cfV C v] wz fun e w'=>e=.returned (.int .i64 0)/\Vg.Grows wz w':=fun wz hg=>(vet_check C v wz (hR.grows hg) hmx).mono (by
  rintro e w' ⟨⟨r,rfl,h1⟩,h2⟩
  rcases h1 with⟨rfl,_⟩|⟨_,h1⟩
  ·exact⟨rfl,h2⟩
  ·exact absurd hgd h1)
 have hqu:∀wz,Vg.Grows w wz->Calls Tryz.prog 13 #[cfV C v,.int .i64 long] wz fun e w'=>e=.returned (.bool true)/\Vg.Grows wz w':=fun wz hg=>(vt_quiet C v long wz (hR.grows hg) hgd h0 h1).mono (by
  rintro e w' ⟨h1,h2⟩
  rw[hqt]at h1
  exact⟨h1,h2⟩)
 have hpl:=fun wz gb (hg:Vg.Grows w wz) (hb:Vg.blk wz gb=some (.cells #[.int .u8 1,.int .i64 0,.int .i64 long,.int .i64 0] 54))=>pl_play C v long gb wz (hR.grows hg) hgd (hT.grows hg) h0 h1 hqs hb
 have hnth:=fun(i:Nat) (k:Int) wz (hg:Vg.Grows w wz) (hi:i<C.T.length) (hkd:C.T[i].kd=1) (hk:0<=k) (hk1:k*C.T[i].pe<=4503599627370496-C.T[i].og)=>
  hyp_nth C v i k wz (hR.grows hg) hgd hmx hi hkd (hok.tk _ (List.getElem_mem hi)).pe.1 (by have:=(hok.tk _ (List.getElem_mem hi)).pe;omega) (hok.tk _ (List.getElem_mem hi)).og.1 (by have:=(hok.tk _ (List.getElem_mem hi)).og;omega) hk hk1
 have hjob:=fun(i:Nat) (k:Int) wz (hg:Vg.Grows w wz) (hi:i<C.T.length) (hkd:C.T[i].kd=1) (hk:0<=k) (hk1:k<=4503599627370496)=>
  hyp_jobs C v i k wz (hR.grows hg) hgd hmx hi hkd (hok.tk _ (List.getElem_mem hi)).pe.1 (by have:=(hok.tk _ (List.getElem_mem hi)).pe;omega) (hok.tk _ (List.getElem_mem hi)).og.1 (by have:=(hok.tk _ (List.getElem_mem hi)).og;omega) hk hk1
 obtain⟨nt,hnt⟩:∃nt,C.T.length=nt:=⟨_,rfl⟩
 obtain⟨nl,hnl⟩:∃nl,C.L.length=nl:=⟨_,rfl⟩
 obtain⟨nh,hnh⟩:∃nh,C.H.length=nh:=⟨_,rfl⟩
 obtain⟨mn,hmne⟩:∃mn,C.mn=mn:=⟨_,rfl⟩
 obtain⟨mx,hmxe⟩:∃mx,C.mx=mx:=⟨_,rfl⟩
 obtain⟨sw,hswe⟩:∃sw,C.sw=sw:=⟨_,rfl⟩
 have hn32:nt<=32:=by rw[<-hnt];exact hok.nt.2
 have hn1:1<=nt:=by rw[<-hnt];exact hok.nt.1
 have hmn:1<=mn/\mn<2147483648:=by rw[<-hmne];have:=hok.tm;omega
 have hCV:cfV C v=.agg #[.int .i64 mn,.int .i64 mx,.int .i64 sw,.slice v.ta nt v.tc,.slice v.la nl v.lc,.slice v.ha nh v.hc]:=by simp only[cfV,hmne,hmxe,hswe,hnt,hnl,hnh]
 have htk:=(hR.1).1
 have htm:=(hR.1).2.1
 have htc:nt<=v.tc:=by rw[<-hnt];exact htk
 have htc2:v.tc<=9223372036854775807:=htm
 obtain⟨tg,off,hva,hgt,hcz⟩:=(hR.1).2.2 0 (by rw[hnt];omega)
 clear hcz
 rw[hCV,hva]at hck hqu hpl hnth hjob ⊢
 have b0:Vg.blk (w.alloc (.cells #[.int .i64 mn,.int .i64 mx,.int .i64 sw,.slice (some ⟨tg,off,none⟩) nt v.tc,.slice v.la nl v.lc,.slice v.ha nh v.hc] 30)) w.heap.size=some (.cells #[.int .i64 mn,.int .i64 mx,.int .i64 sw,.slice (some ⟨tg,off,none⟩) nt v.tc,.slice v.la nl v.lc,.slice v.ha nh v.hc] 30):=Vg.alloc_heap_at rfl
 have hll:¬long<0:=by omega
 have hlh:¬1099511627776<long:=by omega
 have H_hR:=h_ hR;have H_hgd:=h_ hgd;have H_hT:=h_ hT;have H_hok:=h_ hok;have H_hqs:=h_ hqs;have H_hqt:=h_ hqt;have H_hgc:=h_ hgc;have H_hck:=h_ hck;have H_hqu:=h_ hqu;have H_hpl:=h_ hpl;have H_hnth:=h_ hnth;have H_hjob:=h_ hjob;have H_hnt:=h_ hnt;have H_hnl:=h_ hnl;have H_hnh:=h_ hnh;have H_hmne:=h_ hmne;have H_hmxe:=h_ hmxe;have H_hswe:=h_ hswe;have H_hCV:=h_ hCV;have H_hva:=h_ hva;have H_htk:=h_ htk;have H_htm:=h_ htm;have H_b0:=h_ b0;have H_hmx:=h_ hmx;clear hR hgd hT hok hqs hqt hgc hck hqu hpl hnth hjob hnt hnl hnh hmne hmxe hswe hCV hva htk htm b0 hmx
 go_enter Tryz.func4,Tryz.ntmps4
 go_upto_region 7 with(first|(go_at_call 5;(with_reducible refine(begins18 _).mono ?_);rintro e0 w0 ⟨rfl,rfl⟩)|(go_at_call 11;(with_reducible refine(H_hgc.out _ (Vg.gro)).mono ?_);rintro e1 w1 ⟨rfl,rfl⟩)|(go_at_call 12;(with_reducible refine(H_hck.out _ (Vg.gro)).mono ?_);rintro e2 w2 ⟨rfl,hg2⟩;have x2:=hg2.blk H_b0.out;have hg2:=Vg.Grows.trans (Vg.gro:Vg.Grows w _) hg2;obtain⟨c_x2,f_x2,p_x2,l_x2,H_x2⟩:=Vg.lay x2;clear x2)|(go_at_call 13;(with_reducible refine(H_hqu.out _ (Vg.gro)).mono ?_);rintro e3 w3 ⟨rfl,hg3⟩;have x3:=hg3.blk H_x2.out;have hg3:=Vg.Grows.trans (Vg.gro:Vg.Grows w _) hg3;obtain⟨c_x3,f_x3,p_x3,l_x3,H_x3⟩:=Vg.lay x3;clear x3)|(go_at_call 14;(with_reducible refine(H_hpl.out _ _ (Vg.gro) (Vg.alloc_heap_at (by simp))).mono ?_);rintro e4 w4 ⟨g,q,ms,now,idle,ya,yc,za,zn,zc,rfl,hm4,hq4,hC4,hg4⟩;have x4:=hg4.blk ((Vg.gro:Vg.Grows w3 _).blk H_x3.out);have hg4:=Vg.Grows.trans (Vg.gro:Vg.Grows w _) hg4;obtain⟨c_x4,f_x4,p_x4,l_x4,H_x4⟩:=Vg.lay x4;clear x4;have H_hm4:=h_ hm4;have H_hq4:=h_ hq4;have H_hC4:=h_ hC4;clear hm4 hq4 hC4))
 have g6:Vg.Grows w4 (w4.alloc (.cells #[.slice (some ⟨g,0,none⟩) q q,.slice ya 1 yc,.slice za zn zc,.int .i64 idle,.int .i64 now] 49)):=(Vg.Grows.refl _).alloc _
 have p6:Vg.blk (w4.alloc (.cells #[.slice (some ⟨g,0,none⟩) q q,.slice ya 1 yc,.slice za zn zc,.int .i64 idle,.int .i64 now] 49)) w4.heap.size=some (.cells #[.slice (some ⟨g,0,none⟩) q q,.slice ya 1 yc,.slice za zn zc,.int .i64 idle,.int .i64 now] 49):=Vg.alloc_heap_at rfl
 generalize w4.alloc (.cells #[.slice (some ⟨g,0,none⟩) q q,.slice ya 1 yc,.slice za zn zc,.int .i64 idle,.int .i64 now] 49)=w6 at p6 g6 ⊢
 obtain⟨pb,hpb⟩:∃pb,w4.heap.size=pb:=⟨_,rfl⟩
 rw[hpb]at p6 ⊢
 have b6:=g6.blk H_x4.out
 have m6:=g6.blk H_hm4.out
 have hgw6:=hg4.trans g6
 have hnow:0<=now/\now<=long:=H_hC4.out.1
 have hq6:q<=60000:=by have:=H_hC4.out.2.1;rw[H_hq4.out]at this;exact this
 have hnlw:¬long<now:=by omega
 have hd1:decide (long<0)=false:=decide_eq_false (by omega)
 have hd2:decide (1099511627776<long)=false:=decide_eq_false (by omega)
 simp only[hd1,hd2,Bool.or_false]
 clear hg2 hg3 hg4 g6 hd1 hd2
 obtain⟨c_b6,f_b6,p_b6,l_b6,H_b6⟩:=Vg.lay b6;clear b6;obtain⟨c_p6,f_p6,p_p6,l_p6,H_p6⟩:=Vg.lay p6;clear p6
 have H_m6:=h_ m6;have H_hgw6:=h_ hgw6;have H_hpb:=h_ hpb;clear m6 hgw6 hpb
 go_wp2_with fail
 have hd3:decide (long<now)=false:=decide_eq_false (by omega)
 try simp only[hd3,Bool.or_false,Bool.false_or]
 clear hd3
 go_loopw [72] (fun i wr=>∃k:Nat,k<=nt/\i=.int .i64 k/\Vg.Grows w6 wr) (fun i _=>nt-(intOf i).toNat)
 case atStart=>exact⟨0,by omega,rfl,Vg.Grows.refl _⟩
 case round=>
  obtain⟨k,hk,rfl,hg⟩:=hrel
  by_cases hlt:k<nt
  ·have hkI:(k:Int)<nt:=by omega
   have hk0:(0:Int)<=k:=by omega
   have hkT:k<C.T.length:=by rw[H_hnt.out];exact hlt
   have hf:=H_hok.out.tk _ (List.getElem_mem hkT)
   have hnk:=fun kk wz hgz=>H_hnth.out k kk wz hgz hkT
   have hjk:=fun kk wz hgz=>H_hjob.out k kk wz hgz hkT
   have hco:=H_hC4.out.2.2 k hkT
   obtain⟨tg',off',hva',hg',hc⟩:=(H_hR.out.1.grows (H_hgw6.out.trans hg)).2.2 k hkT
   rw[H_hva.out]at hva'
   simp only[Option.some.injEq,Addr.mk.injEq,and_true]at hva'
   obtain⟨rfl,rfl⟩:=hva'
   obtain⟨⟨kd,pr,pe,og,dl,co,ro,lk,fo,tt⟩,htt⟩:∃t,C.T[k]=t:=⟨_,rfl⟩
   rw[htt]at hc hf hnk hjk hco
   simp only at hnk hjk hco
   have c0:=hc 0 (by decide)
   have c1:=hc 1 (by decide)
   have c2:=hc 2 (by decide)
   have c3:=hc 3 (by decide)
   have c4:=hc 4 (by decide)
   have c5:=hc 5 (by decide)
   have c6:=hc 6 (by decide)
   have c7:=hc 7 (by decide)
   have c8:=hc 8 (by decide)
   have c9:=hc 9 (by decide)
   simp only[Vg.tkcell,Nat.add_zero]at c0 c1 c2 c3 c4 c5 c6 c7 c8 c9
   clear hc
   have hpe:=hf.pe
   have hog:=hf.og
   have hkdc:kd=1\/kd=2:=hf.kd
   simp only at hpe hog
   clear hf
   have b7:=hg.blk H_b6.out
   have p7:=hg.blk H_p6.out
   have m7:=hg.blk H_m6.out
   rcases hkdc with hkd|hkd
   ·subst hkd
    obtain⟨c,hcm,hcx,hcn⟩:=hco rfl
    rw[H_hmne.out]at hcn
    obtain⟨u1,u2,u3⟩:=Vg.came_all (mn:=mn) (now:=now) hpe.1 hog.1 hcm hcx hcn
    obtain⟨c_b7,f_b7,p_b7,l_b7,H_b7⟩:=Vg.lay b7;clear b7;obtain⟨c_p7,f_p7,p_p7,l_p7,H_p7⟩:=Vg.lay p7;clear p7
    have H_m7:=h_ m7;have H_hg:=h_ hg;have H_hnk:=h_ hnk;have H_hjk:=h_ hjk;have H_hcm:=h_ hcm;have H_hcx:=h_ hcx;have H_hcn:=h_ hcn;have H_htt:=h_ htt;have H_u1:=h_ u1;have H_u2:=h_ u2;have H_u3:=h_ u3;have H_hco:=h_ hco;clear m7 hg hnk hjk hcm hcx hcn htt u1 u2 u3 hco
    go_wp2_with fail
    have g8:Vg.Grows w6 (wr.alloc (.cells #[.int .u8 1,.int .i64 pr,.int .i64 pe,.int .i64 og,.int .i64 dl,.int .i64 co,.int .i64 ro,.int .i64 lk,.int .i64 fo,.int .i64 tt] 57)):=H_hg.out.alloc _
    have g9:Vg.Grows wr (wr.alloc (.cells #[.int .u8 1,.int .i64 pr,.int .i64 pe,.int .i64 og,.int .i64 dl,.int .i64 co,.int .i64 ro,.int .i64 lk,.int .i64 fo,.int .i64 tt] 57)):=(Vg.Grows.refl _).alloc _
    have s9:=g9.size
    have t9:Vg.blk (wr.alloc (.cells #[.int .u8 1,.int .i64 pr,.int .i64 pe,.int .i64 og,.int .i64 dl,.int .i64 co,.int .i64 ro,.int .i64 lk,.int .i64 fo,.int .i64 tt] 57)) wr.heap.size=some (.cells #[.int .u8 1,.int .i64 pr,.int .i64 pe,.int .i64 og,.int .i64 dl,.int .i64 co,.int .i64 ro,.int .i64 lk,.int .i64 fo,.int .i64 tt] 57):=Vg.alloc_heap_at rfl
    obtain⟨tb,htb⟩:∃tb,wr.heap.size=tb:=⟨_,rfl⟩
    rw[htb]at t9 ⊢
    generalize wr.alloc (.cells #[.int .u8 1,.int .i64 pr,.int .i64 pe,.int .i64 og,.int .i64 dl,.int .i64 co,.int .i64 ro,.int .i64 lk,.int .i64 fo,.int .i64 tt] 57)=w7 at g8 g9 s9 t9 ⊢
    have b9:=g9.blk H_b7.out
    have p9:=g9.blk H_p7.out
    have m9:=g9.blk H_m7.out
    have H_g8:=h_ g8;have H_g9:=h_ g9;have H_b9:=h_ b9;have H_p9:=h_ p9;have H_m9:=h_ m9;have H_t9:=h_ t9;have H_htb:=h_ htb;clear g8 g9 b9 p9 m9 t9 htb
    go_loopw [11,83] (fun kc i wr=>∃j:Nat,j<=q/\i=.int .i64 j/\kc=.int .i64 ((Vg.came k (ms.take j)).length:Int)/\Vg.Grows w7 wr) (fun _ i _=>q-(intOf i).toNat)
    case atStart=>exact⟨0,by omega,rfl,rfl,Vg.Grows.refl _⟩
    case round=>
     obtain⟨j,hj,rfl,rfl,hg7⟩:=hrel
     have b8:=hg7.blk H_b9.out
     have p8:=hg7.blk H_p9.out
     have m8:=hg7.blk H_m9.out
     by_cases hjl:j<q
     ·have hjI:(j:Int)<q:=by omega
      have hj0:(0:Int)<=j:=by omega
      have hjm:j<ms.length:=by rw[H_hq4.out];exact hjl
      have hmk:=Vg.mk_at ms j hjm
      have hct:=Vg.came_take k hjm
      have hca:=fun hc=>Vg.came_at (i:=k) hjm hc H_hcm.out
      have hcl:=Vg.came_len k (ms.take j)
      rw[List.length_take]at hcl
      obtain⟨⟨mt,mk,mw,ma⟩,hmm⟩:∃m,ms[j]=m:=⟨_,rfl⟩
      rw[hmm]at hmk hct hca
      obtain⟨n,hn⟩:∃n,(Vg.came k (ms.take j)).length=n:=⟨_,rfl⟩
      rw[hn]at hca hcl ⊢
      simp only at hmk hca
      have hn6:n<=60000:=by omega
      have d0:wr.cell? ⟨g,j*4,none⟩=some (.int .i64 mt):=by rw[Vg.cells_of m8];simpa using hmk.1
      have d1:wr.cell? ⟨g,j*4+1,none⟩=some (.int .u8 mk):=by rw[Vg.cells_of m8];simpa using hmk.2.1
      have d2:wr.cell? ⟨g,j*4+2,none⟩=some (.int .i64 mw):=by rw[Vg.cells_of m8];simpa using hmk.2.2.1
      have d3:wr.cell? ⟨g,j*4+3,none⟩=some (.int .i64 ma):=by rw[Vg.cells_of m8];simpa using hmk.2.2.2
      have y8:Vg.blk (wr.alloc (.cells #[.int .i64 mt,.int .u8 mk,.int .i64 mw,.int .i64 ma] 60)) wr.heap.size=some (.cells #[.int .i64 mt,.int .u8 mk,.int .i64 mw,.int .i64 ma] 60):=Vg.alloc_heap_at rfl
      have lg8:=Vg.lt_of m8
      by_cases hmt:Vg.cameP k ⟨mt,mk,mw,ma⟩=true
      ·obtain⟨e1,e2⟩:=hca hmt
       have e3:=H_hcx.out _ e2
       rw[if_pos hmt]at hct
       have hcj:((Vg.came k (ms.take (j+1))).length:Int)=n+1:=by rw[hct,List.length_append,hn];simp
       have hnn:∀wz,Vg.Grows w6 wz->_:=fun wz hgz=>H_hnk.out n wz (H_hgw6.out.trans hgz) trivial (by omega) (by omega)
       rw[<-e1]at hnn
       have hwn:IntKind.i64.wrap ((n:Int)+1)=n+1:=by rw[IntKind.wrap_i64];omega
       unfold Vg.cameP at hmt
       simp only[Bool.and_eq_true,Bool.or_eq_true,decide_eq_true_eq]at hmt
       obtain⟨hmw,hmk2⟩:=hmt
       subst hmw
       have hgw7:=H_g8.out.trans hg7
       clear hmk hct hca
       obtain⟨c_b8,f_b8,p_b8,l_b8,H_b8⟩:=Vg.lay b8;clear b8;obtain⟨c_p8,f_p8,p_p8,l_p8,H_p8⟩:=Vg.lay p8;clear p8
       have H_hcj:=h_ hcj;have H_hnn:=h_ hnn;have H_m8:=h_ m8;have H_hg7:=h_ hg7;have H_hmm:=h_ hmm;have H_hn:=h_ hn;have H_e1:=h_ e1;have H_e2:=h_ e2;have H_y8:=h_ y8;have H_hgw7:=h_ hgw7;clear hcj hnn m8 hg7 hmm hn e1 e2 y8 hgw7
       rcases hmk2 with hmk2|hmk2
       all_goals
        subst hmk2
        go_wp2_with ((go_at_call 15;(with_reducible refine(H_hnn.out _ (by have q:=H_hgw7.out;exact Vg.gro)).mono ?_);rintro e9 w9 ⟨rfl,hg9⟩;have y9:=hg9.blk H_y8.out;have hg9:=Vg.Grows.trans (Vg.gro:Vg.Grows wr _) hg9;obtain⟨c_y9,f_y9,p_y9,l_y9,H_y9⟩:=Vg.lay y9;clear y9))
        go_roundw
        case rel=>exact⟨j+1,by omega,by go_num,by rw[H_hcj.out],H_hg7.out.trans (Vg.gro)⟩
        case measure=>simp[intOf];omega
      ·have hcj:((Vg.came k (ms.take (j+1))).length:Int)=n:=by rw[hct,if_neg hmt,List.append_nil,hn]
       have hne:¬mw=(k:Int)\/(mw=(k:Int)/\¬mk=1/\¬mk=3):=by
        by_cases h:mw=(k:Int)
        ·refine .inr ⟨h,?_,?_⟩
         ·rintro rfl;exact hmt (by unfold Vg.cameP;simp[h])
         ·rintro rfl;exact hmt (by unfold Vg.cameP;simp[h])
        ·exact .inl h
       clear hmk hct hca hmt
       obtain⟨c_b8,f_b8,p_b8,l_b8,H_b8⟩:=Vg.lay b8;clear b8;obtain⟨c_p8,f_p8,p_p8,l_p8,H_p8⟩:=Vg.lay p8;clear p8
       have H_hcj:=h_ hcj;have H_m8:=h_ m8;have H_hg7:=h_ hg7;have H_hmm:=h_ hmm;have H_hn:=h_ hn;have H_y8:=h_ y8;clear hcj m8 hg7 hmm hn y8
       rcases hne with hne|⟨hne,hne1,hne3⟩
       ·have hnb:(mw != (k:Int))=true:=by simpa using hne
        have hnd:(mw==(k:Int))=false:=by simpa using hne
        have hnc:decide (mw=(k:Int))=false:=by simpa using hne
        go_wp2
        go_roundw
        case rel=>exact⟨j+1,by omega,by go_num,by rw[H_hcj.out],by have q:=H_hg7.out;exact Vg.gro⟩
        case measure=>simp[intOf];omega
       ·have hnb1:(mk != 1)=true:=by simpa using hne1
        have hnb3:(mk != 3)=true:=by simpa using hne3
        subst hne
        go_wp2
        go_roundw
        case rel=>exact⟨j+1,by omega,by go_num,by rw[H_hcj.out],by have q:=H_hg7.out;exact Vg.gro⟩
        case measure=>simp[intOf];omega
     ·have hje:j=q:=by omega
      subst hje
      have hcc:(Vg.came k (ms.take j)).length=c:=by rw[<-H_hq4.out,List.take_length,H_u1.out]
      rw[hcc]
      clear hcc
      have hgw7:=H_g8.out.trans hg7
      have hjb:∀(e:Int),0<=e->e<=4503599627370496->∀wz,Vg.Grows w6 wz->_:=fun e he he1 wz hgz=>H_hjk.out e wz (H_hgw6.out.trans hgz) trivial he he1
      have hw1:IntKind.i64.wrap (now+1)=now+1:=by rw[IntKind.wrap_i64];omega
      have hw2:IntKind.i64.wrap (now+1-mn)=now+1-mn:=by rw[IntKind.wrap_i64];omega
      have v2:=H_u2.out
      have v3:=H_u3.out
      by_cases hmx0:now+1-mn<0
      ·have hmz:max (now+1-mn) 0=0:=by omega
       rw[hmz]at v3
       have hj1:=hjb (now+1) (by omega) (by omega)
       have hj2:=hjb 0 (by omega) (by omega)
       obtain⟨z1,hz1⟩:∃z,Vg.ahd og pe (now+1)=z:=⟨_,rfl⟩
       obtain⟨z2,hz2⟩:∃z,Vg.ahd og pe 0=z:=⟨_,rfl⟩
       have v2':(c:Int)<=z1:=by rw[<-hz1];exact v2
       have v3':z2<=c:=by rw[<-hz2];exact v3
       rw[hz1]at hj1
       rw[hz2]at hj2
       clear hjb v2 v3
       have n1:¬z1<(c:Int):=by omega
       have n2:¬(c:Int)<z2:=by omega
       obtain⟨c_b8,f_b8,p_b8,l_b8,H_b8⟩:=Vg.lay b8;clear b8;obtain⟨c_p8,f_p8,p_p8,l_p8,H_p8⟩:=Vg.lay p8;clear p8
       have H_hj1:=h_ hj1;have H_hj2:=h_ hj2;have H_hgw7:=h_ hgw7;have H_hz1:=h_ hz1;have H_hz2:=h_ hz2;have H_m8:=h_ m8;have H_hg7:=h_ hg7;clear hj1 hj2 hgw7 hz1 hz2 m8 hg7
       go_wp2_with (first|(go_at_call 16;(with_reducible refine(H_hj1.out _ (by have q:=H_hgw7.out;exact Vg.gro)).mono ?_);rintro e9 w9 ⟨rfl,hg9⟩;have b9:=hg9.blk H_b8.out;have p9:=hg9.blk H_p8.out;have hg9:=Vg.Grows.trans (Vg.gro:Vg.Grows wr _) hg9;have hg9:=H_hgw7.out.trans hg9;obtain⟨c_b9,f_b9,p_b9,l_b9,H_b9⟩:=Vg.lay b9;clear b9;obtain⟨c_p9,f_p9,p_p9,l_p9,H_p9⟩:=Vg.lay p9;clear p9)|(go_at_call 16;(with_reducible refine(H_hj2.out _ (Vg.gro)).mono ?_);rintro e10 w10 ⟨rfl,hg10⟩;have hg10:=Vg.Grows.trans (Vg.gro:Vg.Grows w6 _) hg10))
       go_roundw
       case rel=>exact⟨k+1,by omega,by go_num,Vg.gro⟩
       case measure=>simp[intOf];omega
      ·have hmz:max (now+1-mn) 0=now+1-mn:=by omega
       rw[hmz]at v3
       have hj1:=hjb (now+1) (by omega) (by omega)
       have hj2:=hjb (now+1-mn) (by omega) (by omega)
       obtain⟨z1,hz1⟩:∃z,Vg.ahd og pe (now+1)=z:=⟨_,rfl⟩
       obtain⟨z2,hz2⟩:∃z,Vg.ahd og pe (now+1-mn)=z:=⟨_,rfl⟩
       have v2':(c:Int)<=z1:=by rw[<-hz1];exact v2
       have v3':z2<=c:=by rw[<-hz2];exact v3
       rw[hz1]at hj1
       rw[hz2]at hj2
       clear hjb v2 v3
       have n1:¬z1<(c:Int):=by omega
       have n2:¬(c:Int)<z2:=by omega
       obtain⟨c_b8,f_b8,p_b8,l_b8,H_b8⟩:=Vg.lay b8;clear b8;obtain⟨c_p8,f_p8,p_p8,l_p8,H_p8⟩:=Vg.lay p8;clear p8
       have H_hj1:=h_ hj1;have H_hj2:=h_ hj2;have H_hgw7:=h_ hgw7;have H_hz1:=h_ hz1;have H_hz2:=h_ hz2;have H_m8:=h_ m8;have H_hg7:=h_ hg7;clear hj1 hj2 hgw7 hz1 hz2 m8 hg7
       go_wp2_with (first|(go_at_call 16;(with_reducible refine(H_hj1.out _ (by have q:=H_hgw7.out;exact Vg.gro)).mono ?_);rintro e9 w9 ⟨rfl,hg9⟩;have b9:=hg9.blk H_b8.out;have p9:=hg9.blk H_p8.out;have hg9:=Vg.Grows.trans (Vg.gro:Vg.Grows wr _) hg9;have hg9:=H_hgw7.out.trans hg9;obtain⟨c_b9,f_b9,p_b9,l_b9,H_b9⟩:=Vg.lay b9;clear b9;obtain⟨c_p9,f_p9,p_p9,l_p9,H_p9⟩:=Vg.lay p9;clear p9)|(go_at_call 16;(with_reducible refine(H_hj2.out _ (Vg.gro)).mono ?_);rintro e10 w10 ⟨rfl,hg10⟩;have hg10:=Vg.Grows.trans (Vg.gro:Vg.Grows w6 _) hg10))
       go_roundw
       case rel=>exact⟨k+1,by omega,by go_num,Vg.gro⟩
       case measure=>simp[intOf];omega
   ·subst hkd
    obtain⟨c_b7,f_b7,p_b7,l_b7,H_b7⟩:=Vg.lay b7;clear b7;obtain⟨c_p7,f_p7,p_p7,l_p7,H_p7⟩:=Vg.lay p7;clear p7
    have H_m7:=h_ m7;have H_hg:=h_ hg;have H_hnk:=h_ hnk;have H_hjk:=h_ hjk;have H_htt:=h_ htt;have H_hco:=h_ hco;clear m7 hg hnk hjk htt hco
    go_wp2_with fail
    go_roundw
    case rel=>exact⟨k+1,by omega,by go_num,by have q:=H_hg.out;exact Vg.gro⟩
    case measure=>simp[intOf];omega
  ·go_wp2_with fail
   go_ret
   exact⟨rfl,H_hgw6.out.trans hg⟩
end Go.Proofs.YtlkdkgefjipjmaaGreatDoor
namespace Go.Proofs.YtlkdkgefjipjmaaGreatDoor
open Go.ChangeShapes Go.WideShapes Go.ChangeAt Go.RowKit
theorem TopComes_walk(C:Vg.Cf)(v:Cv)(long:Int)(w:World)(hR:CR w C v)(hmx : -9223372036854775808<=C.mx)(hT:Vg.Tab w):
  Calls Tryz.prog 4 #[cfV C v,.int .i64 long] w fun e w'=>TcP w w' e:=by
 by_cases h:0<=long/\long<=1099511627776/\Vg.Vt.good C/\quietB C long=true
 ·exact tc_in C v long w hR hmx hT h.1 h.2.1 h.2.2.1 h.2.2.2
 ·exact tc_out C v long w hR hmx hT h
theorem TopComes_walk'(mn mx sw long:Int)(ta la ha:Option Addr)(nt tc nl lc nh hc:Nat)(D E F:Nat->Nat->Int)(w:World)(hmx : -9223372036854775808<=mx)(hT:Vg.Tab w)
  (r0:Vg.intRows w [.u8,.i64,.i64,.i64,.i64,.i64,.i64,.i64,.i64,.i64] ta nt tc D)(r1:Vg.intRows w [.i64,.i64,.i64,.i64] la nl lc E)(r2:Vg.intRows w [.i64,.i64,.i64,.i64] ha nh hc F):
  Calls Tryz.prog 4 #[.agg #[.int .i64 mn,.int .i64 mx,.int .i64 sw,.slice ta nt tc,.slice la nl lc,.slice ha nh hc],.int .i64 long] w fun e w'=>e=.returned (.bool true)/\Vg.Grows w w':=by
 have h:=TopComes_walk ⟨mn,mx,sw,Vg.tksOf D nt,Vg.linsOf E nl,Vg.thsOf F nh⟩ ⟨ta,tc,la,lc,ha,hc⟩ long w ⟨Vg.TK.of_rows r0,Vg.LR.of_rows r1,Vg.TR.of_rows r2⟩ hmx hT
 simp only[cfV,Vg.tksOf_len,Vg.linsOf_len,Vg.thsOf_len]at h
 exact h
end Go.Proofs.YtlkdkgefjipjmaaGreatDoor
