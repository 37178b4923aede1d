/- Hyp, HypB (put together). -/
import Derived.Test.YtlkdkgefjipjmaaGreatDoorP38
import Derived.Test.YtlkdkgefjipjmaaGreatDoorQ0
import Derived.OrdersHeld
import Derived.WalkKit
import Derived.Deep.RegionHeld
import Derived.Lib.Hide
import Derived.RowKit
set_option linter.all false
set_option maxHeartbeats 40000000
set_option maxRecDepth 100000
namespace Go.Proofs.YtlkdkgefjipjmaaGreatDoor
open Go.ChangeShapes Go.WideShapes Go.ChangeAt Go.RowKit
theorem hyp_time(t:Int)(w:World)(h0:0<=t)(h1:t<=4503599627370496):Calls Tryz.prog 33 #[.int .i64 t] w fun e w'=>e=.returned (.bool true)/\w=w':=by
 go_enter Tryz.func33,Tryz.ntmps33
 go_wp2
 go_ret
 exact⟨by simp[h1],rfl⟩
theorem hyp_open(C:Vg.Cf)(v:Cv)(i:Nat)(ks:List Int)(g m:Nat)(w:World)(hR:CR w C v)(hgd:Vg.Vt.good C)(hmx : -9223372036854775808<=C.mx)(hi:i<C.T.length)(hk:C.T[i].kd=1)(hb:Vg.blk w g=some (.cells (Vg.ics ks).toArray 2))(hr:∀k∈ks,0<=k/\k<=4503599627370496)(hn:ks.length=m)(hm:m<=4):
  Calls Tryz.prog 39 #[cfV C v,.int .i64 i,.slice (some ⟨g,0,none⟩) m m] w fun e w'=>e=.returned (.tuple #[tkV C.T[i],.int .i64 0])/\Vg.Grows w w':=by
 obtain⟨nt,hnt⟩:∃nt,C.T.length=nt:=⟨_,rfl⟩
 obtain⟨nl,hnl⟩:∃nl,C.L.length=nl:=⟨_,rfl⟩
 obtain⟨nh,hnh⟩:∃nh,C.H.length=nh:=⟨_,rfl⟩
 obtain⟨mn,hmne⟩:∃mn,C.mn=mn:=⟨_,rfl⟩
 obtain⟨mx,hmxe⟩:∃mx,C.mx=mx:=⟨_,rfl⟩
 obtain⟨sw,hswe⟩:∃sw,C.sw=sw:=⟨_,rfl⟩
 have hck:∀wz,Vg.Grows w wz->Calls Tryz.prog 12 #[cfV C v] wz fun e w'=>e=.returned (.int .i64 0)/\Vg.Grows wz w':=fun wz hw=>by
  refine(vet_check C v wz (hR.grows hw) hmx).mono ?_
  rintro e w' ⟨⟨r,rfl,h1⟩,h2⟩
  rcases h1 with⟨rfl,_⟩|⟨_,h1⟩
  ·exact⟨rfl,h2⟩
  ·exact absurd hgd h1
 have hCV:cfV C v=.agg #[.int .i64 mn,.int .i64 mx,.int .i64 sw,.slice v.ta nt v.tc,.slice v.la nl v.lc,.slice v.ha nh v.hc]:=by simp only[cfV,hmne,hmxe,hswe,hnt,hnl,hnh]
 rw[hCV]at hck ⊢
 have htk:=(hR.1).1
 have htm:=(hR.1).2.1
 obtain⟨⟨kd,pr,pe,og,dl,co,ro,lk,fo,tt⟩,htt⟩:∃t,C.T[i]=t:=⟨_,rfl⟩
 rw[htt]at hk ⊢
 simp only at hk
 have hkd:kd=1:=hk
 have htc:nt<=v.tc:=by rw[<-hnt];exact htk
 have htc2:v.tc<=9223372036854775807:=htm
 have hin:(i:Int)<nt:=by omega
 have hi0:¬(i:Int)<0:=by omega
 have hin2:¬(nt:Int)<=i:=by omega
 have hgl:=Vg.lt_of hb
 have x0:Vg.blk ((w.alloc (.cells #[.int .i64 mn,.int .i64 mx,.int .i64 sw,.slice v.ta nt v.tc,.slice v.la nl v.lc,.slice v.ha nh v.hc] 30)).alloc (.cells #[.int .u8 0,.int .i64 0,.int .i64 0,.int .i64 0,.int .i64 0,.int .i64 0,.int .i64 0,.int .i64 0,.int .i64 0,.int .i64 0] 57)) w.heap.size=some (.cells #[.int .i64 mn,.int .i64 mx,.int .i64 sw,.slice v.ta nt v.tc,.slice v.la nl v.lc,.slice v.ha nh v.hc] 30):=(Vg.alloc_heap_past (by simp)).trans (Vg.alloc_heap_at rfl)
 have y0:Vg.blk ((w.alloc (.cells #[.int .i64 mn,.int .i64 mx,.int .i64 sw,.slice v.ta nt v.tc,.slice v.la nl v.lc,.slice v.ha nh v.hc] 30)).alloc (.cells #[.int .u8 0,.int .i64 0,.int .i64 0,.int .i64 0,.int .i64 0,.int .i64 0,.int .i64 0,.int .i64 0,.int .i64 0,.int .i64 0] 57)) (w.heap.size+1)=some (.cells #[.int .u8 0,.int .i64 0,.int .i64 0,.int .i64 0,.int .i64 0,.int .i64 0,.int .i64 0,.int .i64 0,.int .i64 0,.int .i64 0] 57):=Vg.alloc_heap_at (by simp)
 have H_hR:=h_ hR;have H_hgd:=h_ hgd;have H_hmx:=h_ hmx;have H_hnt:=h_ hnt;have H_hnl:=h_ hnl;have H_hnh:=h_ hnh;have H_hmne:=h_ hmne;have H_hmxe:=h_ hmxe;have H_hswe:=h_ hswe;have H_hCV:=h_ hCV;have H_hck:=h_ hck;have H_hb:=h_ hb;have H_hr:=h_ hr;have H_hn:=h_ hn;have H_x0:=h_ x0;have H_y0:=h_ y0;have H_htk:=h_ htk;have H_htm:=h_ htm;have H_htt:=h_ htt;clear hR hgd hmx hnt hnl hnh hmne hmxe hswe hCV hck hb hr hn x0 y0 htk htm htt
 go_enter Tryz.func39,Tryz.ntmps39
 go_wp2_with ((go_at_call 12;(with_reducible refine(H_hck.out _ (Vg.gro)).mono ?_);rintro e1 w1 ⟨rfl,hg1⟩;have x1:=hg1.blk H_x0.out;have y1:=hg1.blk H_y0.out;have hgw1:=Vg.Grows.trans (Vg.gro:Vg.Grows w _) hg1;obtain⟨c_x1,f_x1,p_x1,l_x1,H_x1⟩:=Vg.lay x1;clear x1;obtain⟨c_y1,f_y1,p_y1,l_y1,H_y1⟩:=Vg.lay y1;clear y1;have H_hg1:=h_ hg1;have H_hgw1:=h_ hgw1;clear hg1 hgw1))
 have hd1:decide ((i:Int)<0)=false:=by simp
 have hd2:decide (nt<=i)=false:=by simp;omega
 simp only[hd1,hd2,Bool.or_false,Bool.false_or]
 go_loopw [29] (fun j wr=>∃q:Nat,q<=m/\j=.int .i64 q/\w1=wr) (fun j _=>m-(intOf j).toNat)
 case atStart=>exact⟨0,by omega,rfl,rfl⟩
 case round=>
  obtain⟨q,hq,rfl,hw⟩:=hrel
  subst hw
  by_cases hlt:q<m
  ·have hqI:(q:Int)<m:=by omega
   have hqk:q<ks.length:=by rw[H_hn.out];exact hlt
   obtain⟨k,hke⟩:∃k,ks[q]=k:=⟨_,rfl⟩
   have hkr:=H_hr.out k (by rw[<-hke];exact List.getElem_mem hqk)
   have cq:w1.cell? ⟨g,q,none⟩=some (.int .i64 k):=by
    rw[Vg.cells_of (H_hgw1.out.blk H_hb.out)]
    simp[Vg.ics,hqk,hke]
   have hq0:(0:Int)<=q:=by omega
   have H_hke:=h_ hke;clear hke
   go_wp2_with ((go_at_call 33;(with_reducible refine(hyp_time k _ hkr.1 hkr.2).mono ?_);rintro e2 w2 ⟨rfl,rfl⟩))
   go_roundw
   case rel=>
    exact⟨q+1,by omega,by go_num,trivial⟩
   case measure=>simp[intOf];omega
  ·have hqe:q=m:=by omega
   subst hqe
   obtain⟨tg,off,hva,hg,hc⟩:=(H_hR.out.1.grows H_hgw1.out).2.2 i hi
   rw[H_htt.out]at hc
   have c0:=hc 0 (by decide)
   have c1:=hc 1 (by decide)
   have c2:=hc 2 (by decide)
   have c3:=hc 3 (by decide)
   have c4:=hc 4 (by decide)
   have c5:=hc 5 (by decide)
   have c6:=hc 6 (by decide)
   have c7:=hc 7 (by decide)
   have c8:=hc 8 (by decide)
   have c9:=hc 9 (by decide)
   simp only[Vg.tkcell,Nat.add_zero]at c0 c1 c2 c3 c4 c5 c6 c7 c8 c9
   clear hc
   have x2:=H_x1.out
   clear c_x1 f_x1 p_x1
   rw[hva]at x2
   have hi1:(0:Int)<=i:=by omega
   obtain⟨c_x2,f_x2,p_x2,l_x2,H_x2⟩:=Vg.lay x2;clear x2
   go_wp2_with fail
   have hbz:Vg.blk (Vg.put w1 (w.heap.size+1) (.cells #[.int .u8 1,.int .i64 pr,.int .i64 pe,.int .i64 og,.int .i64 dl,.int .i64 co,.int .i64 ro,.int .i64 lk,.int .i64 fo,.int .i64 tt] 57)) (w.heap.size+1)=some (.cells #[.int .u8 1,.int .i64 pr,.int .i64 pe,.int .i64 og,.int .i64 dl,.int .i64 co,.int .i64 ro,.int .i64 lk,.int .i64 fo,.int .i64 tt] 57):=Vg.blk_put_same l_y1
   have hcz:=Vg.cells_of hbz
   have hfz:=Vg.frozen_of hbz
   refine bodyPost_ret (by simp[results,Tryz.results39,go_sem,hcz,hfz]<;>try rfl) rfl ?_
   refine⟨by subst hkd;rfl,?_⟩
   exact Vg.Grows.put H_hgw1.out (by omega) _
end Go.Proofs.YtlkdkgefjipjmaaGreatDoor
namespace Vg
open Go
def ahd(o p e:Int):Int:=(max (e-o) 0+p-1)/p
theorem ahd_nonneg{o p e:Int}(hp:1<=p):0<=ahd o p e:=Int.ediv_nonneg (by omega) (by omega)
theorem ahd_le{o p e:Int}(hp:1<=p)(ho:0<=o)(he:0<=e):ahd o p e<=e+p:=Int.le_trans (Int.ediv_le_self _ (by omega)) (by omega)
theorem ahd_zero{o p:Int}(hp:1<=p)(ho:0<=o):ahd o p 0=0:=Int.ediv_eq_zero_of_lt (by omega) (by omega)
end Vg
namespace Go.Proofs.YtlkdkgefjipjmaaGreatDoor
open Go.ChangeShapes Go.WideShapes Go.ChangeAt Go.RowKit
theorem hyp_ahead(kd pr pe og dl co ro lk fo tt e:Int)(w:World)(hpe:1<=pe)(hpe1:pe<=4503599627370496)(hog:0<=og)(hog1:og<=4503599627370496)(he:0<=e)(he1:e<=4503599627370496):
  Calls Tryz.prog 40 #[.agg #[.int .u8 kd,.int .i64 pr,.int .i64 pe,.int .i64 og,.int .i64 dl,.int .i64 co,.int .i64 ro,.int .i64 lk,.int .i64 fo,.int .i64 tt],.int .i64 e] w fun r w'=>r=.returned (.int .i64 (Vg.ahd og pe e))/\Vg.Grows w w':=by
 have e1:IntKind.i64.wrap (e-og)=e-og:=by rw[IntKind.wrap_i64];omega
 obtain⟨m,hm⟩:∃m,max (e-og) 0=m:=⟨_,rfl⟩
 have e2:IntKind.i64.wrap (m+pe)=m+pe:=by rw[IntKind.wrap_i64];omega
 have e3:IntKind.i64.wrap (m+pe-1)=m+pe-1:=by rw[IntKind.wrap_i64];omega
 have hq:(m+pe-1).tdiv pe=(m+pe-1)/pe:=Int.tdiv_eq_ediv_of_nonneg (by omega)
 have hd0:0<=(m+pe-1)/pe:=Int.ediv_nonneg (by omega) (by omega)
 have hd1:(m+pe-1)/pe<=m+pe-1:=Int.ediv_le_self _ (by omega)
 have hw:wrap64 ((m+pe-1)/pe)=(m+pe-1)/pe:=by unfold wrap64;omega
 have hA:Vg.ahd og pe e=(m+pe-1)/pe:=by unfold Vg.ahd;rw[hm]
 rw[hA]
 clear hA
 go_enter Tryz.func40,Tryz.ntmps40
 go_wp2
 ·have:m=0:=by omega
  subst this
  go_returns
  exact⟨by simp,Vg.gro⟩
 ·have:m=e-og:=by omega
  subst this
  go_returns
  exact⟨rfl,Vg.gro⟩
theorem hyp_nth(C:Vg.Cf)(v:Cv)(i:Nat)(k:Int)(w:World)(hR:CR w C v)(hgd:Vg.Vt.good C)(hmx : -9223372036854775808<=C.mx)(hi:i<C.T.length)(hkd:C.T[i].kd=1)(hpe:1<=C.T[i].pe)(hpe1:C.T[i].pe<=4503599627370496)(hog:0<=C.T[i].og)(hog1:C.T[i].og<=4503599627370496)(hk:0<=k)(hk1:k*C.T[i].pe<=4503599627370496-C.T[i].og):
  Calls Tryz.prog 15 #[cfV C v,.int .i64 i,.int .i64 k] w fun e w'=>e=.returned (.tuple #[.int .i64 (C.T[i].og+k*C.T[i].pe),.int .i64 0])/\Vg.Grows w w':=by
 have hkM:k<=4503599627370496:=by
  have:k*1<=k*C.T[i].pe:=Int.mul_le_mul_of_nonneg_left hpe hk
  omega
 obtain⟨nt,hnt⟩:∃nt,C.T.length=nt:=⟨_,rfl⟩
 obtain⟨nl,hnl⟩:∃nl,C.L.length=nl:=⟨_,rfl⟩
 obtain⟨nh,hnh⟩:∃nh,C.H.length=nh:=⟨_,rfl⟩
 obtain⟨mn,hmne⟩:∃mn,C.mn=mn:=⟨_,rfl⟩
 obtain⟨mx,hmxe⟩:∃mx,C.mx=mx:=⟨_,rfl⟩
 obtain⟨sw,hswe⟩:∃sw,C.sw=sw:=⟨_,rfl⟩
 obtain⟨⟨kd,pr,pe,og,dl,co,ro,lk,fo,tt⟩,htt⟩:∃t,C.T[i]=t:=⟨_,rfl⟩
 have hop:∀wz g,Vg.Grows w wz->Vg.blk wz g=some (.cells #[.int .i64 k] 2)->Calls Tryz.prog 39 #[cfV C v,.int .i64 i,.slice (some ⟨g,0,none⟩) 1 1] wz fun e w'=>e=.returned (.tuple #[.agg #[.int .u8 kd,.int .i64 pr,.int .i64 pe,.int .i64 og,.int .i64 dl,.int .i64 co,.int .i64 ro,.int .i64 lk,.int .i64 fo,.int .i64 tt],.int .i64 0])/\Vg.Grows wz w':=fun wz g hw hb=>by
  refine(hyp_open C v i [k] g 1 wz (hR.grows hw) hgd hmx hi hkd hb ?_ rfl (by decide)).mono ?_
  ·intro k' hk'
   rw[List.mem_singleton]at hk'
   subst hk'
   exact⟨hk,hkM⟩
  ·rintro e w' ⟨h1,h2⟩
   rw[htt]at h1
   exact⟨h1,h2⟩
 have hCV:cfV C v=.agg #[.int .i64 mn,.int .i64 mx,.int .i64 sw,.slice v.ta nt v.tc,.slice v.la nl v.lc,.slice v.ha nh v.hc]:=by simp only[cfV,hmne,hmxe,hswe,hnt,hnl,hnh]
 rw[hCV]at hop ⊢
 rw[htt]at hpe hpe1 hog hog1 hk1 ⊢
 simp only at hpe hpe1 hog hog1 hk1 ⊢
 obtain⟨kp,hkp⟩:∃kp,k*pe=kp:=⟨_,rfl⟩
 have hkp0:0<=kp:=by rw[<-hkp];exact Int.mul_nonneg hk (by omega)
 rw[hkp]at hk1 ⊢
 have e1:IntKind.i64.wrap (4503599627370496-og)=4503599627370496-og:=by rw[IntKind.wrap_i64];omega
 have hq:(4503599627370496-og).tdiv pe=(4503599627370496-og)/pe:=Int.tdiv_eq_ediv_of_nonneg (by omega)
 have hd0:0<=(4503599627370496-og)/pe:=Int.ediv_nonneg (by omega) (by omega)
 have hd1:(4503599627370496-og)/pe<=4503599627370496-og:=Int.ediv_le_self _ (by omega)
 have hw:wrap64 ((4503599627370496-og)/pe)=(4503599627370496-og)/pe:=by unfold wrap64;omega
 have hkq:k<=(4503599627370496-og)/pe:=(Int.le_ediv_iff_mul_le (by omega)).2 (by omega)
 have e2:IntKind.i64.wrap kp=kp:=by rw[IntKind.wrap_i64];omega
 have e3:IntKind.i64.wrap (og+kp)=og+kp:=by rw[IntKind.wrap_i64];omega
 have H_hR:=h_ hR;have H_hgd:=h_ hgd;have H_hmx:=h_ hmx;have H_hnt:=h_ hnt;have H_hnl:=h_ hnl;have H_hnh:=h_ hnh;have H_hmne:=h_ hmne;have H_hmxe:=h_ hmxe;have H_hswe:=h_ hswe;have H_hCV:=h_ hCV;have H_hop:=h_ hop;have H_htt:=h_ htt;clear hR hgd hmx hnt hnl hnh hmne hmxe hswe hCV hop htt
 go_enter Tryz.func15,Tryz.ntmps15
 go_wp2_with ((go_at_call 39;(with_reducible refine(H_hop.out _ _ (Vg.gro) (Vg.alloc_heap_at (by simp))).mono ?_);rintro e1 w1 ⟨rfl,hg1⟩;have hgw1:=Vg.Grows.trans (Vg.gro:Vg.Grows w _) hg1;have hs1:=hgw1.size;have H_hg1:=h_ hg1;have H_hgw1:=h_ hgw1;clear hg1 hgw1))
 go_returns
 exact⟨rfl,H_hgw1.out.alloc _⟩
theorem hyp_jobs (C:Vg.Cf) (v:Cv) (i:Nat) (k:Int) (w:World) (hR:CR w C v) (hgd:Vg.Vt.good C) (hmx : -9223372036854775808<=C.mx) (hi:i<C.T.length) (hkd:C.T[i].kd=1) (hpe:1<=C.T[i].pe) (hpe1:C.T[i].pe<=4503599627370496) (hog:0<=C.T[i].og) (hog1:C.T[i].og<=4503599627370496) (hk:0<=k) (hkM:k<=4503599627370496) :
  Calls Tryz.prog 16 #[cfV C v,.int .i64 i,.int .i64 0,.int .i64 k] w fun e w'=>e=.returned (.tuple #[.int .i64 (Vg.ahd C.T[i].og C.T[i].pe k),.int .i64 0])/\Vg.Grows w w':=by
 obtain⟨nt,hnt⟩:∃nt,C.T.length=nt:=⟨_,rfl⟩
 obtain⟨nl,hnl⟩:∃nl,C.L.length=nl:=⟨_,rfl⟩
 obtain⟨nh,hnh⟩:∃nh,C.H.length=nh:=⟨_,rfl⟩
 obtain⟨mn,hmne⟩:∃mn,C.mn=mn:=⟨_,rfl⟩
 obtain⟨mx,hmxe⟩:∃mx,C.mx=mx:=⟨_,rfl⟩
 obtain⟨sw,hswe⟩:∃sw,C.sw=sw:=⟨_,rfl⟩
 obtain⟨⟨kd,pr,pe,og,dl,co,ro,lk,fo,tt⟩,htt⟩:∃t,C.T[i]=t:=⟨_,rfl⟩
 have hop:∀wz g,Vg.Grows w wz->Vg.blk wz g=some (.cells #[.int .i64 0,.int .i64 k] 2)->Calls Tryz.prog 39 #[cfV C v,.int .i64 i,.slice (some ⟨g,0,none⟩) 2 2] wz fun e w'=>e=.returned (.tuple #[.agg #[.int .u8 kd,.int .i64 pr,.int .i64 pe,.int .i64 og,.int .i64 dl,.int .i64 co,.int .i64 ro,.int .i64 lk,.int .i64 fo,.int .i64 tt],.int .i64 0])/\Vg.Grows wz w':=fun wz g hw hb=>by
  refine(hyp_open C v i [0,k] g 2 wz (hR.grows hw) hgd hmx hi hkd hb ?_ rfl (by decide)).mono ?_
  ·intro k' hk'
   simp only[List.mem_cons,List.not_mem_nil,or_false]at hk'
   rcases hk' with rfl|rfl
   ·exact⟨by decide,by decide⟩
   ·exact⟨hk,hkM⟩
  ·rintro e w' ⟨h1,h2⟩
   rw[htt]at h1
   exact⟨h1,h2⟩
 have hCV:cfV C v=.agg #[.int .i64 mn,.int .i64 mx,.int .i64 sw,.slice v.ta nt v.tc,.slice v.la nl v.lc,.slice v.ha nh v.hc]:=by simp only[cfV,hmne,hmxe,hswe,hnt,hnl,hnh]
 rw[hCV]at hop ⊢
 rw[htt]at hpe hpe1 hog hog1 ⊢
 simp only at hpe hpe1 hog hog1 ⊢
 have ha0:Vg.ahd og pe 0=0:=Vg.ahd_zero hpe hog
 have hk1:=fun wz=>hyp_ahead kd pr pe og dl co ro lk fo tt k wz hpe hpe1 hog hog1 hk hkM
 have hk0:=fun wz=>hyp_ahead kd pr pe og dl co ro lk fo tt 0 wz hpe hpe1 hog hog1 (by decide) (by decide)
 rw[ha0]at hk0
 have hq0:=Vg.ahd_nonneg (o:=og) (e:=k) hpe
 have hq1:=Vg.ahd_le (o:=og) (e:=k) hpe hog hk
 obtain⟨q,hq⟩:∃q,Vg.ahd og pe k=q:=⟨_,rfl⟩
 rw[hq]at hq0 hq1 hk1 ⊢
 have hwq:IntKind.i64.wrap q=q:=by rw[IntKind.wrap_i64];omega
 have H_hR:=h_ hR;have H_hgd:=h_ hgd;have H_hmx:=h_ hmx;have H_hnt:=h_ hnt;have H_hnl:=h_ hnl;have H_hnh:=h_ hnh;have H_hmne:=h_ hmne;have H_hmxe:=h_ hmxe;have H_hswe:=h_ hswe;have H_hCV:=h_ hCV;have H_hop:=h_ hop;have H_htt:=h_ htt;have H_hk0:=h_ hk0;have H_hk1:=h_ hk1;have H_hq:=h_ hq;have H_ha0:=h_ ha0;clear hR hgd hmx hnt hnl hnh hmne hmxe hswe hCV hop htt hk0 hk1 hq ha0
 go_enter Tryz.func16,Tryz.ntmps16
 go_upto_region 4 with((go_at_call 39;(with_reducible refine(H_hop.out _ _ (Vg.gro) (Vg.alloc_heap_at (by simp))).mono ?_);rintro e1 w1 ⟨rfl,hg1⟩;have hgw1:=Vg.Grows.trans (Vg.gro:Vg.Grows w _) hg1;have hs1:=hgw1.size;have H_hg1:=h_ hg1;have H_hgw1:=h_ hgw1;clear hg1 hgw1))
 have b0:Vg.blk (w1.alloc (.cells #[.int .u8 kd,.int .i64 pr,.int .i64 pe,.int .i64 og,.int .i64 dl,.int .i64 co,.int .i64 ro,.int .i64 lk,.int .i64 fo,.int .i64 tt] 57)) w1.heap.size=some (.cells #[.int .u8 kd,.int .i64 pr,.int .i64 pe,.int .i64 og,.int .i64 dl,.int .i64 co,.int .i64 ro,.int .i64 lk,.int .i64 fo,.int .i64 tt] 57):=Vg.alloc_heap_at rfl
 have hgz:=H_hgw1.out.alloc (.cells #[.int .u8 kd,.int .i64 pr,.int .i64 pe,.int .i64 og,.int .i64 dl,.int .i64 co,.int .i64 ro,.int .i64 lk,.int .i64 fo,.int .i64 tt] 57)
 generalize w1.alloc (.cells #[.int .u8 kd,.int .i64 pr,.int .i64 pe,.int .i64 og,.int .i64 dl,.int .i64 co,.int .i64 ro,.int .i64 lk,.int .i64 fo,.int .i64 tt] 57)=wz at b0 hgz ⊢
 generalize w1.heap.size=tb at b0 ⊢
 obtain⟨c_b0,f_b0,p_b0,l_b0,H_b0⟩:=Vg.lay b0;clear b0
 have H_hgz:=h_ hgz;clear hgz
 refine wp_region_held_drew (S:=fun w'=>w'.cell? ⟨tb,0,none⟩=some (.int .u8 kd)/\w'.cell? ⟨tb,1,none⟩=some (.int .i64 pr)/\w'.cell? ⟨tb,2,none⟩=some (.int .i64 pe)/\w'.cell? ⟨tb,3,none⟩=some (.int .i64 og)/\w'.cell? ⟨tb,4,none⟩=some (.int .i64 dl)/\w'.cell? ⟨tb,5,none⟩=some (.int .i64 co)/\w'.cell? ⟨tb,6,none⟩=some (.int .i64 ro)/\w'.cell? ⟨tb,7,none⟩=some (.int .i64 lk)/\w'.cell? ⟨tb,8,none⟩=some (.int .i64 fo)/\w'.cell? ⟨tb,9,none⟩=some (.int .i64 tt)) (by kernel_rfl) (by go_split_ands <;> (try dsimp only) <;> go_simp) (fun hHeld=>?_)
 refine tk 0 ?_
 refine tk 1 ?_
 refine tk 3 ?_
 refine tk 4 ?_
 refine wpAnyH_ready (rs:=[2]) (by kernel_rfl) (by simp) ?_
 refine AllReadyH.cons (o:=_) rfl (fun K hK=>?st5) ?mo5
 case st5=>
  go_simp
  ((go_at_call 40;(with_reducible refine(H_hk1.out _).mono ?_);rintro e2 w2 ⟨rfl,hg2⟩;have hg2:=Vg.Grows.trans (Vg.gro:Vg.Grows wz _) hg2;have x2:=hg2.blk H_b0.out;obtain⟨c_x2,f_x2,p_x2,l_x2,H_x2⟩:=Vg.lay x2;clear x2))
  all_goals(try go_wp2_with fail)
  refine hK.out _ _ (by go_split_ands <;> (try dsimp only) <;> go_simp) (fun hHeld5=>?_)
  clear hK K
  refine wpAnyH_ready (rs:=[5]) (by kernel_rfl) (by simp) ?_
  refine AllReadyH.cons (o:=_) rfl (fun K hK=>?st6) ?mo6
  case st6=>
   go_simp
   ((go_at_call 40;(with_reducible refine(H_hk0.out _).mono ?_);rintro e3 w3 ⟨rfl,hg3⟩;have hg3:=Vg.Grows.trans (Vg.gro:Vg.Grows wz _) hg3;have x3:=hg3.blk H_b0.out;obtain⟨c_x3,f_x3,p_x3,l_x3,H_x3⟩:=Vg.lay x3;clear x3))
   all_goals(try go_wp2_with fail)
   refine hK.out _ _ (by go_split_ands <;> (try dsimp only) <;> go_simp) (fun hHeld6=>?_)
   clear hK K
   refine tk 6 ?_
   refine tk 7 ?_
   refine tk 8 ?_
   refine tk 9 ?_
   refine wpAnyH_done (by kernel_rfl) ?_ _
   go_wp2_with fail
   all_goals
    go_returns
    refine⟨?_,H_hgz.out.trans (Vg.gro)⟩
    first
    | rfl
    | (have e0:q=0:=(by omega);subst e0;rfl)
  exact AllReadyH.nil
 exact AllReadyH.nil
end Go.Proofs.YtlkdkgefjipjmaaGreatDoor
