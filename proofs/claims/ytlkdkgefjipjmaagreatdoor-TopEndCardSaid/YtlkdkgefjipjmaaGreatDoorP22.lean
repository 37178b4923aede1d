/- BotS, BotI (put together). -/
import Derived.Test.YtlkdkgefjipjmaaGreatDoorP21
import Derived.Test.YtlkdkgefjipjmaaGreatDoorQ2
import Derived.Test.YtlkdkgefjipjmaaGreatDoorP16
import Derived.Test.YtlkdkgefjipjmaaGreatDoorQ0
set_option linter.all false
set_option maxHeartbeats 40000000
set_option maxRecDepth 100000
namespace Vg
open Go
theorem Bo.nextK_succ(Bs:List Bp)(Q:List Wq)(k:Nat):Bo.nextK Bs Q (k+1)=Bo.least (Bo.cand Bs Q k) (Bo.nextK Bs Q k):=rfl
theorem Bo.cand_at{Bs:List Bp}{Q:List Wq}{k:Nat}{x:Bp}(h:k<Bs.length)(hx:Bs[k]=x):Bo.cand Bs Q k=if Wk.waiting Q k=0\/0<x.s.left x.t.bu then none else match x.s.L with | []=>none|y::_=>some y.1:=by
 unfold Bo.cand
 rw[List.getElem?_eq_getElem h,hx]
 rfl
end Vg
namespace Go.Proofs.YtlkdkgefjipjmaaGreatDoor
open Go.ChangeShapes Go.WideShapes Go.ChangeAt Go.RowKit
section
variable {w w' w2 w3:World}{b wb n:Nat}{xs xs':List Vg.Bt}{rv wv:Value}{Q Q' Q1 Q2:List Vg.Wq}{O O':Nat->Prop}{x r:Int}{is:Bool}{Bs' Bs1 Bs2:List Vg.Bp}
theorem bot_refill{k:Nat}(now:Int)(h:BT w b xs rv wb Q wv O)(hI:Vg.Bo.Inv k (xs.map (·.p)) Q)(hx:Vg.Bo.refill (xs.map (·.p)) now=(Bs',r)):
  Calls Tryz.prog 65 #[.pointer (some ⟨b,0,none⟩),.int .i64 now] w fun e w'=>e=.returned (.int .i64 r)/\BTn w w' b xs rv wb Q wv O Bs':=by
 obtain⟨n,hn⟩:∃n,xs.length=n:=⟨_,rfl⟩
 obtain⟨a,c,hrv⟩:=h.shp
 rw[hn]at hrv
 subst hrv
 have hle:n<=64:=by have:=hI.le;simpa[hn]using this
 have hrow:=h.row
 rw[hn]at hrow
 have hcc:n<=c:=hrow.len_le
 have hcm:c<=9223372036854775807:=hrow.cap_le
 have c0:=Vg.cells_of h.tab 0
 simp at c0
 have hl:=h.lt
 unfold Vg.Bo.refill at hx
 have H_h:=h_ h;have H_hI:=h_ hI;have H_hn:=h_ hn;have H_hrow:=h_ hrow;have H_hx:=h_ hx;clear h hI hn hrow hx
 go_enter Tryz.func65,Tryz.ntmps65
 go_wp2
 go_loopw [14] (fun i wr=>∃k:Nat,k<=n/\i=.int .i64 k/\Vg.Grows w wr/\((xs.map (·.p)).take k).all (Vg.Bo.later now)=true) (fun i _=>n-(intOf i).toNat)
 case atStart=>exact⟨0,by omega,rfl,Vg.Grows.refl _,by simp⟩
 case round=>
  obtain⟨k,hk,rfl,hgr,hpre⟩:=hrel
  by_cases hlt:k<n
  ·have hkx:k<xs.length:=by rw[H_hn.out];exact hlt
   obtain⟨g,o,rfl,hg,-,-,d0,d1,d2,d3,d4⟩:=H_hrow.out.thread H_hn.out k hkx
   have hs:=(H_h.out.srv k hkx).grows hgr
   have hsn:=List.take_succ_eq_append_getElem (l:=xs.map (·.p)) (by simpa using hkx)
   have hme:xs[k].p∈xs.map (·.p):=List.mem_map.2 ⟨xs[k],List.getElem_mem _,rfl⟩
   rw[List.getElem_map]at hsn
   obtain⟨y,hy⟩:∃y,xs[k]=y:=⟨_,rfl⟩
   rw[hy]at d0 d1 d2 d3 d4 hs hsn hme
   have d0:=(hgr.below.cell (p:=⟨g,o+k*5,none⟩) hg).trans d0
   have d1:=(hgr.below.cell (p:=⟨g,o+k*5+1,none⟩) hg).trans d1
   have d2:=(hgr.below.cell (p:=⟨g,o+k*5+2,none⟩) hg).trans d2
   have d3:=(hgr.below.cell (p:=⟨g,o+k*5+3,none⟩) hg).trans d3
   have d4:=(hgr.below.cell (p:=⟨g,o+k*5+4,none⟩) hg).trans d4
   have hgl:g<wr.heap.size:=Nat.lt_of_lt_of_le hg hgr.size
   obtain⟨lt,hlt'⟩:∃lt,(decide (y.p.s.last<=now)&&decide (now<=4503599627370496))=lt:=⟨_,rfl⟩
   have hlat:Vg.Bo.later now y.p=lt:=hlt'
   cases lt with
   | false=>
    have hall:(xs.map (·.p)).all (Vg.Bo.later now)=false:=by
     cases hh:(xs.map (·.p)).all (Vg.Bo.later now)with
     | false=>rfl
     | true=>
      have:=List.all_eq_true.1 hh y.p hme
      rw[hlat]at this;cases this
    have hx:=H_hx.out
    rw[hall]at hx
    simp only[Bool.false_eq_true,if_false,Prod.mk.injEq]at hx
    obtain⟨rfl,rfl⟩:=hx
    have H_hs:=h_ hs;have H_hsn:=h_ hsn;have H_hy:=h_ hy;have H_hpre:=h_ hpre;have H_hlt':=h_ hlt';have H_hlat:=h_ hlat;have H_hme:=h_ hme;have H_hall:=h_ hall;clear hs hsn hy hpre hlt' hlat hme hall
    go_wp2_with ((go_at_call 116;refine(sa_later now (H_hs.out.grows (Vg.gro)) H_hlt'.out).mono ?_;rintro e w1 ⟨rfl,rfl⟩))
    go_ret
    exact⟨rfl,BTn.same H_h.out (Vg.gro)⟩
   | true=>
    have hnx:((xs.map (·.p)).take (k+1)).all (Vg.Bo.later now)=true:=by rw[hsn,List.all_append,hpre];simp[hlat]
    have H_hs:=h_ hs;have H_hsn:=h_ hsn;have H_hy:=h_ hy;have H_hpre:=h_ hpre;have H_hlt':=h_ hlt';have H_hlat:=h_ hlat;have H_hme:=h_ hme;have H_hnx:=h_ hnx;clear hs hsn hy hpre hlt' hlat hme hnx
    go_wp2_with ((go_at_call 116;refine(sa_later now (H_hs.out.grows (Vg.gro)) H_hlt'.out).mono ?_;rintro e w1 ⟨rfl,rfl⟩))
    exact⟨⟨k+1,by omega,by go_num,Vg.gro,H_hnx.out⟩,by simp[intOf];omega⟩
  ·have hall:(xs.map (·.p)).all (Vg.Bo.later now)=true:=by rw[<-hpre,List.take_of_length_le (by rw[List.length_map,H_hn.out];omega)]
   have hx:=H_hx.out
   rw[hall,if_pos rfl]at hx
   simp only[Prod.mk.injEq]at hx
   obtain⟨rfl,rfl⟩:=hx
   have hkn:k=n:=by omega
   subst hkn
   have hb1:=H_h.out.grows hgr
   have c0:=(hgr.below.cell (p:=⟨b,0,none⟩) hl).trans c0
   have H_hpre:=h_ hpre;have H_hall:=h_ hall;have H_hb1:=h_ hb1;clear hpre hall hb1
   go_wp2
   go_loopw [29] (fun i wr=>∃j:Nat,j<=k/\i=.int .i64 j/\BTn w wr b xs (.slice a k c) wb Q wv O (Vg.Bo.mix now (xs.map (·.p)) j)) (fun i _=>k-(intOf i).toNat)
   case atStart=>exact⟨0,by omega,rfl,by have:=BTn.same H_h.out hgr;simpa[Vg.Bo.mix]using this⟩
   case round=>
    obtain⟨j,hj,rfl,ys,O2,hb,hmap,hown,ht⟩:=hrel
    by_cases hlt:j<k
    ·have hjx:j<(xs.map (·.p)).length:=by rw[List.length_map,H_hn.out];exact hlt
     have hyl:ys.length=k:=by
      have:=congrArg List.length hmap
      rw[List.length_map,Vg.Bo.mix_len _ _ _ (by omega),List.length_map,H_hn.out]at this
      exact this
     have hjy:j<ys.length:=by omega
     have hyp:ys[j].p=(xs.map (·.p))[j]:=by
      have:=Vg.Bo.mix_get now (xs.map (·.p)) j hjx
      rw[<-hmap,List.getElem?_map,List.getElem?_eq_getElem hjy]at this
      simpa using this
     have hr2:=hb.row
     rw[hyl]at hr2
     obtain⟨g,o,rfl,hg,-,-,d0,d1,d2,d3,d4⟩:=hr2.thread hyl j hjy
     have hs:=hb.srv j hjy
     have hok:=H_hI.out.each _ (List.getElem_mem hjx)
     rw[<-hyp]at hok
     have hms:=Vg.Bo.mix_succ now (xs.map (·.p)) j hjx
     rw[<-hyp]at hms
     obtain⟨y,hy⟩:∃y,ys[j]=y:=⟨_,rfl⟩
     rw[hy]at d0 d1 d2 d3 d4 hs hok hms
     obtain⟨hbu,hpe,hpr,hinv⟩:=hok
     have hsl:=hs.lt
     have H_hs:=h_ hs;have H_hb:=h_ hb;have H_hmap:=h_ hmap;have H_hown:=h_ hown;have H_ht:=h_ ht;have H_hyl:=h_ hyl;have H_hyp:=h_ hyp;have H_hr2:=h_ hr2;have H_hy:=h_ hy;have H_hms:=h_ hms;have H_hinv:=h_ hinv;clear hs hb hmap hown ht hyl hyp hr2 hy hms hinv
     go_wp2_with ((go_at_call 117;refine(sa_refill now (H_hs.out.grows (Vg.gro)) (by omega) H_hinv.out hbu).mono ?_;rintro e w2 ⟨v',rfl,hsa,ht2,hv2⟩;obtain⟨hb2,hown2,ht3⟩:=BT.serv hjy H_hy.out (H_hb.out.grows (Vg.gro)) hsa ht2 hv2;have H_hb2:=h_ hb2;have H_hown2:=h_ hown2;have H_ht3:=h_ ht3;clear hb2 hown2 ht3;clear hsa ht2 hv2))
     refine⟨⟨j+1,by omega,by go_num,?_⟩,by simp[intOf];omega⟩
     refine BTn.next (w2:=_) H_hown.out H_ht.out ⟨_,O2,H_hb2.out,?_,fun z hz=>?_,Vg.Touch.next (Vg.Touch.of_grows (Vg.gro)) H_ht3.out (fun _ hk=>.inl hk)⟩
     ·rw[List.map_set,H_hmap.out];exact H_hms.out
     ·rcases H_hown2.out z hz with h8|h8
      ·exact .inl h8
      ·exact .inr (by simp only[World.size_alloc]at h8;omega)
    ·have hjk:j=k:=by omega
     subst hjk
     have hfin:Vg.Bo.mix now (xs.map (·.p)) j=(xs.map (·.p)).map (Vg.Bo.rf now):=by
      have:=Vg.Bo.mix_all now (xs.map (·.p))
      rw[List.length_map,H_hn.out]at this
      exact this
     rw[hfin]at hmap
     have H_hb:=h_ hb;have H_hmap:=h_ hmap;have H_hown:=h_ hown;have H_ht:=h_ ht;have H_hfin:=h_ hfin;clear hb hmap hown ht hfin
     go_wp2
     go_ret
     exact⟨rfl,ys,O2,H_hb.out,by simpa using H_hmap.out,H_hown.out,H_ht.out⟩
theorem sa_nextx{bb B:Nat}{bu pe:Int}{s:Vg.Srv}{v:Value}(h:SA w bb B bu pe s v){at_:Int}{is:Bool}(ha:(s.L.headD (0,0)).1=at_)(his:(!s.L.isEmpty)=is):
  Calls Tryz.prog 155 #[.pointer (some ⟨bb,0,none⟩)] w fun e w'=>e=.returned (.tuple #[.int .i64 at_,.bool is])/\w=w':=by
 subst ha his
 exact sa_next h
theorem sa_leftx{bb B:Nat}{bu pe:Int}{s:Vg.Srv}{v:Value}(h:SA w bb B bu pe s v)(hx:s.left bu=x):
  Calls Tryz.prog 154 #[.pointer (some ⟨bb,0,none⟩)] w fun e w'=>e=.returned (.int .i64 x)/\w=w':=by
 subst hx
 exact sa_left h
theorem bot_next (h:BT w b xs rv wb Q wv O) (hle:xs.length<=64) {at_:Int} (hx:Vg.Bo.next (xs.map (·.p)) Q=(at_,is)) :
  Calls Tryz.prog 91 #[.pointer (some ⟨b,0,none⟩)] w fun e w'=>e=.returned (.tuple #[.int .i64 at_,.bool is])/\Vg.Grows w w':=by
 obtain⟨n,hn⟩:∃n,xs.length=n:=⟨_,rfl⟩
 obtain⟨a,c,hrv⟩:=h.shp
 rw[hn]at hrv
 subst hrv
 have hrow:=h.row
 rw[hn]at hrow
 have hcc:n<=c:=hrow.len_le
 have hcm:c<=9223372036854775807:=hrow.cap_le
 have c0:=Vg.cells_of h.tab 0
 simp at c0
 have hl:=h.lt
 unfold Vg.Bo.next at hx
 rw[List.length_map,hn]at hx
 rw[hn]at hle
 have H_h:=h_ h;have H_hn:=h_ hn;have H_hrow:=h_ hrow;have H_hx:=h_ hx;clear h hn hrow hx
 go_enter Tryz.func91,Tryz.ntmps91
 go_wp2
 go_loopw [4,5,15] (fun v4 v5 i wr=>∃k:Nat,k<=n/\i=.int .i64 k/\v4=.int .i64 (Vg.Bo.nextK (xs.map (·.p)) Q k).1/\v5=.bool (Vg.Bo.nextK (xs.map (·.p)) Q k).2/\Vg.Grows w wr) (fun _ _ i _=>n-(intOf i).toNat)
 case atStart=>exact⟨0,by omega,rfl,rfl,rfl,Vg.Grows.refl _⟩
 case round=>
  obtain⟨k,hk,rfl,hv4,hv5,hgr⟩:=hrel
  have hsucc:=Vg.Bo.nextK_succ (xs.map (·.p)) Q k
  obtain⟨⟨la,lf⟩,hlk⟩:∃p,Vg.Bo.nextK (xs.map (·.p)) Q k=p:=⟨_,rfl⟩
  rw[hlk]at hv4 hv5 hsucc
  subst hv4 hv5
  by_cases hlt:k<n
  ·have hkx:k<xs.length:=by rw[H_hn.out];exact hlt
   obtain⟨g,o,rfl,hg,-,-,d0,d1,d2,d3,d4⟩:=H_hrow.out.thread H_hn.out k hkx
   have hb:=H_h.out.grows hgr
   have hs:=hb.srv k hkx
   have hcand:=Vg.Bo.cand_at (Q:=Q) (Bs:=xs.map (·.p)) (k:=k) (x:=xs[k].p) (by simpa using hkx) (by rw[List.getElem_map])
   obtain⟨y,hy⟩:∃y,xs[k]=y:=⟨_,rfl⟩
   rw[hy]at d0 d1 d2 d3 d4 hs hcand
   have d0:=(hgr.below.cell (p:=⟨g,o+k*5,none⟩) hg).trans d0
   have d1:=(hgr.below.cell (p:=⟨g,o+k*5+1,none⟩) hg).trans d1
   have d2:=(hgr.below.cell (p:=⟨g,o+k*5+2,none⟩) hg).trans d2
   have d3:=(hgr.below.cell (p:=⟨g,o+k*5+3,none⟩) hg).trans d3
   have d4:=(hgr.below.cell (p:=⟨g,o+k*5+4,none⟩) hg).trans d4
   have hgl:g<wr.heap.size:=Nat.lt_of_lt_of_le hg hgr.size
   obtain⟨wt,hwt⟩:∃wt,Vg.Wk.waiting Q k=wt:=⟨_,rfl⟩
   obtain⟨sl,hsl⟩:∃sl,y.p.s.left y.p.t.bu=sl:=⟨_,rfl⟩
   have hwt2:Vg.Bo.wait xs.length Q k=wt:=by rw[Vg.Bo.wait_in hkx];exact hwt
   obtain⟨na,hna⟩:∃na,(y.p.s.L.headD (0,0)).1=na:=⟨_,rfl⟩
   obtain⟨ni,hni⟩:∃ni,(!y.p.s.L.isEmpty)=ni:=⟨_,rfl⟩
   rw[hwt,hsl]at hcand
   have hcand2:Vg.Bo.cand (xs.map (·.p)) Q k=if wt=0\/0<sl then none else if ni=true then some na else none:=by
    rw[hcand]
    split
    ·rfl
    ·cases hL:y.p.s.L with
     | nil=>rw[hL]at hni;simp at hni;subst hni;simp
     | cons z l=>rw[hL]at hni hna;simp at hni hna;subst hni hna;simp
   clear hcand
   have H_hb:=h_ hb;have H_hs:=h_ hs;have H_hy:=h_ hy;have H_hwt:=h_ hwt;have H_hsl:=h_ hsl;have H_hwt2:=h_ hwt2;have H_hna:=h_ hna;have H_hni:=h_ hni;have H_hlk:=h_ hlk;clear hb hs hy hwt hsl hwt2 hna hni hlk
   by_cases hw0:wt=0
   ·rw[if_pos (.inl hw0)]at hcand2
    rw[hcand2]at hsucc
    simp only[Vg.Bo.least]at hsucc
    subst hw0
    have H_hcand2:=h_ hcand2;have H_hsucc:=h_ hsucc;clear hcand2 hsucc
    go_wp2_with ((go_at_call 153;refine(bot_wait k (H_hb.out.grows (Vg.gro)) H_hwt2.out).mono ?_;rintro e w1 ⟨rfl,rfl⟩))
    exact⟨⟨k+1,by omega,by go_num,by rw[H_hsucc.out],by rw[H_hsucc.out],Vg.gro⟩,by simp[intOf];omega⟩
   ·have hwz:(wt==0)=false:=by simp[hw0]
    by_cases hs0:0<sl
    ·rw[if_pos (.inr hs0)]at hcand2
     rw[hcand2]at hsucc
     simp only[Vg.Bo.least]at hsucc
     have H_hcand2:=h_ hcand2;have H_hsucc:=h_ hsucc;have H_hw0:=h_ hw0;clear hcand2 hsucc hw0
     go_wp2_with (first|(go_at_call 153;refine(bot_wait k (H_hb.out.grows (Vg.gro)) H_hwt2.out).mono ?_;rintro e w1 ⟨rfl,rfl⟩)|(go_at_call 154;refine(sa_leftx (H_hs.out.grows (Vg.gro)) H_hsl.out).mono ?_;rintro e w1 ⟨rfl,rfl⟩))
     exact⟨⟨k+1,by omega,by go_num,by rw[H_hsucc.out],by rw[H_hsucc.out],Vg.gro⟩,by simp[intOf];omega⟩
    ·rw[if_neg (by rintro(h1|h1);exact hw0 h1;exact hs0 h1)]at hcand2
     cases ni with
     | false=>
      rw[if_neg (by simp)]at hcand2
      rw[hcand2]at hsucc
      simp only[Vg.Bo.least]at hsucc
      have H_hcand2:=h_ hcand2;have H_hsucc:=h_ hsucc;have H_hw0:=h_ hw0;clear hcand2 hsucc hw0
      go_wp2_with (first|(go_at_call 153;refine(bot_wait k (H_hb.out.grows (Vg.gro)) H_hwt2.out).mono ?_;rintro e w1 ⟨rfl,rfl⟩)|(go_at_call 154;refine(sa_leftx (H_hs.out.grows (Vg.gro)) H_hsl.out).mono ?_;rintro e w1 ⟨rfl,rfl⟩)|(go_at_call 155;refine(sa_nextx (H_hs.out.grows (Vg.gro)) H_hna.out H_hni.out).mono ?_;rintro e w1 ⟨rfl,rfl⟩))
      exact⟨⟨k+1,by omega,by go_num,by rw[H_hsucc.out],by rw[H_hsucc.out],Vg.gro⟩,by simp[intOf];omega⟩
     | true=>
      rw[if_pos rfl]at hcand2
      rw[hcand2]at hsucc
      simp only[Vg.Bo.least]at hsucc
      cases lf with
      | false=>
       rw[if_pos (.inl rfl)]at hsucc
       have H_hcand2:=h_ hcand2;have H_hsucc:=h_ hsucc;have H_hw0:=h_ hw0;clear hcand2 hsucc hw0
       go_wp2_with (first|(go_at_call 153;refine(bot_wait k (H_hb.out.grows (Vg.gro)) H_hwt2.out).mono ?_;rintro e w1 ⟨rfl,rfl⟩)|(go_at_call 154;refine(sa_leftx (H_hs.out.grows (Vg.gro)) H_hsl.out).mono ?_;rintro e w1 ⟨rfl,rfl⟩)|(go_at_call 155;refine(sa_nextx (H_hs.out.grows (Vg.gro)) H_hna.out H_hni.out).mono ?_;rintro e w1 ⟨rfl,rfl⟩))
       exact⟨⟨k+1,by omega,by go_num,by rw[H_hsucc.out],by rw[H_hsucc.out],Vg.gro⟩,by simp[intOf];omega⟩
      | true=>
       by_cases hna2:na<la
       ·rw[if_pos (.inr hna2)]at hsucc
        have H_hcand2:=h_ hcand2;have H_hsucc:=h_ hsucc;have H_hw0:=h_ hw0;clear hcand2 hsucc hw0
        go_wp2_with (first|(go_at_call 153;refine(bot_wait k (H_hb.out.grows (Vg.gro)) H_hwt2.out).mono ?_;rintro e w1 ⟨rfl,rfl⟩)|(go_at_call 154;refine(sa_leftx (H_hs.out.grows (Vg.gro)) H_hsl.out).mono ?_;rintro e w1 ⟨rfl,rfl⟩)|(go_at_call 155;refine(sa_nextx (H_hs.out.grows (Vg.gro)) H_hna.out H_hni.out).mono ?_;rintro e w1 ⟨rfl,rfl⟩))
        exact⟨⟨k+1,by omega,by go_num,by rw[H_hsucc.out],by rw[H_hsucc.out],Vg.gro⟩,by simp[intOf];omega⟩
       ·rw[if_neg (by rintro(h1|h1);cases h1;exact hna2 h1)]at hsucc
        have H_hcand2:=h_ hcand2;have H_hsucc:=h_ hsucc;have H_hw0:=h_ hw0;clear hcand2 hsucc hw0
        go_wp2_with (first|(go_at_call 153;refine(bot_wait k (H_hb.out.grows (Vg.gro)) H_hwt2.out).mono ?_;rintro e w1 ⟨rfl,rfl⟩)|(go_at_call 154;refine(sa_leftx (H_hs.out.grows (Vg.gro)) H_hsl.out).mono ?_;rintro e w1 ⟨rfl,rfl⟩)|(go_at_call 155;refine(sa_nextx (H_hs.out.grows (Vg.gro)) H_hna.out H_hni.out).mono ?_;rintro e w1 ⟨rfl,rfl⟩))
        exact⟨⟨k+1,by omega,by go_num,by rw[H_hsucc.out],by rw[H_hsucc.out],Vg.gro⟩,by simp[intOf];omega⟩
  ·have hkn:k=n:=by omega
   subst hkn
   have hx:=H_hx.out
   rw[hlk]at hx
   simp only[Prod.mk.injEq]at hx
   obtain⟨rfl,rfl⟩:=hx
   have H_hlk:=h_ hlk;have H_hsucc:=h_ hsucc;clear hlk hsucc
   go_wp2
   go_ret2
   exact⟨rfl,hgr⟩
end
end Go.Proofs.YtlkdkgefjipjmaaGreatDoor
namespace Vg
open Go
def Bo.prio(Bs:List Bp)(i:Nat):Int:=match Bs[i]? with|none=>0|some x=>x.t.pr
def Bo.ables(Bs:List Bp)(Q:List Wq)(k:Nat):List Nat:=(List.range k).filter (Bo.ableK Bs Q)
theorem Bo.ables_succ(Bs:List Bp)(Q:List Wq)(k:Nat):Bo.ables Bs Q (k+1)=Bo.ables Bs Q k++if Bo.ableK Bs Q k=true then [k]else []:=by
 unfold Bo.ables
 rw[List.range_succ,List.filter_append]
 congr 1
 by_cases h:Bo.ableK Bs Q k=true
 ·simp[h]
 ·simp[h]
theorem Bo.ables_len(Bs:List Bp)(Q:List Wq)(k:Nat):(Bo.ables Bs Q k).length<=k:=by
 unfold Bo.ables
 have:=List.length_filter_le (Bo.ableK Bs Q) (List.range k)
 simpa using this
def Bo.pk(Bs:List Bp):List Nat->Int×Int->Int×Int
 | [],r=>r
 | i::l,r=>Bo.pk Bs l (if r.2<Bo.prio Bs i then((i:Int),Bo.prio Bs i)else r)
theorem Bo.pk_snoc(Bs:List Bp):∀(l:List Nat)(i:Nat)(r:Int×Int),Bo.pk Bs (l ++ [i]) r=if(Bo.pk Bs l r).2<Bo.prio Bs i then((i:Int),Bo.prio Bs i)else Bo.pk Bs l r
 | [],i,r=>rfl
 | j::l,i,r=>by simp only[List.cons_append,Bo.pk];exact Bo.pk_snoc Bs l i _
def Bo.best(Bs:List Bp)(Q:List Wq):Int:=(Bo.pk Bs (Bo.ables Bs Q Bs.length) (-1,-1)).1
end Vg
namespace Go.Proofs.YtlkdkgefjipjmaaGreatDoor
open Go.ChangeShapes Go.WideShapes Go.ChangeAt Go.RowKit Go.Shelf
attribute [local go_sem] Oper.semAt_some
abbrev thV(x:Vg.Bt):Obj:=.cells #[.int .i64 x.p.t.pr,.int .i64 x.p.t.bu,.int .i64 x.p.t.pe,.int .i64 x.p.t.dp,.pointer (some ⟨x.sb,0,none⟩)] 166
theorem bot_iter(b:Nat)(w:World):
  Calls Tryz.prog 191 #[.pointer (some ⟨b,0,none⟩)] w fun e w'=>e=.returned (.func (.func 215) #[] #[.pointer (some ⟨w.heap.size,0,none⟩)])/\w'=w.alloc (.cells #[.pointer (some ⟨b,0,none⟩)] 79):=by
 go_enter Tryz.func191,Tryz.ntmps191
 go_wp2
 go_ret
 exact⟨rfl,rfl⟩
section
variable {w w':World}{b wb:Nat}{xs:List Vg.Bt}{rv wv:Value}{Q:List Vg.Wq}{O:Nat->Prop}
theorem BT.kept(h:BT w b xs rv wb Q wv O)(hs:w.heap.size<=w'.heap.size)(hk:∀k,bown b xs rv wb O k->w'.heap[k]? = w.heap[k]?):BT w' b xs rv wb Q wv O:=by
 refine⟨(hk b (.inl rfl)).trans h.tab,h.shp,?_,fun i hi=>(h.srv i hi).kept (hk _ (.inr (.inr (.inl ⟨i,hi,.inl rfl⟩)))) fun k hv=>hk k (.inr (.inr (.inl ⟨i,hi,.inr hv⟩))),?_,h.dis,h.offw,h.offb,h.wofb⟩
 ·rcases h.row with h0|⟨g,off,cap,e,h2,h3,h4,h5,h6⟩
  ·exact .inl h0
  ·refine .inr ⟨g,off,cap,e,h2,Nat.lt_of_lt_of_le h3 hs,h4,h5,fun j hj=>?_⟩
   rw[<-h6 j hj]
   exact World.cell?_of_block (w:=w) (hk g (.inr (.inl (by rw[e];rfl))))
 ·obtain⟨⟨qs,h1,h2,h3⟩,h4,h5,h6⟩:=h.wrk
  exact⟨⟨qs,h1.kept (hk wb (.inr (.inr (.inr (.inl rfl))))) (fun k hv=>hk k (.inr (.inr (.inr (.inr (h3 k hv)))))),h2,h3⟩,h4,Nat.le_trans h5 hs,fun k hv=>⟨(h6 k hv).1,Nat.lt_of_lt_of_le (h6 k hv).2 hs⟩⟩
end
theorem able_stops (k:Nat) (hk:1<=k) (S:Nat->Prop) (B1 b wb:Nat) (xs:List Vg.Bt) (rv wv:Value) (Q:List Vg.Wq) (O:Nat->Prop) (Bs:List Vg.Bp) (hBs:xs.map (·.p)=Bs) (w:World) (hS1:∀j,bown b xs rv wb O j->S j) (hS3:S B1) (hlt:∀k,S k->k<w.heap.size)
  (hc1:Vg.blk w B1=some (.cells #[.pointer (some ⟨b,0,none⟩)] 79)) (hbt:BT w b xs rv wb Q wv O) :
  SeqStopsK Fence.wide k Tryz.prog 215 #[.pointer (some ⟨B1,0,none⟩)] (fun i:Nat=>#[.int .i64 i,.int .i64 (Vg.Bo.prio Bs i)]) (Vg.Kept S) (fun ys=>ys=Vg.Bo.ables Bs Q Bs.length) (fun _=>True) Bs.length w:=fun l J Jx W hW hJ hJx hY hJ0=>by
 have kW:Vg.Kept S w W:=Vg.Kept.of_below hW hlt
 obtain⟨n,hn⟩:∃n,xs.length=n:=⟨_,rfl⟩
 have hBn:Bs.length=n:=by rw[<-hBs,List.length_map];exact hn
 obtain⟨sa,sc,hrv⟩:=hbt.shp
 rw[hn]at hrv
 subst hrv
 have D1:=h_ (kW.blk hc1 hS3)
 have D3:=h_ (hbt.kept (w':=W) kW.size (fun k hk=>kW.block k (hS1 k hk)))
 have e1:=Vg.cells_of D1.out 0
 have e3:=Vg.cells_of D3.out.tab 0
 simp at e1 e3
 rw[hBn]at hY ⊢
 have hrow0:=D3.out.row
 rw[hn]at hrow0
 have hcn:n<=sc:=hrow0.len_le
 have hcm:sc<=9223372036854775807:=hrow0.cap_le
 clear hrow0
 have H_hn:=h_ hn;have H_hBn:=h_ hBn;have H_hBs:=h_ hBs;clear hn hBn hBs
 refine callsIn_of_wp Tryz.func215 rfl trivial ?_ rfl
 simp only[Tryz.ntmps215,List.size_toArray,List.length_cons,List.length_nil,Nat.reduceAdd,Nat.reduceSub,Array.replicate_succ,Array.replicate_zero,List.push_toArray,List.append_toArray,List.nil_append,List.cons_append]
 gi_wp2
 gi_loopw [10] (fun i wr=>∃j:Nat,j<=n/\i=.int .i64 j/\J (Vg.Bo.ables Bs Q j) wr/\Vg.Kept S W wr) (fun i _=>n-(intOf i).toNat)
 case atStart=>exact⟨0,by omega,rfl,hJ0,Vg.Kept.refl _ _⟩
 case round=>
  obtain⟨j,hj,rfl,hJj,hkp⟩:=hrel
  have d1:=hkp.blk D1.out hS3
  have d3:=D3.out.kept (w':=wr) hkp.size (fun k hk=>hkp.block k (hS1 k hk))
  have c10:=Vg.cells_of d1 0
  have hB1:=Vg.lt_of d1
  have hbl:=d3.lt
  simp at c10
  by_cases hjl:j<n
  ·have hjx:j<xs.length:=by rw[H_hn.out];exact hjl
   have hrow:=d3.row
   rw[H_hn.out]at hrow
   obtain⟨g,o,rfl,hg,-,-,f0,f1,f2,f3,f4⟩:=hrow.thread H_hn.out j hjx
   have hpr:Vg.Bo.prio Bs j=xs[j].p.t.pr:=by
    have e5:Bs[j]? = some xs[j].p:=by rw[<-H_hBs.out,List.getElem?_map,List.getElem?_eq_getElem hjx];rfl
    unfold Vg.Bo.prio
    rw[e5]
   obtain⟨y,hy⟩:∃y,xs[j]=y:=⟨_,rfl⟩
   rw[hy]at f0 f1 f2 f3 f4 hpr
   have hsn:=Vg.Bo.ables_succ Bs Q j
   have hol:=Vg.Bo.ables_len Bs Q j
   have hJa:=Vg.abides_grows hJ hJj ((Vg.Grows.refl wr).alloc (thV y))
   have hal:Vg.Kept S wr (wr.alloc (thV y)):=⟨by simp,fun z hz=>Below.heap_alloc _ _ _ (by have:=hlt z hz;have:=hkp.size;have:=hW.size;omega)⟩
   have d3a:=d3.grows ((Vg.Grows.refl wr).alloc (thV y))
   obtain⟨is,his⟩:∃is,Vg.Bo.able Bs Q j=is:=⟨_,rfl⟩
   have his2:Vg.Bo.able (xs.map (·.p)) Q j=is:=by rw[H_hBs.out];exact his
   rw[Vg.Bo.ableK_eq,his]at hsn
   cases is with
   | false=>
    simp only[Bool.false_eq_true,if_false,List.append_nil]at hsn
    have H_d1:=h_ d1;have H_d3:=h_ d3;have H_d3a:=h_ d3a;have H_hsn:=h_ hsn;have H_hol:=h_ hol;have H_hy:=h_ hy;have H_hpr:=h_ hpr;have H_his:=h_ his;have H_his2:=h_ his2;clear d1 d3 d3a hsn hol hy hpr his his2
    gi_wp2_with (refine⟨trivial,?_⟩;gi_at_call 99;refine(callsIn_wide.2 (bot_able j H_d3a.out H_his2.out)).mono ?_;rintro e w1 ⟨rfl,rfl⟩)
    refine⟨fun _ h=>(by cases h),?_⟩
    gi_wp2
    go_roundw
    case rel=>exact⟨j+1,by omega,by go_num,by rw[H_hsn.out];exact hJa,hkp.trans hal⟩
    case measure=>simp[intOf];omega
   | true=>
    rw[if_pos rfl]at hsn
    have hy0:=hY (Vg.Bo.ables Bs Q j) j (wr.alloc (thV y)) hJa (by omega)
    obtain⟨fn,tmps,assign,body,hy1,hR⟩:=hy0
    rw[hpr]at hy1
    rw[<-hsn]at hR
    have H_d1:=h_ d1;have H_d3:=h_ d3;have H_d3a:=h_ d3a;have H_hsn:=h_ hsn;have H_hol:=h_ hol;have H_hy:=h_ hy;have H_hpr:=h_ hpr;have H_his:=h_ his;have H_his2:=h_ his2;clear d1 d3 d3a hsn hol hy hpr his his2
    gi_wp2_with (refine⟨trivial,?_⟩;gi_at_call 99;refine(callsIn_wide.2 (bot_able j H_d3a.out H_his2.out)).mono ?_;rintro e w1 ⟨rfl,rfl⟩)
    refine hR.mono ?_
    rintro e W3 (⟨rfl,hJ3,hk3⟩|⟨rfl,hJx3⟩)
    ·gi_wp2
     go_roundw
     case rel=>exact⟨j+1,by omega,by go_num,hJ3,hkp.trans (hal.trans hk3)⟩
     case measure=>simp[intOf];omega
    ·gi_wp2
     refine bodyPost_ret (results_none rfl _ _ _) rfl ?_
     exact⟨⟨_,rfl⟩,.inr ⟨_,trivial,hJx3⟩⟩
  ·have hje:j=n:=by omega
   subst hje
   clear d1 d3
   gi_wp2
   go_end0
   exact⟨⟨_,rfl⟩,.inl ⟨_,rfl,hJj⟩⟩
theorem pick_in (b wb:Nat) (xs:List Vg.Bt) (rv wv:Value) (Q:List Vg.Wq) (O:Nat->Prop) (w:World) (h:BT w b xs rv wb Q wv O) (Bs:List Vg.Bp) (hBs:xs.map (·.p)=Bs) (r:Int) (hr:Vg.Bo.best Bs Q=r) (m:Int) (is:Bool) (hm:max r 0=m) (his:decide (0<=r)=is) :
  CallsIn Fence.wide 4 Tryz.prog 127 #[.pointer (some ⟨b,0,none⟩)] w fun e w'=>e=.returned (.tuple #[.int .i64 m,.bool is])/\Below w.heap.size w w':=by
 have hl2:=h.own_lt
 have hro:Fence.wide.round=none:=rfl
 have hn1:1<=4:=by omega
 have hSS:∀k,(bown b xs rv wb O k\/k=w.heap.size+2)->k<w.heap.size+3/\k≠w.heap.size/\k≠w.heap.size+1:=by
  rintro k (hk|rfl)
  ·have:=hl2 k hk;omega
  ·omega
 have HSS:=h_ hSS
 clear hSS
 have H_h:=h_ h;have H_hBs:=h_ hBs;have H_hr:=h_ hr;have H_hm:=h_ hm;have H_his:=h_ his;clear h hBs hr hm his
 refine callsIn_of_wp_marks Tryz.func127 rfl trivial ?_ rfl
 simp only[Tryz.ntmps127,List.size_toArray,List.length_cons,List.length_nil,Nat.reduceAdd,Nat.reduceSub,Array.replicate_succ,Array.replicate_zero,List.push_toArray,List.append_toArray,List.nil_append,List.cons_append]
 gi_wp2_with (first|(refine⟨trivial,?_⟩;gi_at_call 191;refine(callsIn_wide.2 (bot_iter b _)).mono ?_;rintro e w1 ⟨rfl,rfl⟩))
 have bO:=Boxed.new w 3 (.int .i64 (-1))
 have bP:=Boxed.new (w.alloc (.cells #[.int .i64 (-1)] 3)) 3 (.int .i64 (-1))
 have hB0:Below w.heap.size w (((w.alloc (.cells #[.int .i64 (-1)] 3)).alloc (.cells #[.int .i64 (-1)] 3)).alloc (.cells #[.pointer (some ⟨b,0,none⟩)] 79)):=(((Below.refl _ w).alloc (Nat.le_refl _) _).alloc (by simp) _).alloc (by simp <;> omega) _
 refine wpIn_rangeFunc_ownG hro hn1 (gf:=215) (lb:=#[.pointer (some ⟨w.heap.size+1+1,0,none⟩)]) rfl trivial (enters_of Tryz.func215 (by kernel_rfl) rfl)
  (able_stops (4-1) (by omega) (fun k=>bown b xs rv wb O k\/k=w.heap.size+2) (w.heap.size+1+1) b wb xs rv wv Q O Bs H_hBs.out _ (fun j hj=>.inl hj) (.inr rfl)
   (by
     rintro k (hk|rfl)
     ·have:=hl2 k hk;simp;omega
     ·simp)
   (by go_simp) (H_h.out.grows (Vg.gro))) Vg.Kept.trans
  (Vg.Kept.putObj (by
            rintro k (hk|rfl)
            ·have:=hl2 k hk;simp;omega
            ·simp)) (Below.refl _ _) (fun _=>rfl)
  (fun pre W=>Boxed W w.heap.size 3 (.int .i64 (Vg.Bo.pk Bs pre (-1,-1)).1)/\(Boxed W (w.heap.size+1) 3 (.int .i64 (Vg.Bo.pk Bs pre (-1,-1)).2)/\(w.heap.size+3<=W.heap.size/\Below w.heap.size w W)))
  (fun _ _ _=>False)
  (OwnFrom.and (Own.from (boxed_own _ _ _) _) (OwnFrom.and (Own.from (boxed_own _ _ _) _) (OwnFrom.and (Vg.ownFrom_size _ _) (ownFrom_below (Nat.le_refl _) (by simp;omega)))))
  (fun _ _ _ _ _ hs _ _=>hs)
  ⟨(bO.alloc _).alloc _,by have:=bP.alloc (.cells #[.pointer (some ⟨b,0,none⟩)] 79);rw[World.size_alloc]at this;exact this,by simp,hB0⟩
  (fun x=>{ tmps:=#[.pointer (some ⟨b,0,none⟩),undef,.int .i64 0,.bool false,.pointer (some ⟨w.heap.size,0,none⟩),.pointer (some ⟨w.heap.size+1,0,none⟩),.int .i64 x,.int .i64 (Vg.Bo.prio Bs x),.pointer (some ⟨b,0,none⟩),.func (.func 215) #[] #[.pointer (some ⟨w.heap.size+1+1,0,none⟩)],.int .i64 x,.int .i64 (Vg.Bo.prio Bs x),undef,undef,undef,undef,undef,undef,undef,undef,undef],defers:=[] }) ?assign ?body ?done ?stop
 case assign=>
  intro l x W K hK
  gi_wp2
  exact hK
 case body=>
  rintro l pre x W ⟨hv,hu,hsz,hB⟩ hlt
  have hc1:=hv.cell
  have hc2:=hu.cell
  have hf1:=hv.frozen
  have hf2:=hu.frozen
  have hpk:=Vg.Bo.pk_snoc Bs pre x (-1,-1)
  obtain⟨⟨pb,pm⟩,hpm⟩:∃p,Vg.Bo.pk Bs pre (-1,-1)=p:=⟨_,rfl⟩
  obtain⟨pr,hpr⟩:∃pr,Vg.Bo.prio Bs x=pr:=⟨_,rfl⟩
  rw[hpm]at hc1 hc2 hpk hv hu
  rw[hpr]at hpk ⊢
  have HB:=h_ hB
  have HV:=h_ hv
  have HU:=h_ hu
  clear hB hv hu
  by_cases hc:pm<pr
  ·rw[if_pos hc]at hpk
   have H_hpk:=h_ hpk;have H_hpm:=h_ hpm;have H_hpr:=h_ hpr;clear hpk hpm hpr
   gi_wp2
   refine⟨((KeepsOthers.setCell _ _ _).trans (KeepsOthers.setCell _ _ _)).from _,⟨by simp,fun z hz=>?_⟩,?_,?_,by simp;omega,?_⟩
   ·obtain⟨h1,h2,h3⟩:=HSS.out z hz
    rw[Below.heap_setCell _ _ _ z h3,Below.heap_setCell _ _ _ z h2]
   ·rw[H_hpk.out]
    exact(HV.out.set _).kept (grownBy_setCell' _ (w.heap.size+1) _) (by simp)
   ·rw[H_hpk.out]
    exact(HU.out.kept (grownBy_setCell' W w.heap.size _) (by simp)).set _
   ·exact HB.out.trans (((Below.refl _ W).setCell (p:=⟨w.heap.size,0,none⟩) (Nat.le_refl _) _).setCell (p:=⟨w.heap.size+1,0,none⟩) (show w.heap.size<=w.heap.size+1 by omega) _)
  ·rw[if_neg hc]at hpk
   have H_hpk:=h_ hpk;have H_hpm:=h_ hpm;have H_hpr:=h_ hpr;clear hpk hpm hpr
   gi_wp2
   refine⟨(KeepsOthers.refl _).from _,Vg.Kept.refl _ _,?_,?_,hsz,HB.out⟩
   ·rw[H_hpk.out];exact HV.out
   ·rw[H_hpk.out];exact HU.out
 case done=>
  rintro D ys W hD rfl ⟨hv,hu,hsz,hB⟩ hK
  have hc:=hv.cell
  have hbest:=H_hr.out
  unfold Vg.Bo.best at hbest
  rw[hbest]at hc
  have hmm:=H_hm.out
  have hii:=H_his.out
  have hmr:(r<0/\m=0/\is=false)\/(¬r<0/\m=r/\is=true):=by
   by_cases h0:r<0
   ·exact .inl ⟨h0,by omega,by rw[<-hii];simp;omega⟩
   ·exact .inr ⟨h0,by omega,by rw[<-hii];simp;omega⟩
  clear hmm hii
  rcases hmr with⟨h0,rfl,rfl⟩|⟨h0,rfl,rfl⟩
  all_goals
   have H_hv:=h_ hv;have H_hu:=h_ hu;have H_hB:=h_ hB;have H_hbest:=h_ hbest;clear hv hu hB hbest
   gi_wp2
   gi_region
   all_goals gi_wp2
   all_goals refine⟨by simp,.inl ⟨_,_,rfl,run_takeDeferred hK,?_⟩⟩
   all_goals exact⟨_,results_tmp2 rfl _ _ _,by simp <;> omega,(Below.drew H_hB.out).trans (belowK_b (w:=w) (Nat.le_refl _) W.drew D _ _ (by simp at hD;omega) hK rfl rfl)⟩
 case stop=>
  rintro D c pre W _ _ h _
  exact h.elim
theorem bot_pick{w:World}{b wb:Nat}{xs:List Vg.Bt}{rv wv:Value}{Q:List Vg.Wq}{O:Nat->Prop}(h:BT w b xs rv wb Q wv O){r m:Int}{is:Bool}(hr:Vg.Bo.best (xs.map (·.p)) Q=r)(hm:max r 0=m)(his:decide (0<=r)=is):
  Calls Tryz.prog 127 #[.pointer (some ⟨b,0,none⟩)] w fun e w'=>e=.returned (.tuple #[.int .i64 m,.bool is])/\Vg.Grows w w':=by
 refine((callsIn_wide (n:=4)).1 (pick_in b wb xs rv wv Q O w h _ rfl r hr m is hm his)).mono ?_
 rintro e w' ⟨rfl,hb⟩
 exact⟨rfl,Vg.Grows.of_below hb⟩
end Go.Proofs.YtlkdkgefjipjmaaGreatDoor
