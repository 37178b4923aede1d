/- KernI (put together). -/
import Derived.Test.YtlkdkgefjipjmaaGreatDoorQ2
import Derived.Test.YtlkdkgefjipjmaaGreatDoorP16
import Derived.Test.YtlkdkgefjipjmaaGreatDoorP24
import Derived.Test.YtlkdkgefjipjmaaGreatDoorQ0
set_option linter.all false
set_option maxHeartbeats 40000000
set_option maxRecDepth 100000
namespace Vg
open Go Go.Shelf
def Kn.ableK(K:List Kt)(i:Nat):Bool:=match K[i]? with|none=>false|some x=>decide (0<x.J.length) && !x.out
def Kn.ables(K:List Kt)(k:Nat):List Nat:=(List.range k).filter (Kn.ableK K)
theorem Kn.ables_succ(K:List Kt)(k:Nat):Kn.ables K (k+1)=Kn.ables K k++if Kn.ableK K k=true then [k]else []:=by
 unfold Kn.ables
 rw[List.range_succ,List.filter_append]
 congr 1
 by_cases h:Kn.ableK K k=true
 ·simp[h]
 ·simp[h]
theorem Kn.ables_len(K:List Kt)(k:Nat):(Kn.ables K k).length<=k:=by
 unfold Kn.ables
 have:=List.length_filter_le (Kn.ableK K) (List.range k)
 simpa using this
def Kn.pk(K:List Kt)(M:List Mx):List Nat->Int×Int->Int×Int
 | [],r=>r
 | i::l,r=>Kn.pk K M l (if r.2<Kn.level K M i\/(Kn.level K M i=r.2/\Kn.holds K M i=true)then((i:Int),Kn.level K M i)else r)
theorem Kn.pk_snoc(K:List Kt)(M:List Mx):∀(l:List Nat)(i:Nat)(r:Int×Int),Kn.pk K M (l ++ [i]) r=if(Kn.pk K M l r).2<Kn.level K M i\/(Kn.level K M i=(Kn.pk K M l r).2/\Kn.holds K M i=true)then((i:Int),Kn.level K M i)else Kn.pk K M l r
 | [],i,r=>rfl
 | j::l,i,r=>by simp only[List.cons_append,Kn.pk];exact Kn.pk_snoc K M l i _
def Kn.best(K:List Kt)(M:List Mx):Int:=(Kn.pk K M (Kn.ables K K.length) (-1,-1)).1
theorem keepsO_grows{W W':World}(hg:Grows W W'):KeepsOthers W W':=⟨hg.size,fun k o h _=>(hg.below.block k (Array.getElem?_eq_some_iff.1 h).1).trans h⟩
theorem grownBy_grows{W W':World}(hg:Grows W W'):W.grownBy W' none:=⟨hg.below.os,hg.below.tape,hg.below.output,hg.size,fun k hk _=>hg.below.block k hk⟩
theorem kept_grows{W W':World}{S:Nat->Prop}(hg:Grows W W')(hS:∀k,S k->k<W.heap.size):Kept S W W':=⟨hg.size,fun k hk=>hg.below.block k (hS k hk)⟩
end Vg
namespace Go.Proofs.YtlkdkgefjipjmaaGreatDoor
open Go.ChangeShapes Go.WideShapes Go.ChangeAt Go.RowKit Go.Shelf
attribute [local go_sem] Oper.semAt_some
abbrev taV(v:Value)(x:Vg.Kt):Obj:=.cells #[.int .u8 x.t.kd,.int .i64 x.t.pr,.int .i64 x.t.pe,.int .i64 x.t.og,.int .i64 x.t.dl,.int .i64 x.t.co,.int .i64 x.t.ro,.int .i64 x.t.lk,.int .i64 x.t.fr,.int .i64 x.t.tt,v,.int .i64 x.lost,.bool x.out] 141
theorem kern_iter(b:Nat)(w:World):
  Calls Tryz.prog 163 #[.pointer (some ⟨b,0,none⟩)] w fun e w'=>e=.returned (.func (.func 202) #[] #[.pointer (some ⟨w.heap.size,0,none⟩)])/\w'=w.alloc (.cells #[.pointer (some ⟨b,0,none⟩)] 77):=by
 go_enter Tryz.func163,Tryz.ntmps163
 go_wp2
 go_ret
 exact⟨rfl,rfl⟩
theorem kable_stops (k:Nat) (hk:1<=k) (S:Nat->Prop) (B1 b cb:Nat) (xs:List Vg.Kp) (rv cv:Value) (M:List Vg.Mx) (K:List Vg.Kt) (hK:xs.map (·.2)=K) (w:World) (hS1:∀j,kown b xs rv cb cv j->S j) (hS3:S B1) (hlt:∀k,S k->k<w.heap.size)
  (hc1:Vg.blk w B1=some (.cells #[.pointer (some ⟨b,0,none⟩)] 77)) (hkt:KT w b xs rv cb M cv) :
  SeqStopsK Fence.wide k Tryz.prog 202 #[.pointer (some ⟨B1,0,none⟩)] (fun i:Nat=>#[.int .i64 i,.int .i64 (Vg.Kn.level K M i)]) (Vg.Kept S) (fun ys=>ys=Vg.Kn.ables K K.length) (fun _=>True) K.length w:=fun l J Jx W hW hJ hJx hY hJ0=>by
 have kW:Vg.Kept S w W:=Vg.Kept.of_below hW hlt
 obtain⟨n,hn⟩:∃n,xs.length=n:=⟨_,rfl⟩
 have hKn:K.length=n:=by rw[<-hK,List.length_map];exact hn
 obtain⟨sa,sc,hrv⟩:=hkt.row.shape
 rw[hn]at hrv
 subst hrv
 have D1:=h_ (kW.blk hc1 hS3)
 have D3:=h_ (hkt.kept (w':=W) (fun k hk=>kW.block k (hS1 k hk)))
 have e1:=Vg.cells_of D1.out 0
 have e3:=Vg.cells_of D3.out.tab 0
 simp at e1 e3
 rw[hKn]at hY ⊢
 have hrow0:=D3.out.row
 rw[hn]at hrow0
 have hcn:n<=sc:=hrow0.reads.len_le
 have hcm:sc<=9223372036854775807:=hrow0.reads.cap_le
 clear hrow0
 have H_hn:=h_ hn;have H_hKn:=h_ hKn;have H_hK:=h_ hK;clear hn hKn hK
 refine callsIn_of_wp Tryz.func202 rfl trivial ?_ rfl
 simp only[Tryz.ntmps202,List.size_toArray,List.length_cons,List.length_nil,Nat.reduceAdd,Nat.reduceSub,Array.replicate_succ,Array.replicate_zero,List.push_toArray,List.append_toArray,List.nil_append,List.cons_append]
 gi_wp2
 gi_loopw [10] (fun i wr=>∃j:Nat,j<=n/\i=.int .i64 j/\J (Vg.Kn.ables K j) wr/\Vg.Kept S W wr) (fun i _=>n-(intOf i).toNat)
 case atStart=>exact⟨0,by omega,rfl,hJ0,Vg.Kept.refl _ _⟩
 case round=>
  obtain⟨j,hj,rfl,hJj,hkp⟩:=hrel
  have d1:=hkp.blk D1.out hS3
  have d3:=D3.out.kept (w':=wr) (fun k hk=>hkp.block k (hS1 k hk))
  have c10:=Vg.cells_of d1 0
  have hB1:=Vg.lt_of d1
  have hbl:=d3.lt
  simp at c10
  by_cases hjl:j<n
  ·have hjx:j<xs.length:=by rw[H_hn.out];exact hjl
   have hrow:=d3.row
   rw[H_hn.out]at hrow
   obtain⟨g,o,rfl,-,hg,-,-,hcx⟩:=hrow.task H_hn.out j hjx
   have f0:=hcx 0 (by decide)
   have f1:=hcx 1 (by decide)
   have f2:=hcx 2 (by decide)
   have f3:=hcx 3 (by decide)
   have f4:=hcx 4 (by decide)
   have f5:=hcx 5 (by decide)
   have f6:=hcx 6 (by decide)
   have f7:=hcx 7 (by decide)
   have f8:=hcx 8 (by decide)
   have f9:=hcx 9 (by decide)
   have fa:=hcx 10 (by decide)
   have fb:=hcx 11 (by decide)
   have fc:=hcx 12 (by decide)
   clear hcx
   have e5:K[j]? = some xs[j].2:=by rw[<-H_hK.out,List.getElem?_map,List.getElem?_eq_getElem hjx];rfl
   have hju:=(d3.job j hjx).shape
   obtain⟨y,hy⟩:∃y,xs[j]=y:=⟨_,rfl⟩
   rw[hy]at f0 f1 f2 f3 f4 f5 f6 f7 f8 f9 fa fb fc e5 hju
   obtain⟨u,⟨yt,yJ,yl,yo⟩⟩:=y
   obtain⟨ja,jc,hju⟩:=hju
   simp only[]at hju
   subst hju
   obtain⟨N,hN⟩:∃N,yJ.length=N:=⟨_,rfl⟩
   simp only[Vg.kcell,hN,Nat.add_zero]at f0 f1 f2 f3 f4 f5 f6 f7 f8 f9 fa fb fc e5
   have hab:Vg.Kn.ableK K j=(decide (0<N) && !yo):=by unfold Vg.Kn.ableK;rw[e5];simp[hN]
   have hsn:=Vg.Kn.ables_succ K j
   have hol:=Vg.Kn.ables_len K j
   have hJa:=Vg.abides_grows hJ hJj ((Vg.Grows.refl wr).alloc (taV (.slice ja N jc) ⟨yt,yJ,yl,yo⟩))
   have hal:Vg.Kept S wr (wr.alloc (taV (.slice ja N jc) ⟨yt,yJ,yl,yo⟩)):=⟨by simp,fun z hz=>Below.heap_alloc _ _ _ (by have:=hlt z hz;have:=hkp.size;have:=hW.size;omega)⟩
   have d3a:=d3.grows ((Vg.Grows.refl wr).alloc (taV (.slice ja N jc) ⟨yt,yJ,yl,yo⟩))
   by_cases hN0:N=0
   ·have hz:¬(0:Int)<N:=by omega
    rw[hab]at hsn
    simp only[hN0,Nat.lt_irrefl,decide_false,Bool.false_and,Bool.false_eq_true,if_false,List.append_nil]at hsn
    have H_d1:=h_ d1;have H_d3:=h_ d3;have H_d3a:=h_ d3a;have H_hsn:=h_ hsn;have H_hol:=h_ hol;have H_hy:=h_ hy;have H_hN:=h_ hN;have H_e5:=h_ e5;have H_hab:=h_ hab;have H_hN0:=h_ hN0;clear d1 d3 d3a hsn hol hy hN e5 hab hN0
    gi_wp2_with fail
    refine⟨trivial,?_⟩
    gi_wp2_with fail
    refine⟨fun _ h=>(by cases h),?_⟩
    gi_wp2_with fail
    go_roundw
    case rel=>exact⟨j+1,by omega,by go_num,by rw[H_hsn.out];exact hJa,hkp.trans hal⟩
    case measure=>simp[intOf];omega
   ·have hz:(0:Int)<N:=by omega
    cases yo with
    | true=>
     rw[hab]at hsn
     simp only[Bool.not_true,Bool.and_false,Bool.false_eq_true,if_false,List.append_nil]at hsn
     have H_d1:=h_ d1;have H_d3:=h_ d3;have H_d3a:=h_ d3a;have H_hsn:=h_ hsn;have H_hol:=h_ hol;have H_hy:=h_ hy;have H_hN:=h_ hN;have H_e5:=h_ e5;have H_hab:=h_ hab;have H_hN0:=h_ hN0;clear d1 d3 d3a hsn hol hy hN e5 hab hN0
     gi_wp2_with fail
     refine⟨trivial,?_⟩
     gi_wp2_with fail
     refine⟨fun _ h=>(by cases h),?_⟩
     gi_wp2_with fail
     go_roundw
     case rel=>exact⟨j+1,by omega,by go_num,by rw[H_hsn.out];exact hJa,hkp.trans hal⟩
     case measure=>simp[intOf];omega
    | false=>
     have hN1:0<N:=by omega
     rw[hab]at hsn
     simp only[hN1,decide_true,Bool.not_false,Bool.and_true,if_true]at hsn
     obtain⟨lv,hlv⟩:∃lv,Vg.Kn.level K M j=lv:=⟨_,rfl⟩
     have hlv2:Vg.Kn.level (xs.map (·.2)) M j=lv:=by rw[H_hK.out];exact hlv
     have hlts:∀k,S k->k<wr.heap.size:=fun z hz=>by have:=hlt z hz;have:=hkp.size;have:=hW.size;omega
     have H_d1:=h_ d1;have H_d3:=h_ d3;have H_d3a:=h_ d3a;have H_hsn:=h_ hsn;have H_hol:=h_ hol;have H_hy:=h_ hy;have H_hN:=h_ hN;have H_e5:=h_ e5;have H_hab:=h_ hab;have H_hN0:=h_ hN0;have H_hlv:=h_ hlv;have H_hlv2:=h_ hlv2;have H_hlts:=h_ hlts;clear d1 d3 d3a hsn hol hy hN e5 hab hN0 hlv hlv2 hlts
     gi_wp2_with (refine⟨trivial,?_⟩;gi_at_call 128;refine(callsIn_wide.2 (kern_level j H_d3a.out H_hlv2.out)).mono ?_;rintro e w1 ⟨rfl,x1,n1,rfl⟩;have hJb:=Vg.abides_grows hJ hJa ((Vg.Grows.refl _).plus x1 n1);obtain⟨fn,tmps,assign,body,hy1',hR⟩:=hY (Vg.Kn.ables K j) j _ hJb (by have:=H_hol.out;omega);rw[H_hlv.out]at hy1';rw[<-H_hsn.out]at hR)
     refine hR.mono ?_
     rintro e W3 (⟨rfl,hJ3,hk3⟩|⟨rfl,hJx3⟩)
     ·gi_wp2
      go_roundw
      case rel=>exact⟨j+1,by omega,by go_num,hJ3,hkp.trans ((hal.trans (Vg.kept_grows ((Vg.Grows.refl _).plus x1 n1) (fun z hz=>by have:=H_hlts.out z hz;simp;omega))).trans hk3)⟩
      case measure=>simp[intOf];omega
     ·gi_wp2
      refine bodyPost_ret (results_none rfl _ _ _) rfl ?_
      exact⟨⟨_,rfl⟩,.inr ⟨_,trivial,hJx3⟩⟩
  ·have hje:j=n:=by omega
   subst hje
   clear d1 d3
   gi_wp2
   go_end0
   exact⟨⟨_,rfl⟩,.inl ⟨_,rfl,hJj⟩⟩
theorem kpick_in (b cb:Nat) (xs:List Vg.Kp) (rv cv:Value) (M:List Vg.Mx) (w:World) (h:KT w b xs rv cb M cv) (K:List Vg.Kt) (hK:xs.map (·.2)=K) (r:Int) (hr:Vg.Kn.best K M=r) (m:Int) (is:Bool) (hm:max r 0=m) (his:decide (0<=r)=is) :
  CallsIn Fence.wide 4 Tryz.prog 102 #[.pointer (some ⟨b,0,none⟩)] w fun e w'=>e=.returned (.tuple #[.int .i64 m,.bool is])/\Below w.heap.size w w':=by
 have hl2:∀k,kown b xs rv cb cv k->k<w.heap.size:=fun k hk=>(h.own k hk).2
 have hro:Fence.wide.round=none:=rfl
 have hn1:1<=4:=by omega
 have hSS:∀k,(kown b xs rv cb cv k\/k=w.heap.size+3)->k<w.heap.size+4/\k≠w.heap.size+1/\k≠w.heap.size+2:=by
  rintro k (hk|rfl)
  ·have:=hl2 k hk;omega
  ·omega
 have HSS:=h_ hSS
 clear hSS
 have H_h:=h_ h;have H_hK:=h_ hK;have H_hr:=h_ hr;have H_hm:=h_ hm;have H_his:=h_ his;clear h hK hr hm his
 refine callsIn_of_wp_marks Tryz.func102 rfl trivial ?_ rfl
 simp only[Tryz.ntmps102,List.size_toArray,List.length_cons,List.length_nil,Nat.reduceAdd,Nat.reduceSub,Array.replicate_succ,Array.replicate_zero,List.push_toArray,List.append_toArray,List.nil_append,List.cons_append]
 gi_wp2_with (first|(refine⟨trivial,?_⟩;gi_at_call 163;refine(callsIn_wide.2 (kern_iter b _)).mono ?_;rintro e w1 ⟨rfl,rfl⟩))
 have bK:=Boxed.new w 77 (.pointer (some ⟨b,0,none⟩))
 have bO:=Boxed.new (w.alloc (.cells #[.pointer (some ⟨b,0,none⟩)] 77)) 3 (.int .i64 (-1))
 have bP:=Boxed.new ((w.alloc (.cells #[.pointer (some ⟨b,0,none⟩)] 77)).alloc (.cells #[.int .i64 (-1)] 3)) 3 (.int .i64 (-1))
 simp only[World.size_alloc]at bO bP
 have hB0:Below w.heap.size w ((((w.alloc (.cells #[.pointer (some ⟨b,0,none⟩)] 77)).alloc (.cells #[.int .i64 (-1)] 3)).alloc (.cells #[.int .i64 (-1)] 3)).alloc (.cells #[.pointer (some ⟨b,0,none⟩)] 77)):=((((Below.refl _ w).alloc (Nat.le_refl _) _).alloc (by simp) _).alloc (by simp <;> omega) _).alloc (by simp <;> omega) _
 refine wpIn_rangeFunc_ownG hro hn1 (gf:=202) (lb:=#[.pointer (some ⟨w.heap.size+1+1+1,0,none⟩)]) rfl trivial (enters_of Tryz.func202 (by kernel_rfl) rfl)
  (kable_stops (4-1) (by omega) (fun k=>kown b xs rv cb cv k\/k=w.heap.size+3) (w.heap.size+1+1+1) b cb xs rv cv M K H_hK.out _ (fun j hj=>.inl hj) (.inr rfl)
   (by
     rintro k (hk|rfl)
     ·have:=hl2 k hk;simp;omega
     ·simp)
   (by go_simp) (H_h.out.grows (Vg.gro))) Vg.Kept.trans
  (Vg.Kept.putObj (by
            rintro k (hk|rfl)
            ·have:=hl2 k hk;simp;omega
            ·simp)) (Below.refl _ _) (fun _=>rfl)
  (fun pre W=>Boxed W w.heap.size 77 (.pointer (some ⟨b,0,none⟩))/\(Boxed W (w.heap.size+1) 3 (.int .i64 (Vg.Kn.pk K M pre (-1,-1)).1)/\(Boxed W (w.heap.size+2) 3 (.int .i64 (Vg.Kn.pk K M pre (-1,-1)).2)/\(w.heap.size+4<=W.heap.size/\Below w.heap.size w W))))
  (fun _ _ _=>False)
  (OwnFrom.and (Own.from (boxed_own _ _ _) _) (OwnFrom.and (Own.from (boxed_own _ _ _) _) (OwnFrom.and (Own.from (boxed_own _ _ _) _) (OwnFrom.and (Vg.ownFrom_size _ _) (ownFrom_below (Nat.le_refl _) (by simp;omega))))))
  (fun _ _ _ _ _ hs _ _=>hs)
  ⟨((bK.alloc _).alloc _).alloc _,(bO.alloc _).alloc _,by have:=bP.alloc (.cells #[.pointer (some ⟨b,0,none⟩)] 77);exact this,by simp,hB0⟩
  (fun x=>{ tmps:=#[.pointer (some ⟨b,0,none⟩),.pointer (some ⟨w.heap.size,0,none⟩),.int .i64 0,.bool false,.pointer (some ⟨w.heap.size+1,0,none⟩),.pointer (some ⟨w.heap.size+1+1,0,none⟩),.int .i64 x,.int .i64 (Vg.Kn.level K M x),.pointer (some ⟨b,0,none⟩),.func (.func 202) #[] #[.pointer (some ⟨w.heap.size+1+1+1,0,none⟩)],.int .i64 x,.int .i64 (Vg.Kn.level K M x),undef,undef,undef,undef,undef,undef,undef,undef,undef,undef,undef,undef,undef,undef,undef,undef,undef,undef,undef],defers:=[] }) ?assign ?body ?done ?stop
 case assign=>
  intro l x W K hK
  gi_wp2
  exact hK
 case body=>
  rintro l pre x W ⟨hk0,hv,hu,hsz,hB⟩ hlt
  have hc0:=hk0.cell
  have hc1:=hv.cell
  have hc2:=hu.cell
  have hf1:=hv.frozen
  have hf2:=hu.frozen
  have hkt:=H_h.out.kept (w':=W) (fun k hk=>hB.block k (hl2 k hk))
  have hz1:w.heap.size+1<W.heap.size:=by omega
  have hz2:w.heap.size+2<W.heap.size:=by omega
  have hpk:=Vg.Kn.pk_snoc K M pre x (-1,-1)
  obtain⟨⟨pb,pm⟩,hpm⟩:∃p,Vg.Kn.pk K M pre (-1,-1)=p:=⟨_,rfl⟩
  obtain⟨lv,hlv⟩:∃lv,Vg.Kn.level K M x=lv:=⟨_,rfl⟩
  rw[hpm]at hc1 hc2 hpk hv hu
  rw[hlv]at hpk ⊢
  have HB:=h_ hB
  have H0:=h_ hk0
  have HV:=h_ hv
  have HU:=h_ hu
  clear hB hv hu hk0
  by_cases hc:pm<lv
  ·rw[if_pos (.inl hc)]at hpk
   have heb:(lv==pm)=false:=by simp;omega
   have H_hpk:=h_ hpk;have H_hpm:=h_ hpm;have H_hlv:=h_ hlv;have H_hkt:=h_ hkt;clear hpk hpm hlv hkt
   gi_wp2_with fail
   ·rename_i hu _
    exact absurd hu (by simp[undef])
   ·rename_i hu _
    exact absurd hu (by simp[undef])
   refine⟨trivial,?_⟩
   gi_wp2_with fail
   refine⟨((KeepsOthers.setCell _ _ _).trans (KeepsOthers.setCell _ _ _)).from _,⟨by simp,fun z hz=>?_⟩,?_,?_,?_,by simp;omega,?_⟩
   ·obtain⟨h1,h2,h3⟩:=HSS.out z hz
    rw[Below.heap_setCell _ _ _ z h3,Below.heap_setCell _ _ _ z h2]
   ·exact(H0.out.kept (grownBy_setCell' _ (w.heap.size+1) _) (by simp)).kept (grownBy_setCell' _ (w.heap.size+2) _) (by simp)
   ·rw[H_hpk.out]
    exact(HV.out.set _).kept (grownBy_setCell' _ (w.heap.size+2) _) (by simp)
   ·rw[H_hpk.out]
    exact(HU.out.kept (grownBy_setCell' W (w.heap.size+1) _) (by simp)).set _
   ·exact HB.out.trans (((Below.refl _ W).setCell (p:=⟨w.heap.size+1,0,none⟩) (show w.heap.size<=w.heap.size+1 by omega) _).setCell (p:=⟨w.heap.size+2,0,none⟩) (show w.heap.size<=w.heap.size+2 by omega) _)
  ·by_cases he:lv=pm
   ·subst he
    have heb:(lv==lv)=true:=by simp
    obtain⟨hd,hhd⟩:∃hd,Vg.Kn.holds K M x=hd:=⟨_,rfl⟩
    have hhd2:Vg.Kn.holds (xs.map (·.2)) M x=hd:=by rw[H_hK.out];exact hhd
    rw[hhd]at hpk
    cases hd with
    | true=>
     rw[if_pos (.inr ⟨rfl,rfl⟩)]at hpk
     have H_hpk:=h_ hpk;have H_hpm:=h_ hpm;have H_hlv:=h_ hlv;have H_hkt:=h_ hkt;have H_hhd:=h_ hhd;have H_hhd2:=h_ hhd2;clear hpk hpm hlv hkt hhd hhd2
     gi_wp2_with (refine⟨trivial,?_⟩;gi_at_call 164;refine(callsIn_wide.2 (kern_holds x H_hkt.out H_hhd2.out)).mono ?_;rintro e w1 ⟨rfl,x1,n1,rfl⟩)
     obtain⟨W2,hW2⟩:∃W2,(W.setCell ⟨w.heap.size+1,0,none⟩ (.int .i64 x)).setCell ⟨w.heap.size+2,0,none⟩ (.int .i64 lv)=W2:=⟨_,rfl⟩
     have s1:KeepsOthers W W2:=by rw[<-hW2];exact(KeepsOthers.setCell _ _ _).trans (KeepsOthers.setCell _ _ _)
     have s2:∀z,(kown b xs rv cb cv z\/z=w.heap.size+3)->W2.heap[z]? = W.heap[z]?:=fun z hz=>by
      obtain⟨h1,h2,h3⟩:=HSS.out z hz
      rw[<-hW2,Below.heap_setCell _ _ _ z h3,Below.heap_setCell _ _ _ z h2]
     have s3:Boxed W2 w.heap.size 77 (.pointer (some ⟨b,0,none⟩)):=by
      rw[<-hW2];exact(H0.out.kept (grownBy_setCell' _ (w.heap.size+1) _) (by simp)).kept (grownBy_setCell' _ (w.heap.size+2) _) (by simp)
     have s4:Boxed W2 (w.heap.size+1) 3 (.int .i64 x):=by
      rw[<-hW2];exact(HV.out.set _).kept (grownBy_setCell' _ (w.heap.size+2) _) (by simp)
     have s5:Boxed W2 (w.heap.size+2) 3 (.int .i64 lv):=by
      rw[<-hW2];exact(HU.out.kept (grownBy_setCell' W (w.heap.size+1) _) (by simp)).set _
     have s6:Below w.heap.size w W2:=by
      rw[<-hW2];exact HB.out.trans (((Below.refl _ W).setCell (p:=⟨w.heap.size+1,0,none⟩) (show w.heap.size<=w.heap.size+1 by omega) _).setCell (p:=⟨w.heap.size+2,0,none⟩) (show w.heap.size<=w.heap.size+2 by omega) _)
     have s7:W2.heap.size=W.heap.size:=by rw[<-hW2];simp
     rw[hW2]
     have hg1:Vg.Grows W2 (Vg.plus W2 x1 n1):=(Vg.Grows.refl W2).plus x1 n1
     have hG:=Vg.grownBy_grows hg1
     refine⟨(s1.trans (Vg.keepsO_grows hg1)).from _,⟨by have:=hg1.size;omega,fun z hz=>(hg1.below.block z (by have:=HSS.out z hz;omega)).trans (s2 z hz)⟩,s3.kept hG (by simp),?_,?_,by have:=hg1.size;omega,s6.trans (hg1.below.mono (by omega))⟩
     ·rw[H_hpk.out];exact s4.kept hG (by simp)
     ·rw[H_hpk.out];exact s5.kept hG (by simp)
    | false=>
     rw[if_neg (fun h=>by rcases h with h|h;exact hc h;exact absurd h.2 (by simp))]at hpk
     have H_hpk:=h_ hpk;have H_hpm:=h_ hpm;have H_hlv:=h_ hlv;have H_hkt:=h_ hkt;have H_hhd:=h_ hhd;have H_hhd2:=h_ hhd2;clear hpk hpm hlv hkt hhd hhd2
     gi_wp2_with (refine⟨trivial,?_⟩;gi_at_call 164;refine(callsIn_wide.2 (kern_holds x H_hkt.out H_hhd2.out)).mono ?_;rintro e w1 ⟨rfl,x1,n1,rfl⟩)
     have hg1:Vg.Grows W (Vg.plus W x1 n1):=(Vg.Grows.refl W).plus x1 n1
     have hG:=Vg.grownBy_grows hg1
     refine⟨(Vg.keepsO_grows hg1).from _,Vg.kept_grows hg1 (fun z hz=>by have:=HSS.out z hz;omega),H0.out.kept hG (by simp),?_,?_,by have:=hg1.size;omega,HB.out.trans (hg1.below.mono (by omega))⟩
     ·rw[H_hpk.out];exact HV.out.kept hG (by simp)
     ·rw[H_hpk.out];exact HU.out.kept hG (by simp)
   ·have heb:(lv==pm)=false:=by simp[he]
    rw[if_neg (fun h=>by rcases h with h|h;exact hc h;exact he h.1)]at hpk
    have H_hpk:=h_ hpk;have H_hpm:=h_ hpm;have H_hlv:=h_ hlv;have H_hkt:=h_ hkt;clear hpk hpm hlv hkt
    gi_wp2_with fail
    refine⟨trivial,?_⟩
    gi_wp2_with fail
    refine⟨(KeepsOthers.refl _).from _,Vg.Kept.refl _ _,H0.out,?_,?_,hsz,HB.out⟩
    ·rw[H_hpk.out];exact HV.out
    ·rw[H_hpk.out];exact HU.out
 case done=>
  rintro D ys W hD rfl ⟨hk0,hv,hu,hsz,hB⟩ hK
  have hc:=hv.cell
  have hbest:=H_hr.out
  unfold Vg.Kn.best at hbest
  rw[hbest]at hc
  have hmm:=H_hm.out
  have hii:=H_his.out
  have hmr:(r<0/\m=0/\is=false)\/(¬r<0/\m=r/\is=true):=by
   by_cases h0:r<0
   ·exact .inl ⟨h0,by omega,by rw[<-hii];simp;omega⟩
   ·exact .inr ⟨h0,by omega,by rw[<-hii];simp;omega⟩
  clear hmm hii
  rcases hmr with⟨h0,rfl,rfl⟩|⟨h0,rfl,rfl⟩
  all_goals
   have H_hv:=h_ hv;have H_hu:=h_ hu;have H_hB:=h_ hB;have H_hbest:=h_ hbest;have H_hk0:=h_ hk0;clear hv hu hB hbest hk0
   gi_wp2
   gi_region
   all_goals gi_wp2
   all_goals refine⟨by simp,.inl ⟨_,_,rfl,run_takeDeferred hK,?_⟩⟩
   all_goals exact⟨_,results_tmp2 rfl _ _ _,by simp <;> omega,(Below.drew H_hB.out).trans (belowK_b (w:=w) (Nat.le_refl _) W.drew D _ _ (by simp at hD;omega) hK rfl rfl)⟩
 case stop=>
  rintro D c pre W _ _ h _
  exact h.elim
theorem kern_pick{w:World}{b cb:Nat}{xs:List Vg.Kp}{rv cv:Value}{M:List Vg.Mx}(h:KT w b xs rv cb M cv){r m:Int}{is:Bool}(hr:Vg.Kn.best (xs.map (·.2)) M=r)(hm:max r 0=m)(his:decide (0<=r)=is):
  Calls Tryz.prog 102 #[.pointer (some ⟨b,0,none⟩)] w fun e w'=>e=.returned (.tuple #[.int .i64 m,.bool is])/\Vg.Grows w w':=by
 refine((callsIn_wide (n:=4)).1 (kpick_in b cb xs rv cv M w h _ rfl r hr m is hm his)).mono ?_
 rintro e w' ⟨rfl,hb⟩
 exact⟨rfl,Vg.Grows.of_below hb⟩
end Go.Proofs.YtlkdkgefjipjmaaGreatDoor
