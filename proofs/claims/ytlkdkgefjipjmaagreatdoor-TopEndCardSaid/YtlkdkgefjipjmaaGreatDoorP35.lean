/- VetJ (put together). -/
import Derived.Test.YtlkdkgefjipjmaaGreatDoorP34
import Derived.Test.YtlkdkgefjipjmaaGreatDoorQ0
set_option linter.all false
set_option maxHeartbeats 40000000
set_option maxRecDepth 100000
namespace Vg
open Go
theorem Touch.ge{w w':World}(h:Touch (fun k=>w.heap.size<=k) w w'):Grows w w':=h.grows (Grows.refl w) fun k hk=>hk
theorem ics_get{L:List Int}{j:Nat}(h:j<(ics L).length)(h':j<L.length):(ics L)[j]=.int .i64 L[j]:=by simp[ics]
theorem Que.ints{w:World}{B n:Nat}{e:TypeId}{a:Option Addr}{c:Nat}{L:List Int}(h:Que w B e 1 (.slice a n c) n (ics L))(hn:L.length=n)(j:Nat)(hj:j<L.length):
  ∃g off,a=some ⟨g,off,none⟩/\B<=g/\g<w.heap.size/\n<=c/\c<=9223372036854775807/\w.cell? ⟨g,off+j,none⟩=some (.int .i64 L[j]):=by
 rcases h.reads with⟨_,h0,_⟩|⟨g,off,cap,hsv,h2,h3,h4,h5,h6⟩
 ·omega
 ·simp only[Value.slice.injEq]at hsv
  obtain⟨rfl,_,rfl⟩:=hsv
  have hj':j<(ics L).length:=by simpa[ics]using hj
  exact⟨g,off,rfl,h2,h3,h4,by unfold maxLen at h5;omega,by rw[h6 j hj',ics_get hj' hj]⟩
theorem Vt.prios_get{C:Cf}{j:Nat}(h:j<(Vt.ps C).length):(Vt.prios C).take (j+1)=(Vt.prios C).take j ++ [Vt.pf (Vt.ps C) j (Vt.ps C)[j]]/\Vt.pf (Vt.ps C) j (Vt.ps C)[j]∈Vt.prios C:=by
 have hl:j<(Vt.prios C).length:=by simpa[Vt.prios]using h
 have he:(Vt.prios C)[j]=Vt.pf (Vt.ps C) j (Vt.ps C)[j]:=by simp[Vt.prios]
 exact⟨by rw[List.take_succ_eq_append_getElem hl,he],by rw[<-he];exact List.getElem_mem hl⟩
theorem BMap.congr{P:Program}{k e:TypeId}{w:World}{b n:Nat}{f g:Int->Bool}(h:BMap w P k e b n f)(hfg:∀z,f z=g z):BMap w P k e b n g:=by
 rw[<-funext hfg];exact h
end Vg
namespace Go.Proofs.YtlkdkgefjipjmaaGreatDoor
open Go.ChangeShapes Go.WideShapes Go.ChangeAt Go.RowKit Go.Shelf
attribute [local go_sem] Oper.semAt_some
theorem one_new'{w:World}{x:Value}{t:TypeId}{n:Nat}(hn:n=w.heap.size):∀j q,[x][j]? = some q->(w.alloc (.cells #[x] t)).cell? ((⟨n,0,none⟩:Addr).add j)=some q:=by subst hn;exact cell_one_new _ _ _
abbrev faV(x:Vg.Fau):Value:=.agg #[.int .u8 x.pt,.int .i64 x.at_,.int .i64 x.why]
theorem prios_in(kk:Nat)(hkk:1<=kk){Lk:List Vg.Fau}(C:Vg.Cf)(v:Cv)(cb l:Nat)(J Jx:List {x // x∈Lk}->World->Prop)(W:World)(B:Nat)(pre0:List {x // x∈Lk})(N:Nat)
  (hb:Vg.blk W cb=some (cfO C v))(hR:CR W C v)(hT:C.T.length<=32)(hH:C.H.length<=64)(hwf:∀p∈Vg.Vt.ps C,(Lit.int .i64 p).wf=true)(hl:l<W.heap.size)(hB:B<=W.heap.size)
  (hJ:AbidesFrom B J)(hJ2:∀pre X Y,J pre X->Vg.Touch (fun k=>B<=k) X Y->J pre Y)
  (hY:∀pre x W1,J pre W1->pre.length<N->YieldAt Fence.wide (kk-1) Tryz.prog l #[faV x.1] W1 fun e W'=>(e=.returned (.bool true)/\J (pre ++ [x]) W'/\Vg.Round (fun _=>False) l W1 W')\/(e=.returned (.bool false)/\Jx (pre ++ [x]) W'))
  (hN:pre0.length+(Vg.Vt.ps C).length<=N)(hmk:∀x∈Vg.Vt.prios C,x∈Lk)(hJ0:J pre0 W):
  CallsIn Fence.wide kk Tryz.prog 194 #[.func (.yield l) #[] #[],.pointer (some ⟨cb,0,none⟩)] W fun e W'=>(∃v,e=.returned v)/\((∃xs,xs.map (·.1)=pre0.map (·.1)++Vg.Vt.prios C/\J xs W') \/ ∃pre,Jx pre W'):=by
 obtain⟨i0,hI,hz0,hz1,hz2⟩:=info_parts Tryz.info_int5
 have hmm:=@run_makeMap Tryz.prog
 obtain⟨nt,hnt⟩:∃nt,C.T.length=nt:=⟨_,rfl⟩
 obtain⟨nh,hnh⟩:∃nh,C.H.length=nh:=⟨_,rfl⟩
 rw[hnt]at hT
 rw[hnh]at hH
 have hJt:∀X,Vg.Touch (fun k=>W.heap.size<=k) W X->J pre0 X:=fun X ht=>hJ2 _ _ _ hJ0 (ht.mono fun k _ hk=>by omega)
 have hlb:=Vg.lt_of hb
 have hb0:=hb
 simp only[cfO,hnt,hnh]at hb
 obtain⟨c_hb,f_hb,p_hb,l_hb,H_hb⟩:=Vg.lay hb;clear hb
 have H_hb0:=h_ hb0;have H_hR:=h_ hR;have H_hwf:=h_ hwf;have H_hJ:=h_ hJ;have H_hJ2:=h_ hJ2;have H_hY:=h_ hY;have H_hmk:=h_ hmk;have H_hJ0:=h_ hJ0;have H_hnt:=h_ hnt;have H_hnh:=h_ hnh;have H_hJt:=h_ hJt;clear hb0 hR hwf hJ hJ2 hY hmk hJ0 hnt hnh hJt
 refine callsIn_of_wp Tryz.func194 rfl trivial ?_ rfl
 simp only[Tryz.ntmps194,List.size_toArray,List.length_cons,List.length_nil,Nat.reduceAdd,Nat.reduceSub,Array.replicate_succ,Array.replicate_zero,List.push_toArray,List.append_toArray,List.nil_append,List.cons_append]
 gi_wp2
 gi_loopw [4,16] (fun va i wr=>∃j:Nat,j<=nt/\i=.int .i64 j/\Vg.Que wr (W.heap.size+1) 3 1 va j (Vg.ics ((C.T.take j).map (·.pr)))/\Vg.Touch (fun k=>W.heap.size<=k) W wr/\Vg.BMap wr Tryz.prog 3 4 W.heap.size 0 (fun _=>false)) (fun _ i _=>nt-(intOf i).toNat)
 case atStart=>exact⟨0,by omega,rfl,by simpa using Vg.Que.nil _ _ _ _,Vg.Touch.of_grows ((Vg.Grows.refl W).alloc _),Vg.BMap.made W Tryz.prog 3 4⟩
 case round=>
  obtain⟨j,hj,rfl,hq,ht,hbm⟩:=hrel
  obtain⟨a9,c9,rfl⟩:=hq.shape
  have hgr:=ht.ge
  have hsz:=hgr.size
  have hcb:=hgr.blk H_hb.out
  have hmb:=hbm.lt
  clear c_hb f_hb p_hb
  by_cases hlt:j<nt
  ·have hjT:j<C.T.length:=by rw[H_hnt.out];exact hlt
   have hjI:(j:Int)<nt:=by omega
   obtain⟨g,off,hva,hg,hc⟩:=(H_hR.out.1.grows hgr).2.2 j hjT
   have htk:=(H_hR.out.1).1
   have htm:=(H_hR.out.1).2.1
   have hsn:=List.take_succ_eq_append_getElem hjT
   obtain⟨t,htt⟩:∃t,C.T[j]=t:=⟨_,rfl⟩
   rw[htt]at hsn hc
   have c0:=hc 0 (by decide)
   have c1:=hc 1 (by decide)
   have c2:=hc 2 (by decide)
   have c3:=hc 3 (by decide)
   have c4:=hc 4 (by decide)
   have c5:=hc 5 (by decide)
   have c6:=hc 6 (by decide)
   have c7:=hc 7 (by decide)
   have c8:=hc 8 (by decide)
   have c9':=hc 9 (by decide)
   simp only[Vg.tkcell,Nat.add_zero]at c0 c1 c2 c3 c4 c5 c6 c7 c8 c9'
   clear hc
   rw[hva]
   have htc:nt<=v.tc:=by rw[<-H_hnt.out];exact htk
   have htc2:v.tc<=9223372036854775807:=htm
   have H_hq:=h_ hq;have H_ht:=h_ ht;have H_hbm:=h_ hbm;have H_hgr:=h_ hgr;have H_hsn:=h_ hsn;have H_htt:=h_ htt;have H_hva:=h_ hva;have H_htk:=h_ htk;have H_htm:=h_ htm;have H_hcb:=h_ hcb;clear hq ht hbm hgr hsn htt hva htk htm hcb
   gi_wp2_with (gi_at_builtin;go_loud (refine Vg.wpListIn_que1 rfl _ _ 138 rfl (W.heap.size+1) 3 i0 (.int .i64 0) 1 8 Tryz.underlying138 hI hz0 hz1 hz2 rfl (by decide) _ j _ rfl (H_hq.out.grows (Vg.gro)) _ 1 [.int .i64 t.pr] rfl rfl (one_new' (by simp)) (by simp[Value.oneCell']) (by unfold maxLen;omega) (by omega) (by omega) (by simp;omega) ?_);intro v2 W2 y2 m2 hq2 hsm2 ho2;obtain⟨a2,c2,rfl⟩:=hq2.shape;have H_hq2:=h_ hq2;have H_hsm2:=h_ hsm2;have H_ho2:=h_ ho2;clear hq2 hsm2 ho2)
   go_roundw
   case rel=>
    refine⟨j+1,by omega,by go_num,by rw[H_hsn.out,List.map_append];simpa[Vg.ics]using H_hq2.out,?_,?_⟩
    all_goals have hto:Vg.Touch (fun q=>(Value.slice a9 j c9).ownBlock=some q) wr (Vg.plus W2 y2 m2):=(Vg.Touch.of_grows (Vg.gro)).trans ((Vg.Touch.of_same H_hsm2.out).trans (Vg.Touch.of_grows ((Vg.Grows.refl W2).plus y2 m2)))
    ·exact H_ht.out.next hto fun q hq=>.inr (by have:=(H_hq.out.lt q hq).1;omega)
    ·exact H_hbm.out.keep (hto.block _ hmb fun e=>by have:=(H_hq.out.lt _ e).1;omega)
   case measure=>simp[intOf];omega
  ·have hje:j=nt:=by omega
   subst hje
   have htl:C.T.take j=C.T:=by rw[<-H_hnt.out];exact List.take_length
   rw[htl]at hq
   obtain⟨c_hcb,f_hcb,p_hcb,l_hcb,H_hcb⟩:=Vg.lay hcb;clear hcb
   have H_hq:=h_ hq;have H_ht:=h_ ht;have H_hbm:=h_ hbm;have H_hgr:=h_ hgr;have H_htl:=h_ htl;clear hq ht hbm hgr htl
   obtain⟨wQ,hwQ⟩:∃wQ,wQ=wr:=⟨_,rfl⟩
   subst hwQ
   gi_wp2
   gi_loopw [4,29] (fun va i wr=>∃i2:Nat,i2<=nh/\i=.int .i64 i2/\Vg.Que wr (W.heap.size+1) 3 1 va (j+i2) (Vg.ics (C.T.map (·.pr)++(C.H.take i2).map (·.pr)))/\Vg.Touch (fun k=>W.heap.size<=k) W wr/\Vg.BMap wr Tryz.prog 3 4 W.heap.size 0 (fun _=>false)) (fun _ i _=>nh-(intOf i).toNat)
   case atStart=>exact⟨0,by omega,rfl,by simpa using H_hq.out,H_ht.out,H_hbm.out⟩
   case round=>
    clear c_hcb f_hcb p_hcb l_hcb
    obtain⟨i2,hj2,rfl,hq2,ht2,hbm2⟩:=hrel
    obtain⟨a8,c8,rfl⟩:=hq2.shape
    have hgr2:=ht2.ge
    have hsz2:=hgr2.size
    have hmb2:=hbm2.lt
    by_cases hlt2:i2<nh
    ·have hjT:i2<C.H.length:=by rw[H_hnh.out];exact hlt2
     have hjI:(i2:Int)<nh:=by omega
     obtain⟨g,off,hva,hg,d0,d1,d2,d3⟩:=(H_hR.out.2.2.grows hgr2).2.2 i2 hjT
     have htk:=(H_hR.out.2.2).1
     have htm:=(H_hR.out.2.2).2.1
     have hsn:=List.take_succ_eq_append_getElem hjT
     obtain⟨t,htt⟩:∃t,C.H[i2]=t:=⟨_,rfl⟩
     rw[htt]at hsn d0 d1 d2 d3
     rw[hva]
     have htc:nh<=v.hc:=by rw[<-H_hnh.out];exact htk
     have htc2:v.hc<=9223372036854775807:=htm
     have H_hq2:=h_ hq2;have H_ht2:=h_ ht2;have H_hbm2:=h_ hbm2;have H_hgr2:=h_ hgr2;have H_hsn:=h_ hsn;have H_htt:=h_ htt;have H_hva:=h_ hva;have H_htk:=h_ htk;have H_htm:=h_ htm;clear hq2 ht2 hbm2 hgr2 hsn htt hva htk htm
     gi_wp2_with (gi_at_builtin;go_loud (refine Vg.wpListIn_que1 rfl _ _ 138 rfl (W.heap.size+1) 3 i0 (.int .i64 0) 1 8 Tryz.underlying138 hI hz0 hz1 hz2 rfl (by decide) _ (j+i2) _ rfl (H_hq2.out.grows (Vg.gro)) _ 1 [.int .i64 t.pr] rfl rfl (one_new' (by simp)) (by simp[Value.oneCell']) (by unfold maxLen;omega) (by omega) (by omega) (by simp;omega) ?_);intro v3 W3 y3 m3 hq3 hsm3 ho3;obtain⟨a3,c3,rfl⟩:=hq3.shape;have H_hq3:=h_ hq3;have H_hsm3:=h_ hsm3;have H_ho3:=h_ ho3;clear hq3 hsm3 ho3)
     go_roundw
     case rel=>
      refine⟨i2+1,by omega,by go_num,by rw[<-Nat.add_assoc,H_hsn.out,List.map_append,<-List.append_assoc];simpa[Vg.ics]using H_hq3.out,?_,?_⟩
      all_goals have hto:Vg.Touch (fun q=>(Value.slice a8 (j+i2) c8).ownBlock=some q) wr (Vg.plus W3 y3 m3):=(Vg.Touch.of_grows (Vg.gro)).trans ((Vg.Touch.of_same H_hsm3.out).trans (Vg.Touch.of_grows ((Vg.Grows.refl W3).plus y3 m3)))
      ·exact H_ht2.out.next hto fun q hq=>.inr (by have:=(H_hq2.out.lt q hq).1;omega)
      ·exact H_hbm2.out.keep (hto.block _ hmb2 fun e=>by have:=(H_hq2.out.lt _ e).1;omega)
     case measure=>simp[intOf];omega
    ·have hje:i2=nh:=by omega
     subst hje
     have hhl:C.H.take i2=C.H:=by rw[<-H_hnh.out];exact List.take_length
     rw[hhl]at hq2
     have hps:C.T.map (·.pr)++C.H.map (·.pr)=Vg.Vt.ps C:=rfl
     have hpl:(Vg.Vt.ps C).length=j+i2:=by rw[<-hps,List.length_append,List.length_map,List.length_map,H_hnt.out,H_hnh.out]
     rw[hps]at hq2
     have hJ9:=H_hJt.out _ ht2
     obtain⟨n,hn⟩:∃n,j+i2=n:=⟨_,rfl⟩
     rw[hn]at hq2 hpl ⊢
     rw[hpl]at hN
     obtain⟨wQ2,hwQ2⟩:∃wQ2,wQ2=wr:=⟨_,rfl⟩
     subst hwQ2
     have H_hq2:=h_ hq2;have H_ht2:=h_ ht2;have H_hbm2:=h_ hbm2;have H_hgr2:=h_ hgr2;have H_hhl:=h_ hhl;have H_hps:=h_ hps;have H_hpl:=h_ hpl;have H_hJ9:=h_ hJ9;have H_hn:=h_ hn;clear hq2 ht2 hbm2 hgr2 hhl hps hpl hJ9 hn
     gi_wp2
     gi_loopw [41] (fun i wr=>∃(x:Nat)(pre:List {x // x∈Lk}),x<=n/\i=.int .i64 x/\pre.map (·.1)=pre0.map (·.1)++(Vg.Vt.prios C).take x/\J pre wr/\Vg.Que wr (W.heap.size+1) 3 1 (.slice a8 n c8) n (Vg.ics (Vg.Vt.ps C))/\Vg.BMap wr Tryz.prog 3 4 W.heap.size x (fun z=>((Vg.Vt.ps C).take x).contains z)) (fun i _=>n-(intOf i).toNat)
     case atStart=>exact⟨0,pre0,by omega,rfl,by simp,H_hJ9.out,H_hq2.out,H_hbm2.out.congr fun z=>by simp⟩
     case round=>
      obtain⟨x,pre,hx,rfl,hpre,hJp,hq3,hbm3⟩:=hrel
      have hmb3:=hbm3.lt
      by_cases hlx:x<n
      ·have hlx2:x<(Vg.Vt.ps C).length:=by rw[H_hpl.out];exact hlx
       have hxI:(x:Int)<n:=by omega
       obtain⟨g,off,hva,hg0,hg,hc1,hc2,d0⟩:=hq3.ints H_hpl.out x hlx2
       obtain⟨p,hp⟩:∃p,(Vg.Vt.ps C)[x]=p:=⟨_,rfl⟩
       have hwp:=H_hwf.out p (by rw[<-hp];exact List.getElem_mem hlx2)
       have hpg:=Vg.Vt.prios_get hlx2
       have hsn:=List.take_succ_eq_append_getElem hlx2
       rw[hp]at d0 hpg hsn
       have hlen:pre.length<N:=by
        have h9:=congrArg List.length hpre
        simp only[List.length_map,List.length_append,List.length_take]at h9
        omega
       have hmem:=H_hmk.out _ hpg.2
       rw[hva]at hq3 ⊢
       cases hcon:((Vg.Vt.ps C).take x).contains p with
       | true=>
        have hfa:faV (Vg.Vt.pf (Vg.Vt.ps C) x p)=.agg #[.int .u8 7,.int .i64 x,.int .i64 12]:=by
         have h9:p∈(Vg.Vt.ps C).take x:=by simpa using hcon
         simp[faV,Vg.Vt.pf,h9]
        have hY3:∀w4,J pre w4->YieldAt Fence.wide (kk-1) Tryz.prog l #[.agg #[.int .u8 7,.int .i64 x,.int .i64 12]] w4 fun e W'=>(e=.returned (.bool true)/\J (pre ++ [⟨_,hmem⟩]) W'/\Vg.Round (fun _=>False) l w4 W')\/(e=.returned (.bool false)/\Jx (pre ++ [⟨_,hmem⟩]) W'):=fun w4 h4=>by
         have h9:=H_hY.out pre ⟨_,hmem⟩ w4 h4 hlen
         have e9:faV (⟨_,hmem⟩:{x // x∈Lk}).1=.agg #[.int .u8 7,.int .i64 x,.int .i64 12]:=hfa
         rw[e9]at h9
         exact h9
        have H_hpre:=h_ hpre;have H_hJp:=h_ hJp;have H_hq3:=h_ hq3;have H_hbm3:=h_ hbm3;have H_hp:=h_ hp;have H_hpg:=h_ hpg;have H_hsn:=h_ hsn;have H_hcon:=h_ hcon;have H_hfa:=h_ hfa;have H_hY3:=h_ hY3;have H_hva:=h_ hva;clear hpre hJp hq3 hbm3 hp hpg hsn hcon hfa hY3 hva
        gi_wp2_with (first|(gi_at_lookup;go_loud (refine Vg.wpListIn_lookup_bool _ rfl _ _ 206 rfl 3 4 Tryz.underlying3 Tryz.underlying206 Tryz.underlying4 (zeroB _) rfl H_hbm3.out _ rfl hwp ?_);rw[H_hcon.out])|(gi_at_mapUpdate;go_loud (refine Vg.wpListIn_mapUpdate_bool _ rfl _ _ _ 206 rfl 3 4 Tryz.underlying3 Tryz.underlying206 Tryz.underlying4 rfl H_hbm3.out (by unfold maxLen;omega) _ rfl hwp true rfl ?_);intro w3 hbm4 ht4;have hJ4:=H_hJ2.out _ _ _ H_hJp.out (ht4.mono (t':=fun k=>B<=k) fun k _ hk=>by rw[hk];exact hB);have hs4:=ht4.size;have H_hbm4:=h_ hbm4;have H_ht4:=h_ ht4;have H_hJ4:=h_ hJ4;clear hbm4 ht4 hJ4)|(refine⟨trivial,?_⟩;gi_at_call 130;refine(callsIn_wide.2 (vet_found 7 x 12 _)).mono ?_;rintro e w4 ⟨rfl,hg4⟩;have hJ5:=H_hJ2.out _ _ _ H_hJ4.out (Vg.Touch.of_grows hg4);obtain⟨fn9,tmps9,assign9,body9,hy9,hR9⟩:=H_hY3.out w4 hJ5;have hs5:=hg4.size;have H_hJ5:=h_ hJ5;have H_hg4:=h_ hg4;clear hJ5 hg4))
        refine hR9.mono ?_
        rintro e W9 (⟨rfl,hJ9',hk9⟩|⟨rfl,hJx9⟩)
        ·have ht9:Vg.Touch (fun k=>k=W.heap.size\/k=l\/k+1=l) wr W9:=(H_ht4.out.mono fun k _ hk=>.inl hk).trans ((Vg.Touch.of_grows H_hg4.out).trans (hk9.mono fun k _ hk=>by rcases hk with hk|hk|hk;exact hk.elim;exact .inr (.inl hk);exact .inr (.inr hk)))
         have hb9:=H_hbm4.out.keep (((Vg.Touch.of_grows H_hg4.out).trans hk9).block W.heap.size H_hbm4.out.lt fun hk=>by rcases hk with hk|hk|hk;exact hk.elim;omega;omega)
         have hq9:=H_hq3.out.kept (w':=W9) fun q hq=>ht9.block q (H_hq3.out.lt q hq).2 fun hk=>by have:=(H_hq3.out.lt q hq).1;omega
         have H_ht9:=h_ ht9;have H_hb9:=h_ hb9;have H_hq9:=h_ hq9;have H_hJ9':=h_ hJ9';have H_hk9:=h_ hk9;clear ht9 hb9 hq9 hJ9' hk9
         gi_wp2
         go_roundw
         case rel=>
          refine⟨x+1,pre ++ [⟨_,hmem⟩],by omega,by go_num,by rw[List.map_append,H_hpre.out,H_hpg.out.1,List.append_assoc];rfl,H_hJ9'.out,H_hq9.out,H_hb9.out.congr fun z=>?_⟩
          rw[H_hsn.out]
          by_cases hz:z=p<;>simp[hz]
         case measure=>simp[intOf];omega
        ·gi_wp2
         (first|go_end0|refine bodyPost_ret (results_none rfl _ _ _) rfl ?_)
         exact⟨⟨_,rfl⟩,.inr ⟨_,hJx9⟩⟩
       | false=>
        have hfa:faV (Vg.Vt.pf (Vg.Vt.ps C) x p)=.agg #[.int .u8 7,.int .i64 x,.int .i64 0]:=by
         have h9:¬p∈(Vg.Vt.ps C).take x:=by simpa using hcon
         simp[faV,Vg.Vt.pf,h9]
        have hY3:∀w4,J pre w4->YieldAt Fence.wide (kk-1) Tryz.prog l #[.agg #[.int .u8 7,.int .i64 x,.int .i64 0]] w4 fun e W'=>(e=.returned (.bool true)/\J (pre ++ [⟨_,hmem⟩]) W'/\Vg.Round (fun _=>False) l w4 W')\/(e=.returned (.bool false)/\Jx (pre ++ [⟨_,hmem⟩]) W'):=fun w4 h4=>by
         have h9:=H_hY.out pre ⟨_,hmem⟩ w4 h4 hlen
         have e9:faV (⟨_,hmem⟩:{x // x∈Lk}).1=.agg #[.int .u8 7,.int .i64 x,.int .i64 0]:=hfa
         rw[e9]at h9
         exact h9
        have H_hpre:=h_ hpre;have H_hJp:=h_ hJp;have H_hq3:=h_ hq3;have H_hbm3:=h_ hbm3;have H_hp:=h_ hp;have H_hpg:=h_ hpg;have H_hsn:=h_ hsn;have H_hcon:=h_ hcon;have H_hfa:=h_ hfa;have H_hY3:=h_ hY3;have H_hva:=h_ hva;clear hpre hJp hq3 hbm3 hp hpg hsn hcon hfa hY3 hva
        gi_wp2_with (first|(gi_at_lookup;go_loud (refine Vg.wpListIn_lookup_bool _ rfl _ _ 206 rfl 3 4 Tryz.underlying3 Tryz.underlying206 Tryz.underlying4 (zeroB _) rfl H_hbm3.out _ rfl hwp ?_);rw[H_hcon.out])|(gi_at_mapUpdate;go_loud (refine Vg.wpListIn_mapUpdate_bool _ rfl _ _ _ 206 rfl 3 4 Tryz.underlying3 Tryz.underlying206 Tryz.underlying4 rfl H_hbm3.out (by unfold maxLen;omega) _ rfl hwp true rfl ?_);intro w3 hbm4 ht4;have hJ4:=H_hJ2.out _ _ _ H_hJp.out (ht4.mono (t':=fun k=>B<=k) fun k _ hk=>by rw[hk];exact hB);have hs4:=ht4.size;have H_hbm4:=h_ hbm4;have H_ht4:=h_ ht4;have H_hJ4:=h_ hJ4;clear hbm4 ht4 hJ4)|(refine⟨trivial,?_⟩;gi_at_call 130;refine(callsIn_wide.2 (vet_found 7 x 0 _)).mono ?_;rintro e w4 ⟨rfl,hg4⟩;have hJ5:=H_hJ2.out _ _ _ H_hJ4.out (Vg.Touch.of_grows hg4);obtain⟨fn9,tmps9,assign9,body9,hy9,hR9⟩:=H_hY3.out w4 hJ5;have hs5:=hg4.size;have H_hJ5:=h_ hJ5;have H_hg4:=h_ hg4;clear hJ5 hg4))
        refine hR9.mono ?_
        rintro e W9 (⟨rfl,hJ9',hk9⟩|⟨rfl,hJx9⟩)
        ·have ht9:Vg.Touch (fun k=>k=W.heap.size\/k=l\/k+1=l) wr W9:=(H_ht4.out.mono fun k _ hk=>.inl hk).trans ((Vg.Touch.of_grows H_hg4.out).trans (hk9.mono fun k _ hk=>by rcases hk with hk|hk|hk;exact hk.elim;exact .inr (.inl hk);exact .inr (.inr hk)))
         have hb9:=H_hbm4.out.keep (((Vg.Touch.of_grows H_hg4.out).trans hk9).block W.heap.size H_hbm4.out.lt fun hk=>by rcases hk with hk|hk|hk;exact hk.elim;omega;omega)
         have hq9:=H_hq3.out.kept (w':=W9) fun q hq=>ht9.block q (H_hq3.out.lt q hq).2 fun hk=>by have:=(H_hq3.out.lt q hq).1;omega
         have H_ht9:=h_ ht9;have H_hb9:=h_ hb9;have H_hq9:=h_ hq9;have H_hJ9':=h_ hJ9';have H_hk9:=h_ hk9;clear ht9 hb9 hq9 hJ9' hk9
         gi_wp2
         go_roundw
         case rel=>
          refine⟨x+1,pre ++ [⟨_,hmem⟩],by omega,by go_num,by rw[List.map_append,H_hpre.out,H_hpg.out.1,List.append_assoc];rfl,H_hJ9'.out,H_hq9.out,H_hb9.out.congr fun z=>?_⟩
          rw[H_hsn.out]
          by_cases hz:z=p<;>simp[hz]
         case measure=>simp[intOf];omega
        ·gi_wp2
         (first|go_end0|refine bodyPost_ret (results_none rfl _ _ _) rfl ?_)
         exact⟨⟨_,rfl⟩,.inr ⟨_,hJx9⟩⟩
      ·have hxe:x=n:=by omega
       subst hxe
       have hpt:(Vg.Vt.prios C).take x=Vg.Vt.prios C:=by rw[<-H_hpl.out];simp[Vg.Vt.prios,List.take_of_length_le]
       rw[hpt]at hpre
       have H_hpre:=h_ hpre;have H_hJp:=h_ hJp;have H_hq3:=h_ hq3;have H_hbm3:=h_ hbm3;have H_hpt:=h_ hpt;clear hpre hJp hq3 hbm3 hpt
       gi_wp2
       (first|go_end0|refine bodyPost_ret (results_none rfl _ _ _) rfl ?_)
       exact⟨⟨_,rfl⟩,.inl ⟨pre,H_hpre.out,H_hJp.out⟩⟩
end Go.Proofs.YtlkdkgefjipjmaaGreatDoor
