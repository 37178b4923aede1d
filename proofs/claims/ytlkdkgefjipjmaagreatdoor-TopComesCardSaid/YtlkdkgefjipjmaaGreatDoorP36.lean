/- VetK (put together). -/
import Derived.Test.YtlkdkgefjipjmaaGreatDoorP35
import Derived.Test.YtlkdkgefjipjmaaGreatDoorQ0
set_option linter.all false
set_option maxHeartbeats 40000000
set_option maxRecDepth 100000
namespace Vg
open Go
theorem Vt.tasks_len(C:Cf):(Vt.tasks C).length=C.T.length:=by simp[Vt.tasks]
theorem Vt.lines_len(C:Cf):(Vt.lines C).length=C.L.length:=by simp[Vt.lines]
theorem Vt.threads_len(C:Cf):(Vt.threads C).length=C.H.length:=by simp[Vt.threads]
theorem Vt.looks_len(C:Cf):(Vt.looks C).length=3+(Vt.tasks C).length+(Vt.lines C).length+(Vt.threads C).length+(Vt.prios C).length:=by simp[Vt.looks,Vt.heads];omega
theorem Vt.tasks_get{C:Cf}{j:Nat}(h:j<C.T.length):(Vt.tasks C).take (j+1)=(Vt.tasks C).take j ++ [⟨4,j,Vt.task C.T[j] C.sw⟩]/\(⟨4,j,Vt.task C.T[j] C.sw⟩:Fau)∈Vt.looks C:=by
 have hl:j<(Vt.tasks C).length:=by rw[Vt.tasks_len];exact h
 have he:(Vt.tasks C)[j]=⟨4,j,Vt.task C.T[j] C.sw⟩:=by simp[Vt.tasks]
 have hm:(⟨4,j,Vt.task C.T[j] C.sw⟩:Fau)∈Vt.tasks C:=by rw[<-he];exact List.getElem_mem hl
 exact⟨by rw[List.take_succ_eq_append_getElem hl,he],by simp[Vt.looks,hm]⟩
theorem Vt.lines_get{C:Cf}{j:Nat}(h:j<C.L.length):(Vt.lines C).take (j+1)=(Vt.lines C).take j ++ [⟨5,j,Vt.line C.L[j]⟩]/\(⟨5,j,Vt.line C.L[j]⟩:Fau)∈Vt.looks C:=by
 have hl:j<(Vt.lines C).length:=by rw[Vt.lines_len];exact h
 have he:(Vt.lines C)[j]=⟨5,j,Vt.line C.L[j]⟩:=by simp[Vt.lines]
 have hm:(⟨5,j,Vt.line C.L[j]⟩:Fau)∈Vt.lines C:=by rw[<-he];exact List.getElem_mem hl
 exact⟨by rw[List.take_succ_eq_append_getElem hl,he],by simp[Vt.looks,hm]⟩
theorem Vt.threads_get{C:Cf}{j:Nat}(h:j<C.H.length):(Vt.threads C).take (j+1)=(Vt.threads C).take j ++ [⟨6,j,Vt.thread C.H[j]⟩]/\(⟨6,j,Vt.thread C.H[j]⟩:Fau)∈Vt.looks C:=by
 have hl:j<(Vt.threads C).length:=by rw[Vt.threads_len];exact h
 have he:(Vt.threads C)[j]=⟨6,j,Vt.thread C.H[j]⟩:=by simp[Vt.threads]
 have hm:(⟨6,j,Vt.thread C.H[j]⟩:Fau)∈Vt.threads C:=by rw[<-he];exact List.getElem_mem hl
 exact⟨by rw[List.take_succ_eq_append_getElem hl,he],by simp[Vt.looks,hm]⟩
theorem Vt.pre_ok{C:Cf}(h:∀x∈Vt.heads C++Vt.tasks C++Vt.lines C++Vt.threads C,x.why=0):C.T.length<=32/\C.H.length<=64/\∀p∈Vt.ps C,0<=p/\p<=63:=by
 have hm:Vt.many C=0:=h ⟨3,0,Vt.many C⟩ (by simp[Vt.heads])
 have hm2:C.T.length<=32/\C.H.length<=64:=by
  unfold Vt.many at hm
  split at hm
  ·cases hm
  ·omega
 refine⟨hm2.1,hm2.2,fun p hp=>?_⟩
 unfold Vt.ps at hp
 rcases List.mem_append.1 hp with hp|hp
 ·obtain⟨t,ht,rfl⟩:=List.mem_map.1 hp
  obtain⟨j,hj,rfl⟩:=List.getElem_of_mem ht
  have hl:j<(Vt.tasks C).length:=by rw[Vt.tasks_len];exact hj
  have he:(Vt.tasks C)[j]=⟨4,j,Vt.task C.T[j] C.sw⟩:=by simp[Vt.tasks]
  have h9:Vt.task C.T[j] C.sw=0:=h ⟨4,j,Vt.task C.T[j] C.sw⟩ (by rw[<-he];simp)
  unfold Vt.task at h9
  split at h9
  ·cases h9
  ·split at h9
   ·cases h9
   ·omega
 ·obtain⟨t,ht,rfl⟩:=List.mem_map.1 hp
  obtain⟨j,hj,rfl⟩:=List.getElem_of_mem ht
  have hl:j<(Vt.threads C).length:=by rw[Vt.threads_len];exact hj
  have he:(Vt.threads C)[j]=⟨6,j,Vt.thread C.H[j]⟩:=by simp[Vt.threads]
  have h9:Vt.thread C.H[j]=0:=h ⟨6,j,Vt.thread C.H[j]⟩ (by rw[<-he];simp)
  unfold Vt.thread at h9
  split at h9
  ·rename_i hg
   unfold goodT at hg
   simp only[List.any_cons,List.any_nil,Bool.or_false,Bool.and_eq_true,Bool.not_eq_true']at hg
   exact(oddT_no hg.1.1).2
  ·cases h9
end Vg
namespace Go.Proofs.YtlkdkgefjipjmaaGreatDoor
open Go.ChangeShapes Go.WideShapes Go.ChangeAt Go.RowKit Go.Shelf
attribute [local go_sem] Oper.semAt_some
theorem vet_looks(C:Vg.Cf)(v:Cv)(w:World):Calls Tryz.prog 72 #[cfV C v] w fun e w'=>e=.returned (.func (.func 129) #[] #[.pointer (some ⟨w.heap.size,0,none⟩)])/\w'=w.alloc (cfO C v):=by
 go_enter Tryz.func72,Tryz.ntmps72
 go_wp2
 go_ret
 exact⟨rfl,rfl⟩
theorem vet_prios(C:Vg.Cf)(v:Cv)(w:World):Calls Tryz.prog 136 #[cfV C v] w fun e w'=>e=.returned (.func (.func 194) #[] #[.pointer (some ⟨w.heap.size,0,none⟩)])/\w'=w.alloc (cfO C v):=by
 go_enter Tryz.func136,Tryz.ntmps136
 go_wp2
 go_ret
 exact⟨rfl,rfl⟩
theorem looks_seq (kk:Nat) (hkk:4<=kk) (C:Vg.Cf) (v:Cv) (cb:Nat) (w:World) (hb:Vg.blk w cb=some (cfO C v)) (hR:CR w C v) (hmx : -9223372036854775808<=C.mx) (hw0:0<w.heap.size) :
  Vg.SeqG Fence.wide kk Tryz.prog 129 #[] #[.pointer (some ⟨cb,0,none⟩)] (fun x:{x // x∈Vg.Vt.looks C}=>#[faV x.1]) (fun _=>False) (fun pre=>∀y∈pre,y.1.why=0) (fun xs=>xs.map (·.1)=Vg.Vt.looks C) (Vg.Vt.looks C).length w:=fun l J Jx W hW hl1 hl2 hJ hJx hJ2 hG hY hJ0=>by
 have hk1:1<=kk:=by omega
 obtain⟨nt,hnt⟩:∃nt,C.T.length=nt:=⟨_,rfl⟩
 obtain⟨nl,hnl⟩:∃nl,C.L.length=nl:=⟨_,rfl⟩
 obtain⟨nh,hnh⟩:∃nh,C.H.length=nh:=⟨_,rfl⟩
 have hbW:=hW.blk hb
 have hRW:=hR.grows hW
 have hcw:=Vg.lt_of hb
 have hsk:=fun wz=>shot_check C.mn C.mx wz hmx
 have hch:=fun wz=>vet_change C v rfl wz
 have hmn:=fun wz=>vet_many C v rfl wz
 obtain⟨mn,hmne⟩:∃mn,C.mn=mn:=⟨_,rfl⟩
 obtain⟨mx,hmxe⟩:∃mx,C.mx=mx:=⟨_,rfl⟩
 obtain⟨sw,hswe⟩:∃sw,C.sw=sw:=⟨_,rfl⟩
 obtain⟨y1,hy1⟩:∃y1,Vg.tmC mn mx=y1:=⟨_,rfl⟩
 obtain⟨y2,hy2⟩:∃y2,Vg.Vt.change sw=y2:=⟨_,rfl⟩
 obtain⟨y3,hy3⟩:∃y3,Vg.Vt.many C=y3:=⟨_,rfl⟩
 simp only[hmne,hmxe,hswe,hnt,hnl,hnh,hy1,hy2,hy3,cfV]at hsk hch hmn
 simp only[cfO,hmne,hmxe,hswe,hnt,hnl,hnh]at hbW
 obtain⟨c_hbW,f_hbW,p_hbW,l_hbW,H_hbW⟩:=Vg.lay hbW;clear hbW
 have H_hW:=h_ hW;have H_hb:=h_ hb;have H_hR:=h_ hR;have H_hRW:=h_ hRW;have H_hJ:=h_ hJ;have H_hJx:=h_ hJx;have H_hJ2:=h_ hJ2;have H_hG:=h_ hG;have H_hY:=h_ hY;have H_hJ0:=h_ hJ0;have H_hnt:=h_ hnt;have H_hnl:=h_ hnl;have H_hnh:=h_ hnh;have H_hsk:=h_ hsk;have H_hch:=h_ hch;have H_hmn:=h_ hmn;have H_hmne:=h_ hmne;have H_hmxe:=h_ hmxe;have H_hswe:=h_ hswe;have H_hy1:=h_ hy1;have H_hy2:=h_ hy2;have H_hy3:=h_ hy3;clear hW hb hR hRW hJ hJx hJ2 hG hY hJ0 hnt hnl hnh hsk hch hmn hmne hmxe hswe hy1 hy2 hy3
 refine callsIn_of_wp Tryz.func129 rfl trivial ?_ rfl
 simp only[Tryz.ntmps129,List.size_toArray,List.length_cons,List.length_nil,Nat.reduceAdd,Nat.reduceSub,Array.replicate_succ,Array.replicate_zero,List.push_toArray,List.append_toArray,List.nil_append,List.cons_append]
 gi_wp2
 refine wpIn_wide.2 ?_
 refine wp_region_held_drew (S:=fun w'=>cb<w'.heap.size/\w'.cell? ⟨cb,0,none⟩=some (.int .i64 mn)/\w'.cell? ⟨cb,1,none⟩=some (.int .i64 mx)/\w'.cell? ⟨cb,2,none⟩=some (.int .i64 sw)/\w'.cell? ⟨cb,3,none⟩=some (.slice v.ta nt v.tc)/\w'.cell? ⟨cb,4,none⟩=some (.slice v.la nl v.lc)/\w'.cell? ⟨cb,5,none⟩=some (.slice v.ha nh v.hc)) (by kernel_rfl) (by go_split_ands <;> (try dsimp only) <;> go_simp) (fun hHeld=>?_)
 refine tk 0 ?_
 refine tk 1 ?_
 refine tk 4 ?_
 refine tk 7 ?_
 refine wpAnyH_ready (rs:=[2]) (by kernel_rfl) (by simp) ?_
 refine AllReadyH.cons (o:=_) rfl (fun K hK=>?st5) ?mo5
 case st5=>
  go_simp
  ((go_at_call 41;(with_reducible refine(H_hsk.out _).mono ?_);rintro e1 w1 ⟨rfl,hg1⟩;have hg1:=(Vg.Grows.refl W).trans hg1;have z1:=hg1.blk H_hbW.out;obtain⟨c_z1,f_z1,p_z1,l_z1,H_z1⟩:=Vg.lay z1;clear z1;have H_hg1:=h_ hg1;clear hg1))
  all_goals(try go_wp2_with fail)
  refine hK.out _ _ (by go_split_ands <;> (try dsimp only) <;> go_simp) (fun hHeld5=>?_)
  clear hK K
  refine wpAnyH_ready (rs:=[3]) (by kernel_rfl) (by simp) ?_
  refine AllReadyH.cons (o:=_) rfl (fun K hK=>?st6) ?mo6
  case st6=>
   go_simp
   ((go_at_call 130;(with_reducible refine(vet_found 1 0 y1 _).mono ?_);rintro e2 w2 ⟨rfl,hg2⟩;have hg2:=H_hg1.out.trans hg2;have z2:=hg2.blk H_hbW.out;obtain⟨c_z2,f_z2,p_z2,l_z2,H_z2⟩:=Vg.lay z2;clear z2;have H_hg2:=h_ hg2;clear hg2))
   all_goals(try go_wp2_with fail)
   refine hK.out _ _ (by go_split_ands <;> (try dsimp only) <;> go_simp) (fun hHeld6=>?_)
   clear hK K
   refine wpAnyH_ready (rs:=[5]) (by kernel_rfl) (by simp) ?_
   refine AllReadyH.cons (o:=_) rfl (fun K hK=>?st7) ?mo7
   case st7=>
    go_simp
    ((go_at_call 131;(with_reducible refine(H_hch.out _).mono ?_);rintro e3 w3 ⟨rfl,hg3⟩;have hg3:=H_hg2.out.trans hg3;have z3:=hg3.blk H_hbW.out;obtain⟨c_z3,f_z3,p_z3,l_z3,H_z3⟩:=Vg.lay z3;clear z3;have H_hg3:=h_ hg3;clear hg3))
    all_goals(try go_wp2_with fail)
    refine hK.out _ _ (by go_split_ands <;> (try dsimp only) <;> go_simp) (fun hHeld7=>?_)
    clear hK K
    refine wpAnyH_ready (rs:=[6]) (by kernel_rfl) (by simp) ?_
    refine AllReadyH.cons (o:=_) rfl (fun K hK=>?st8) ?mo8
    case st8=>
     go_simp
     ((go_at_call 130;(with_reducible refine(vet_found 2 0 y2 _).mono ?_);rintro e4 w4 ⟨rfl,hg4⟩;have hg4:=H_hg3.out.trans hg4;have z4:=hg4.blk H_hbW.out;obtain⟨c_z4,f_z4,p_z4,l_z4,H_z4⟩:=Vg.lay z4;clear z4;have H_hg4:=h_ hg4;clear hg4))
     all_goals(try go_wp2_with fail)
     refine hK.out _ _ (by go_split_ands <;> (try dsimp only) <;> go_simp) (fun hHeld8=>?_)
     clear hK K
     refine wpAnyH_ready (rs:=[8]) (by kernel_rfl) (by simp) ?_
     refine AllReadyH.cons (o:=_) rfl (fun K hK=>?st9) ?mo9
     case st9=>
      go_simp
      ((go_at_call 132;(with_reducible refine(H_hmn.out _).mono ?_);rintro e5 w5 ⟨rfl,hg5⟩;have hg5:=H_hg4.out.trans hg5;have z5:=hg5.blk H_hbW.out;obtain⟨c_z5,f_z5,p_z5,l_z5,H_z5⟩:=Vg.lay z5;clear z5;have H_hg5:=h_ hg5;clear hg5))
      all_goals(try go_wp2_with fail)
      refine hK.out _ _ (by go_split_ands <;> (try dsimp only) <;> go_simp) (fun hHeld9=>?_)
      clear hK K
      refine wpAnyH_ready (rs:=[9]) (by kernel_rfl) (by simp) ?_
      refine AllReadyH.cons (o:=_) rfl (fun K hK=>?st10) ?mo10
      case st10=>
       go_simp
       ((go_at_call 130;(with_reducible refine(vet_found 3 0 y3 _).mono ?_);rintro e6 w6 ⟨rfl,hg6⟩;have hg6:=H_hg5.out.trans hg6;have z6:=hg6.blk H_hbW.out;obtain⟨c_z6,f_z6,p_z6,l_z6,H_z6⟩:=Vg.lay z6;clear z6;have H_hg6:=h_ hg6;clear hg6))
       all_goals(try go_wp2_with fail)
       refine hK.out _ _ (by go_split_ands <;> (try dsimp only) <;> go_simp) (fun hHeld10=>?_)
       clear hK K
       refine wpAnyH_ready (rs:=[10]) (by kernel_rfl) (by simp) ?_
       refine AllReadyH.cons (o:=_) rfl (fun K hK=>?st11) ?mo11
       case st11=>
        go_simp
        refine hK.out _ _ (by go_split_ands <;> (try dsimp only) <;> go_simp) (fun hHeld11=>?_)
        clear hK K
        refine tk 11 ?_
        refine wpAnyH_done (by kernel_rfl) ?_ _
        refine ‹∀(a:Act) (w:World),Code.wpIn _ _ _ _ _ a w->_› _ _ ?_
        gi_wp2
        gi_loopw [25] (fun i wr=>∃(x:Nat) (pre:List {x // x∈Vg.Vt.looks C}),x<=3/\i=.int .i64 x/\pre.map (·.1)=(Vg.Vt.heads C).take x/\J pre wr/\Vg.Grows w wr/\W.heap.size<=wr.heap.size/\Vg.blk wr w6.heap.size=some (.cells #[.int .u8 1,.int .i64 0,.int .i64 y1,.int .u8 2,.int .i64 0,.int .i64 y2,.int .u8 3,.int .i64 0,.int .i64 y3] 112)) (fun i _=>3-(intOf i).toNat)
        case atStart=>exact⟨0,[],by omega,rfl,by simp,H_hJ2.out _ _ _ H_hJ0.out (Vg.Touch.of_grows (H_hg6.out.alloc _)),H_hW.out.trans (H_hg6.out.alloc _),(H_hg6.out.alloc _).size,Vg.alloc_heap_at rfl⟩
        case round=>
         obtain⟨x,pre,hx,rfl,hpre,hJp,hgw,hWs,hbh⟩:=hrel
         have hge:W.heap.size<=w6.heap.size:=H_hg6.out.size
         obtain⟨hs,hhs⟩:∃hs,w6.heap.size=hs:=⟨_,rfl⟩
         rw[hhs]at hge
         rw[hhs]at hbh ⊢
         clear c_z6 f_z6 p_z6
         have hln:pre.length=x:=by
          have h9:=congrArg List.length hpre
          simp only[List.length_map,List.length_take,Vg.Vt.heads,List.length_cons,List.length_nil]at h9
          omega
         have hlk:(Vg.Vt.looks C).length=3+(Vg.Vt.tasks C).length+(Vg.Vt.lines C).length+(Vg.Vt.threads C).length+(Vg.Vt.prios C).length:=Vg.Vt.looks_len C
         obtain rfl|rfl|rfl|rfl:x=0\/x=1\/x=2\/x=3:=by omega
         ·have hmem:(⟨1,0,y1⟩:Vg.Fau)∈Vg.Vt.looks C:=by
           rw[<-H_hy1.out,<-H_hmne.out,<-H_hmxe.out];simp[Vg.Vt.looks,Vg.Vt.heads]
          have hst:(Vg.Vt.heads C).take 1=(Vg.Vt.heads C).take 0 ++ [⟨1,0,y1⟩]:=by
           rw[<-H_hy1.out,<-H_hmne.out,<-H_hmxe.out];rfl
          have hYx:=fun(w4:World) (h4:J pre w4)=>H_hY.out pre ⟨_,hmem⟩ w4 h4 (by omega)
          have hJa:=H_hJ2.out _ _ _ hJp (Vg.Touch.of_grows (((Vg.Grows.refl wr).alloc (.cells #[.int .u8 1,.int .i64 0,.int .i64 y1] 112))))
          obtain⟨fn9,tmps9,assign9,body9,hy9,hR9⟩:=hYx _ hJa
          obtain⟨c_hbh,f_hbh,p_hbh,l_hbh,H_hbh⟩:=Vg.lay hbh;clear hbh
          have H_hpre:=h_ hpre;have H_hJp:=h_ hJp;have H_hgw:=h_ hgw;have H_hhs:=h_ hhs;have H_hlk:=h_ hlk;have H_hYx:=h_ hYx;have H_hst:=h_ hst;have H_hJa:=h_ hJa;clear hpre hJp hgw hhs hlk hYx hst hJa
          gi_wp2
          refine hR9.mono ?_
          rintro e W9 (⟨rfl,hJ9,hk9⟩|⟨rfl,hJx9⟩)
          ·have ht9:Vg.Touch (fun k=>k=l\/k+1=l) wr W9:=(Vg.Touch.of_grows (((Vg.Grows.refl wr).alloc (.cells #[.int .u8 1,.int .i64 0,.int .i64 y1] 112)))).trans (hk9.mono fun k _ hk=>by rcases hk with hk|hk|hk;exact hk.elim;exact .inl hk;exact .inr hk)
           have hb9:=(ht9.block hs (Vg.lt_of H_hbh.out) (by omega)).trans H_hbh.out
           have hgw9:=ht9.gr H_hgw.out (fun k hk=>by omega)
           have hs9:=Nat.le_trans hWs ht9.size
           have H_ht9:=h_ ht9;have H_hb9:=h_ hb9;have H_hJ9:=h_ hJ9;have H_hk9:=h_ hk9;have H_hgw9:=h_ hgw9;clear ht9 hb9 hJ9 hk9 hgw9
           gi_wp2
           go_roundw
           case rel=>exact⟨1,pre ++ [⟨_,hmem⟩],by omega,by go_num,by rw[List.map_append,H_hpre.out,H_hst.out];rfl,H_hJ9.out,H_hgw9.out,hs9,H_hb9.out⟩
           case measure=>simp[intOf]
          ·gi_wp2
           (first|go_end0|refine bodyPost_ret (results_none rfl _ _ _) rfl ?_)
           exact⟨⟨_,rfl⟩,.inr ⟨_,hJx9⟩⟩
         ·have hmem:(⟨2,0,y2⟩:Vg.Fau)∈Vg.Vt.looks C:=by
           rw[<-H_hy2.out,<-H_hswe.out];simp[Vg.Vt.looks,Vg.Vt.heads]
          have hst:(Vg.Vt.heads C).take 2=(Vg.Vt.heads C).take 1 ++ [⟨2,0,y2⟩]:=by
           rw[<-H_hy2.out,<-H_hswe.out];rfl
          have hYx:=fun(w4:World) (h4:J pre w4)=>H_hY.out pre ⟨_,hmem⟩ w4 h4 (by omega)
          have hJa:=H_hJ2.out _ _ _ hJp (Vg.Touch.of_grows (((Vg.Grows.refl wr).alloc (.cells #[.int .u8 2,.int .i64 0,.int .i64 y2] 112))))
          obtain⟨fn9,tmps9,assign9,body9,hy9,hR9⟩:=hYx _ hJa
          obtain⟨c_hbh,f_hbh,p_hbh,l_hbh,H_hbh⟩:=Vg.lay hbh;clear hbh
          have H_hpre:=h_ hpre;have H_hJp:=h_ hJp;have H_hgw:=h_ hgw;have H_hhs:=h_ hhs;have H_hlk:=h_ hlk;have H_hYx:=h_ hYx;have H_hst:=h_ hst;have H_hJa:=h_ hJa;clear hpre hJp hgw hhs hlk hYx hst hJa
          gi_wp2
          refine hR9.mono ?_
          rintro e W9 (⟨rfl,hJ9,hk9⟩|⟨rfl,hJx9⟩)
          ·have ht9:Vg.Touch (fun k=>k=l\/k+1=l) wr W9:=(Vg.Touch.of_grows (((Vg.Grows.refl wr).alloc (.cells #[.int .u8 2,.int .i64 0,.int .i64 y2] 112)))).trans (hk9.mono fun k _ hk=>by rcases hk with hk|hk|hk;exact hk.elim;exact .inl hk;exact .inr hk)
           have hb9:=(ht9.block hs (Vg.lt_of H_hbh.out) (by omega)).trans H_hbh.out
           have hgw9:=ht9.gr H_hgw.out (fun k hk=>by omega)
           have hs9:=Nat.le_trans hWs ht9.size
           have H_ht9:=h_ ht9;have H_hb9:=h_ hb9;have H_hJ9:=h_ hJ9;have H_hk9:=h_ hk9;have H_hgw9:=h_ hgw9;clear ht9 hb9 hJ9 hk9 hgw9
           gi_wp2
           go_roundw
           case rel=>exact⟨2,pre ++ [⟨_,hmem⟩],by omega,by go_num,by rw[List.map_append,H_hpre.out,H_hst.out];rfl,H_hJ9.out,H_hgw9.out,hs9,H_hb9.out⟩
           case measure=>simp[intOf]
          ·gi_wp2
           (first|go_end0|refine bodyPost_ret (results_none rfl _ _ _) rfl ?_)
           exact⟨⟨_,rfl⟩,.inr ⟨_,hJx9⟩⟩
         ·have hmem:(⟨3,0,y3⟩:Vg.Fau)∈Vg.Vt.looks C:=by
           rw[<-H_hy3.out];simp[Vg.Vt.looks,Vg.Vt.heads]
          have hst:(Vg.Vt.heads C).take 3=(Vg.Vt.heads C).take 2 ++ [⟨3,0,y3⟩]:=by
           rw[<-H_hy3.out];rfl
          have hYx:=fun(w4:World) (h4:J pre w4)=>H_hY.out pre ⟨_,hmem⟩ w4 h4 (by omega)
          have hJa:=H_hJ2.out _ _ _ hJp (Vg.Touch.of_grows (((Vg.Grows.refl wr).alloc (.cells #[.int .u8 3,.int .i64 0,.int .i64 y3] 112))))
          obtain⟨fn9,tmps9,assign9,body9,hy9,hR9⟩:=hYx _ hJa
          obtain⟨c_hbh,f_hbh,p_hbh,l_hbh,H_hbh⟩:=Vg.lay hbh;clear hbh
          have H_hpre:=h_ hpre;have H_hJp:=h_ hJp;have H_hgw:=h_ hgw;have H_hhs:=h_ hhs;have H_hlk:=h_ hlk;have H_hYx:=h_ hYx;have H_hst:=h_ hst;have H_hJa:=h_ hJa;clear hpre hJp hgw hhs hlk hYx hst hJa
          gi_wp2
          refine hR9.mono ?_
          rintro e W9 (⟨rfl,hJ9,hk9⟩|⟨rfl,hJx9⟩)
          ·have ht9:Vg.Touch (fun k=>k=l\/k+1=l) wr W9:=(Vg.Touch.of_grows (((Vg.Grows.refl wr).alloc (.cells #[.int .u8 3,.int .i64 0,.int .i64 y3] 112)))).trans (hk9.mono fun k _ hk=>by rcases hk with hk|hk|hk;exact hk.elim;exact .inl hk;exact .inr hk)
           have hb9:=(ht9.block hs (Vg.lt_of H_hbh.out) (by omega)).trans H_hbh.out
           have hgw9:=ht9.gr H_hgw.out (fun k hk=>by omega)
           have hs9:=Nat.le_trans hWs ht9.size
           have H_ht9:=h_ ht9;have H_hb9:=h_ hb9;have H_hJ9:=h_ hJ9;have H_hk9:=h_ hk9;have H_hgw9:=h_ hgw9;clear ht9 hb9 hJ9 hk9 hgw9
           gi_wp2
           go_roundw
           case rel=>exact⟨3,pre ++ [⟨_,hmem⟩],by omega,by go_num,by rw[List.map_append,H_hpre.out,H_hst.out];rfl,H_hJ9.out,H_hgw9.out,hs9,H_hb9.out⟩
           case measure=>simp[intOf]
          ·gi_wp2
           (first|go_end0|refine bodyPost_ret (results_none rfl _ _ _) rfl ?_)
           exact⟨⟨_,rfl⟩,.inr ⟨_,hJx9⟩⟩
         ·have hpre0:pre.map (·.1)=Vg.Vt.heads C:=hpre
          clear hbh hpre
          have hcb0:=hgw.blk H_hb.out
          simp only[cfO,H_hmne.out,H_hmxe.out,H_hswe.out,H_hnt.out,H_hnl.out,H_hnh.out]at hcb0
          obtain⟨c_hcb0,f_hcb0,p_hcb0,l_hcb0,H_hcb0⟩:=Vg.lay hcb0;clear hcb0
          have H_hpre0:=h_ hpre0;have H_hJp:=h_ hJp;have H_hgw:=h_ hgw;clear hpre0 hJp hgw
          obtain⟨wo0,hwo0⟩:∃wo0,wo0=wr:=⟨_,rfl⟩
          subst hwo0
          gi_wp2
          gi_loopw [37] (fun i wr=>∃(x:Nat) (pre:List {x // x∈Vg.Vt.looks C}),x<=nt/\i=.int .i64 x/\pre.map (·.1)=Vg.Vt.heads C++(Vg.Vt.tasks C).take x/\J pre wr/\Vg.Grows w wr/\W.heap.size<=wr.heap.size) (fun i _=>nt-(intOf i).toNat)
          case atStart=>exact⟨0,pre,by omega,rfl,by simpa using H_hpre0.out,H_hJp.out,H_hgw.out,hWs⟩
          case round=>
           clear c_hcb0 f_hcb0 p_hcb0
           clear H_hJp H_hgw hWs
           obtain⟨x,pre1,hx0,rfl,hpr,hJp,hgw,hWs⟩:=hrel
           by_cases hlt0:x<nt
           ·have hj:x<C.T.length:=by rw[H_hnt.out];exact hlt0
            have hjI:(x:Int)<nt:=by omega
            obtain⟨g,off,hva,hg,hc⟩:=(H_hR.out.1.grows hgw).2.2 x hj
            have htk:=(H_hR.out.1).1
            have htm:=(H_hR.out.1).2.1
            have hgt:=Vg.Vt.tasks_get hj
            obtain⟨t,htt⟩:∃t,C.T[x]=t:=⟨_,rfl⟩
            rw[htt]at hgt hc
            have c0:=hc 0 (by decide)
            have c1:=hc 1 (by decide)
            have c2:=hc 2 (by decide)
            have c3:=hc 3 (by decide)
            have c4:=hc 4 (by decide)
            have c5:=hc 5 (by decide)
            have c6:=hc 6 (by decide)
            have c7:=hc 7 (by decide)
            have c8:=hc 8 (by decide)
            have c9:=hc 9 (by decide)
            simp only[Vg.tkcell,Nat.add_zero]at c0 c1 c2 c3 c4 c5 c6 c7 c8 c9
            clear hc
            rw[H_hswe.out]at hgt
            obtain⟨r,hr⟩:∃r,Vg.Vt.task t sw=r:=⟨_,rfl⟩
            rw[hr]at hgt
            have hfk:=fun wz=>vet_task t sw hr wz
            obtain⟨kd,pr,pe,og,dl,co,ro,lk,fr,tt⟩:=t
            simp only at c0 c1 c2 c3 c4 c5 c6 c7 c8 c9
            simp only[tkV]at hfk
            rw[hva]
            have htc:nt<=v.tc:=by rw[<-H_hnt.out];exact htk
            have htc2:v.tc<=9223372036854775807:=htm
            have hmem:=hgt.2
            have hlen:pre1.length<(Vg.Vt.looks C).length:=by
             have h9:=congrArg List.length hpr
             have h8:=Vg.Vt.tasks_len C
             simp only[List.length_map,List.length_append,List.length_take]at h9
             have h7:=Vg.Vt.looks_len C
             rw[H_hnt.out]at h8
             have h6:(Vg.Vt.heads C).length=3:=rfl
             omega
            have hYx:=fun(w4:World) (h4:J pre1 w4)=>H_hY.out pre1 ⟨_,hmem⟩ w4 h4 hlen
            have hcbx:=hgw.blk H_hb.out
            simp only[cfO,H_hmne.out,H_hmxe.out,H_hswe.out,H_hnt.out,H_hnl.out,H_hnh.out]at hcbx
            obtain⟨c_hcbx,f_hcbx,p_hcbx,l_hcbx,H_hcbx⟩:=Vg.lay hcbx;clear hcbx
            have H_hpr:=h_ hpr;have H_hJp:=h_ hJp;have H_hgw:=h_ hgw;have H_hgt:=h_ hgt;have H_hYx:=h_ hYx;have H_htt:=h_ htt;have H_hva:=h_ hva;have H_htk:=h_ htk;have H_htm:=h_ htm;have H_hr:=h_ hr;have H_hfk:=h_ hfk;have H_hlen:=h_ hlen;clear hpr hJp hgw hgt hYx htt hva htk htm hr hfk hlen
            gi_wp2_with (first|(refine⟨trivial,?_⟩;gi_at_call 133;go_loud (refine(callsIn_wide.2 (H_hfk.out _)).mono ?_;rintro e w7 ⟨rfl,hg7⟩;have hg7:=(Vg.gro:Vg.Grows wr _).trans hg7;have H_hg7:=h_ hg7;clear hg7))|(refine⟨trivial,?_⟩;gi_at_call 130;go_loud (refine(callsIn_wide.2 (vet_found 4 x r _)).mono ?_;rintro e w8 ⟨rfl,hg8⟩;have hg8:=H_hg7.out.trans hg8;have hJ8:=H_hJ2.out _ _ _ H_hJp.out (Vg.Touch.of_grows hg8);obtain⟨fn9,tmps9,assign9,body9,hy9,hR9⟩:=H_hYx.out w8 hJ8;have H_hJ8:=h_ hJ8;have H_hg8:=h_ hg8;clear hJ8 hg8)))
            refine hR9.mono ?_
            rintro e W9 (⟨rfl,hJ9,hk9⟩|⟨rfl,hJx9⟩)
            ·have ht9:Vg.Touch (fun k=>k=l\/k+1=l) wr W9:=(Vg.Touch.of_grows H_hg8.out).trans (hk9.mono fun k _ hk=>by rcases hk with hk|hk|hk;exact hk.elim;exact .inl hk;exact .inr hk)
             have hgw9:=ht9.gr H_hgw.out (fun k hk=>by omega)
             have hs9:=Nat.le_trans hWs ht9.size
             have H_ht9:=h_ ht9;have H_hJ9:=h_ hJ9;have H_hk9:=h_ hk9;have H_hgw9:=h_ hgw9;clear ht9 hJ9 hk9 hgw9
             gi_wp2
             go_roundw
             case rel=>
              (repeat apply Exists.intro)
              exact⟨⟨x+1,pre1 ++ [⟨_,hmem⟩],by omega,by go_num,by rw[List.map_append,H_hpr.out,H_hgt.out.1,List.append_assoc];rfl,H_hJ9.out,H_hgw9.out,hs9⟩,rfl⟩
             case measure=>simp[intOf];omega
            ·gi_wp2
             (first|go_end0|refine bodyPost_ret (results_none rfl _ _ _) rfl ?_)
             exact⟨⟨_,rfl⟩,.inr ⟨_,hJx9⟩⟩
           ·have hxe:x=nt:=by omega
            subst hxe
            have hpre1:pre1.map (·.1)=Vg.Vt.heads C++Vg.Vt.tasks C:=by
             rw[hpr];congr 1
             exact List.take_of_length_le (by rw[Vg.Vt.tasks_len,H_hnt.out];exact Nat.le_refl _)
            clear hpr
            have hcb1:=hgw.blk H_hb.out
            simp only[cfO,H_hmne.out,H_hmxe.out,H_hswe.out,H_hnt.out,H_hnl.out,H_hnh.out]at hcb1
            obtain⟨c_hcb1,f_hcb1,p_hcb1,l_hcb1,H_hcb1⟩:=Vg.lay hcb1;clear hcb1
            have H_hpre1:=h_ hpre1;have H_hJp:=h_ hJp;have H_hgw:=h_ hgw;clear hpre1 hJp hgw
            obtain⟨wo1,hwo1⟩:∃wo1,wo1=wr:=⟨_,rfl⟩
            subst hwo1
            gi_wp2
            gi_loopw [55] (fun i wr=>∃(x:Nat) (pre:List {x // x∈Vg.Vt.looks C}),x<=nl/\i=.int .i64 x/\pre.map (·.1)=Vg.Vt.heads C++Vg.Vt.tasks C++(Vg.Vt.lines C).take x/\J pre wr/\Vg.Grows w wr/\W.heap.size<=wr.heap.size) (fun i _=>nl-(intOf i).toNat)
            case atStart=>exact⟨0,pre1,by omega,rfl,by simpa using H_hpre1.out,H_hJp.out,H_hgw.out,hWs⟩
            case round=>
             clear c_hcb1 f_hcb1 p_hcb1
             clear H_hJp H_hgw hWs
             obtain⟨x,pre2,hx1,rfl,hpr,hJp,hgw,hWs⟩:=hrel
             by_cases hlt1:x<nl
             ·have hj:x<C.L.length:=by rw[H_hnl.out];exact hlt1
              have hjI:(x:Int)<nl:=by omega
              obtain⟨g,off,hva,hg,c0,c1,c2,c3⟩:=(H_hR.out.2.1.grows hgw).2.2 x hj
              have htk:=(H_hR.out.2.1).1
              have htm:=(H_hR.out.2.1).2.1
              have hgt:=Vg.Vt.lines_get hj
              obtain⟨t,htt⟩:∃t,C.L[x]=t:=⟨_,rfl⟩
              rw[htt]at hgt c0 c1 c2 c3
              skip
              obtain⟨r,hr⟩:∃r,Vg.Vt.line t=r:=⟨_,rfl⟩
              rw[hr]at hgt
              have hfk:=fun wz=>vet_line t hr wz
              obtain⟨pr,top,many,wd⟩:=t
              simp only at c0 c1 c2 c3
              simp only[liV]at hfk
              rw[hva]
              have htc:nl<=v.lc:=by rw[<-H_hnl.out];exact htk
              have htc2:v.lc<=9223372036854775807:=htm
              have hmem:=hgt.2
              have hlen:pre2.length<(Vg.Vt.looks C).length:=by
               have h9:=congrArg List.length hpr
               have h8:=Vg.Vt.lines_len C
               simp only[List.length_map,List.length_append,List.length_take]at h9
               have h7:=Vg.Vt.looks_len C
               rw[H_hnl.out]at h8
               have h6:(Vg.Vt.heads C).length=3:=rfl
               omega
              have hYx:=fun(w4:World) (h4:J pre2 w4)=>H_hY.out pre2 ⟨_,hmem⟩ w4 h4 hlen
              have hcbx:=hgw.blk H_hb.out
              simp only[cfO,H_hmne.out,H_hmxe.out,H_hswe.out,H_hnt.out,H_hnl.out,H_hnh.out]at hcbx
              obtain⟨c_hcbx,f_hcbx,p_hcbx,l_hcbx,H_hcbx⟩:=Vg.lay hcbx;clear hcbx
              have H_hpr:=h_ hpr;have H_hJp:=h_ hJp;have H_hgw:=h_ hgw;have H_hgt:=h_ hgt;have H_hYx:=h_ hYx;have H_htt:=h_ htt;have H_hva:=h_ hva;have H_htk:=h_ htk;have H_htm:=h_ htm;have H_hr:=h_ hr;have H_hfk:=h_ hfk;have H_hlen:=h_ hlen;clear hpr hJp hgw hgt hYx htt hva htk htm hr hfk hlen
              gi_wp2_with (first|(refine⟨trivial,?_⟩;gi_at_call 134;go_loud (refine(callsIn_wide.2 (H_hfk.out _)).mono ?_;rintro e w7 ⟨rfl,hg7⟩;have hg7:=(Vg.gro:Vg.Grows wr _).trans hg7;have H_hg7:=h_ hg7;clear hg7))|(refine⟨trivial,?_⟩;gi_at_call 130;go_loud (refine(callsIn_wide.2 (vet_found 5 x r _)).mono ?_;rintro e w8 ⟨rfl,hg8⟩;have hg8:=H_hg7.out.trans hg8;have hJ8:=H_hJ2.out _ _ _ H_hJp.out (Vg.Touch.of_grows hg8);obtain⟨fn9,tmps9,assign9,body9,hy9,hR9⟩:=H_hYx.out w8 hJ8;have H_hJ8:=h_ hJ8;have H_hg8:=h_ hg8;clear hJ8 hg8)))
              refine hR9.mono ?_
              rintro e W9 (⟨rfl,hJ9,hk9⟩|⟨rfl,hJx9⟩)
              ·have ht9:Vg.Touch (fun k=>k=l\/k+1=l) wr W9:=(Vg.Touch.of_grows H_hg8.out).trans (hk9.mono fun k _ hk=>by rcases hk with hk|hk|hk;exact hk.elim;exact .inl hk;exact .inr hk)
               have hgw9:=ht9.gr H_hgw.out (fun k hk=>by omega)
               have hs9:=Nat.le_trans hWs ht9.size
               have H_ht9:=h_ ht9;have H_hJ9:=h_ hJ9;have H_hk9:=h_ hk9;have H_hgw9:=h_ hgw9;clear ht9 hJ9 hk9 hgw9
               gi_wp2
               go_roundw
               case rel=>
                (repeat apply Exists.intro)
                exact⟨⟨x+1,pre2 ++ [⟨_,hmem⟩],by omega,by go_num,by rw[List.map_append,H_hpr.out,H_hgt.out.1,List.append_assoc];rfl,H_hJ9.out,H_hgw9.out,hs9⟩,rfl⟩
               case measure=>simp[intOf];omega
              ·gi_wp2
               (first|go_end0|refine bodyPost_ret (results_none rfl _ _ _) rfl ?_)
               exact⟨⟨_,rfl⟩,.inr ⟨_,hJx9⟩⟩
             ·have hxe:x=nl:=by omega
              subst hxe
              have hpre2:pre2.map (·.1)=Vg.Vt.heads C++Vg.Vt.tasks C++Vg.Vt.lines C:=by
               rw[hpr];congr 1
               exact List.take_of_length_le (by rw[Vg.Vt.lines_len,H_hnl.out];exact Nat.le_refl _)
              clear hpr
              have hcb2:=hgw.blk H_hb.out
              simp only[cfO,H_hmne.out,H_hmxe.out,H_hswe.out,H_hnt.out,H_hnl.out,H_hnh.out]at hcb2
              obtain⟨c_hcb2,f_hcb2,p_hcb2,l_hcb2,H_hcb2⟩:=Vg.lay hcb2;clear hcb2
              have H_hpre2:=h_ hpre2;have H_hJp:=h_ hJp;have H_hgw:=h_ hgw;clear hpre2 hJp hgw
              obtain⟨wo2,hwo2⟩:∃wo2,wo2=wr:=⟨_,rfl⟩
              subst hwo2
              gi_wp2
              gi_loopw [71] (fun i wr=>∃(x:Nat) (pre:List {x // x∈Vg.Vt.looks C}),x<=nh/\i=.int .i64 x/\pre.map (·.1)=Vg.Vt.heads C++Vg.Vt.tasks C++Vg.Vt.lines C++(Vg.Vt.threads C).take x/\J pre wr/\Vg.Grows w wr/\W.heap.size<=wr.heap.size) (fun i _=>nh-(intOf i).toNat)
              case atStart=>exact⟨0,pre2,by omega,rfl,by simpa using H_hpre2.out,H_hJp.out,H_hgw.out,hWs⟩
              case round=>
               clear c_hcb2 f_hcb2 p_hcb2
               clear H_hJp H_hgw hWs
               obtain⟨x,pre3,hx2,rfl,hpr,hJp,hgw,hWs⟩:=hrel
               by_cases hlt2:x<nh
               ·have hj:x<C.H.length:=by rw[H_hnh.out];exact hlt2
                have hjI:(x:Int)<nh:=by omega
                obtain⟨g,off,hva,hg,c0,c1,c2,c3⟩:=(H_hR.out.2.2.grows hgw).2.2 x hj
                have htk:=(H_hR.out.2.2).1
                have htm:=(H_hR.out.2.2).2.1
                have hgt:=Vg.Vt.threads_get hj
                obtain⟨t,htt⟩:∃t,C.H[x]=t:=⟨_,rfl⟩
                rw[htt]at hgt c0 c1 c2 c3
                skip
                obtain⟨r,hr⟩:∃r,Vg.Vt.thread t=r:=⟨_,rfl⟩
                rw[hr]at hgt
                have hfk:=fun wz=>vet_thread t hr wz
                obtain⟨pr,bu,pe,dp⟩:=t
                simp only at c0 c1 c2 c3
                simp only[htV]at hfk
                rw[hva]
                have htc:nh<=v.hc:=by rw[<-H_hnh.out];exact htk
                have htc2:v.hc<=9223372036854775807:=htm
                have hmem:=hgt.2
                have hlen:pre3.length<(Vg.Vt.looks C).length:=by
                 have h9:=congrArg List.length hpr
                 have h8:=Vg.Vt.threads_len C
                 simp only[List.length_map,List.length_append,List.length_take]at h9
                 have h7:=Vg.Vt.looks_len C
                 rw[H_hnh.out]at h8
                 have h6:(Vg.Vt.heads C).length=3:=rfl
                 omega
                have hYx:=fun(w4:World) (h4:J pre3 w4)=>H_hY.out pre3 ⟨_,hmem⟩ w4 h4 hlen
                have hcbx:=hgw.blk H_hb.out
                simp only[cfO,H_hmne.out,H_hmxe.out,H_hswe.out,H_hnt.out,H_hnl.out,H_hnh.out]at hcbx
                obtain⟨c_hcbx,f_hcbx,p_hcbx,l_hcbx,H_hcbx⟩:=Vg.lay hcbx;clear hcbx
                have H_hpr:=h_ hpr;have H_hJp:=h_ hJp;have H_hgw:=h_ hgw;have H_hgt:=h_ hgt;have H_hYx:=h_ hYx;have H_htt:=h_ htt;have H_hva:=h_ hva;have H_htk:=h_ htk;have H_htm:=h_ htm;have H_hr:=h_ hr;have H_hfk:=h_ hfk;have H_hlen:=h_ hlen;clear hpr hJp hgw hgt hYx htt hva htk htm hr hfk hlen
                gi_wp2_with (first|(refine⟨trivial,?_⟩;gi_at_call 135;go_loud (refine(callsIn_wide.2 (H_hfk.out _)).mono ?_;rintro e w7 ⟨rfl,hg7⟩;have hg7:=(Vg.gro:Vg.Grows wr _).trans hg7;have H_hg7:=h_ hg7;clear hg7))|(refine⟨trivial,?_⟩;gi_at_call 130;go_loud (refine(callsIn_wide.2 (vet_found 6 x r _)).mono ?_;rintro e w8 ⟨rfl,hg8⟩;have hg8:=H_hg7.out.trans hg8;have hJ8:=H_hJ2.out _ _ _ H_hJp.out (Vg.Touch.of_grows hg8);obtain⟨fn9,tmps9,assign9,body9,hy9,hR9⟩:=H_hYx.out w8 hJ8;have H_hJ8:=h_ hJ8;have H_hg8:=h_ hg8;clear hJ8 hg8)))
                refine hR9.mono ?_
                rintro e W9 (⟨rfl,hJ9,hk9⟩|⟨rfl,hJx9⟩)
                ·have ht9:Vg.Touch (fun k=>k=l\/k+1=l) wr W9:=(Vg.Touch.of_grows H_hg8.out).trans (hk9.mono fun k _ hk=>by rcases hk with hk|hk|hk;exact hk.elim;exact .inl hk;exact .inr hk)
                 have hgw9:=ht9.gr H_hgw.out (fun k hk=>by omega)
                 have hs9:=Nat.le_trans hWs ht9.size
                 have H_ht9:=h_ ht9;have H_hJ9:=h_ hJ9;have H_hk9:=h_ hk9;have H_hgw9:=h_ hgw9;clear ht9 hJ9 hk9 hgw9
                 gi_wp2
                 go_roundw
                 case rel=>
                  (repeat apply Exists.intro)
                  exact⟨⟨x+1,pre3 ++ [⟨_,hmem⟩],by omega,by go_num,by rw[List.map_append,H_hpr.out,H_hgt.out.1,List.append_assoc];rfl,H_hJ9.out,H_hgw9.out,hs9⟩,rfl⟩
                 case measure=>simp[intOf];omega
                ·gi_wp2
                 (first|go_end0|refine bodyPost_ret (results_none rfl _ _ _) rfl ?_)
                 exact⟨⟨_,rfl⟩,.inr ⟨_,hJx9⟩⟩
               ·have hxe:x=nh:=by omega
                subst hxe
                have hpre3:pre3.map (·.1)=Vg.Vt.heads C++Vg.Vt.tasks C++Vg.Vt.lines C++Vg.Vt.threads C:=by
                 rw[hpr];congr 1
                 exact List.take_of_length_le (by rw[Vg.Vt.threads_len,H_hnh.out];exact Nat.le_refl _)
                clear hpr
                have hall:=H_hG.out _ _ hJp
                obtain⟨hT32,hH64,hpr63⟩:=Vg.Vt.pre_ok (C:=C) (fun y hy=>by rw[<-hpre3]at hy;obtain⟨z,hz,rfl⟩:=List.mem_map.1 hy;exact hall z hz)
                have hwf:∀p∈Vg.Vt.ps C,(Lit.int .i64 p).wf=true:=fun p hp=>WalkArith.wf_i64 (by have:=hpr63 p hp;omega)
                clear hall hpr63
                have hcb9:=hgw.blk H_hb.out
                have hRw:=H_hR.out.grows hgw
                have hcz:=hcb9
                simp only[cfO,H_hmne.out,H_hmxe.out,H_hswe.out,H_hnt.out,H_hnl.out,H_hnh.out]at hcz
                have hpk:=fun wz=>vet_prios C v wz
                simp only[cfV,H_hmne.out,H_hmxe.out,H_hswe.out,H_hnt.out,H_hnl.out,H_hnh.out]at hpk
                have hJ9:=H_hJ2.out _ _ _ hJp (Vg.Touch.of_grows ((Vg.Grows.refl wr).alloc (cfO C v)))
                have hend:=prios_in kk hk1 (Lk:=Vg.Vt.looks C) C v wr.heap.size l J Jx (wr.alloc (cfO C v)) W.heap.size pre3 (Vg.Vt.looks C).length (Vg.alloc_heap_at rfl) (hRw.grows ((Vg.Grows.refl wr).alloc _)) hT32 hH64 hwf (by rw[World.size_alloc];omega) (by rw[World.size_alloc];omega) H_hJ.out H_hJ2.out H_hY.out (by
                 have h9:=congrArg List.length hpre3
                 simp only[List.length_map,List.length_append,Vg.Vt.tasks_len,Vg.Vt.lines_len,Vg.Vt.threads_len]at h9
                 have h7:=Vg.Vt.looks_len C
                 have h6:(Vg.Vt.heads C).length=3:=rfl
                 have h5:(Vg.Vt.prios C).length=(Vg.Vt.ps C).length:=by simp[Vg.Vt.prios]
                 simp only[Vg.Vt.tasks_len,Vg.Vt.lines_len,Vg.Vt.threads_len]at h7
                 omega) (fun x hx=>by unfold Vg.Vt.looks;exact List.mem_append_right _ hx) hJ9
                obtain⟨c_hcz,f_hcz,p_hcz,l_hcz,H_hcz⟩:=Vg.lay hcz;clear hcz
                have H_hpre3:=h_ hpre3;have H_hJp:=h_ hJp;have H_hgw:=h_ hgw;have H_hcb9:=h_ hcb9;have H_hRw:=h_ hRw;have H_hpk:=h_ hpk;have H_hJ9:=h_ hJ9;have H_hend:=h_ hend;have H_hwf:=h_ hwf;have H_hT32:=h_ hT32;have H_hH64:=h_ hH64;clear hpre3 hJp hgw hcb9 hRw hpk hJ9 hend hwf hT32 hH64
                gi_wp2_with (first|(refine⟨trivial,?_⟩;gi_at_call 136;refine(callsIn_wide.2 (H_hpk.out _)).mono ?_;rintro e w7 ⟨rfl,rfl⟩)|(refine⟨trivial,?_⟩;gi_at_call 194;refine(callsIn_wide.2 (callsIn_wide.1 H_hend.out)).mono ?_;rintro e w8 ⟨⟨v8,rfl⟩,hres⟩;have H_hres:=h_ hres;clear hres))
                (first|go_end0|refine bodyPost_ret (results_none rfl _ _ _) rfl ?_)
                rcases H_hres.out with⟨xs,hxs,hJx⟩|⟨pre9,hJx⟩
                ·exact⟨⟨_,rfl⟩,.inl ⟨xs,by rw[hxs,H_hpre3.out];rfl,hJx⟩⟩
                ·exact⟨⟨_,rfl⟩,.inr ⟨_,hJx⟩⟩
       exact AllReadyH.nil
      exact AllReadyH.nil
     exact AllReadyH.nil
    exact AllReadyH.nil
   exact AllReadyH.nil
  exact AllReadyH.nil
 exact AllReadyH.nil
end Go.Proofs.YtlkdkgefjipjmaaGreatDoor
