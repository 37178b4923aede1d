/- ExW (put together). -/
import Derived.Test.YtlkdkgefjipjmaaGreatDoorP39
import Derived.Test.YtlkdkgefjipjmaaGreatDoorQ0
set_option linter.all false
set_option maxHeartbeats 40000000
set_option maxRecDepth 100000
namespace Vg
open Go
theorem Idle.qs0(T:List Th):Idle (Qs0 T):=fun q hq=>by
 unfold Qs0 at hq
 obtain⟨d,_,rfl⟩:=List.mem_map.1 hq
 rfl
end Vg
namespace Go.Proofs.YtlkdkgefjipjmaaGreatDoor
open Go.ChangeShapes Go.WideShapes Go.ChangeAt Go.RowKit
def NewP(w w':World)(C:Vg.Cf)(st:Int)(e:Ending):Prop:=
 ∃(xb:Nat)(A:Vg.Ad)(N:Nat)(OB:Nat->Prop),e=.returned (.tuple #[.pointer (some ⟨xb,0,none⟩),.int .i64 0])/\ES w' xb w.heap.size A (Vg.ex0 C.T st) N 0 OB/\(A.T=C.T/\A.mn=C.mn/\A.mx=C.mx/\A.sw=C.sw/\A.nl=C.L.length/\Vg.Idle A.Q)/\N<=64/\Vg.Grows w w'
theorem ex_new_no(C:Vg.Cf)(v:Cv)(st:Int)(w:World)(hR:CR w C v)(hmx : -9223372036854775808<=C.mx)(hg:¬Vg.Vt.good C):
  Calls Tryz.prog 7 #[cfV C v,.int .i64 st] w fun e w'=>(∃r,e=.returned (.tuple #[.pointer none,.int .i64 r])/\r≠0)/\Vg.Grows w w':=by
 obtain⟨nt,hnt⟩:∃nt,C.T.length=nt:=⟨_,rfl⟩
 obtain⟨nl,hnl⟩:∃nl,C.L.length=nl:=⟨_,rfl⟩
 obtain⟨nh,hnh⟩:∃nh,C.H.length=nh:=⟨_,rfl⟩
 obtain⟨mn,hmne⟩:∃mn,C.mn=mn:=⟨_,rfl⟩
 obtain⟨mx,hmxe⟩:∃mx,C.mx=mx:=⟨_,rfl⟩
 obtain⟨sw,hswe⟩:∃sw,C.sw=sw:=⟨_,rfl⟩
 have hck:∀wz,Vg.Grows w wz->Calls Tryz.prog 12 #[cfV C v] wz fun e w'=>(∃r,e=.returned (.int .i64 r)/\r≠0)/\Vg.Grows wz w':=fun wz hw=>by
  refine(vet_check C v wz (hR.grows hw) hmx).mono ?_
  rintro e w' ⟨⟨r,rfl,h1⟩,h2⟩
  exact⟨⟨r,rfl,(h1.resolve_left fun h=>hg h.2).1⟩,h2⟩
 have hCV:cfV C v=.agg #[.int .i64 mn,.int .i64 mx,.int .i64 sw,.slice v.ta nt v.tc,.slice v.la nl v.lc,.slice v.ha nh v.hc]:=by simp only[cfV,hmne,hmxe,hswe,hnt,hnl,hnh]
 rw[hCV]at hck ⊢
 have H_hR:=h_ hR;have H_hmx:=h_ hmx;have H_hnt:=h_ hnt;have H_hnl:=h_ hnl;have H_hnh:=h_ hnh;have H_hmne:=h_ hmne;have H_hmxe:=h_ hmxe;have H_hswe:=h_ hswe;have H_hCV:=h_ hCV;have H_hck:=h_ hck;have H_hg:=h_ hg;clear hR hmx hnt hnl hnh hmne hmxe hswe hCV hck hg
 go_enter Tryz.func7,Tryz.ntmps7
 go_wp2_with ((go_at_call 12;(with_reducible refine(H_hck.out _ (Vg.gro)).mono ?_);rintro e1 w1 ⟨⟨r,rfl,hr⟩,hg1⟩;have hrb:(r != 0)=true:=(by simpa using hr);have H_hg1:=h_ hg1;have H_hr:=h_ hr;clear hg1 hr))
 go_ret2
 exact⟨⟨r,rfl,H_hr.out⟩,Vg.Grows.trans (Vg.gro) H_hg1.out⟩
theorem ex_new (C:Vg.Cf) (v:Cv) (st:Int) (w:World) (hR:CR w C v) (hgd:Vg.Vt.good C) (hT:Vg.Tab w) (hst0:0<=st) (hst1:st<=4503599627370496) (ho:∀t∈C.T,t.kd=1->st+t.og<=4503599627370496) :
  Calls Tryz.prog 7 #[cfV C v,.int .i64 st] w fun e w'=>NewP w w' C st e:=by
 have hok:=Vg.Vt.good_ok hgd
 have htm:=hok.tm
 have hw0:0<w.heap.size:=World.block_lt_of_cell? w _ (hT 0 (by decide))
 obtain⟨nt,hnt⟩:∃nt,C.T.length=nt:=⟨_,rfl⟩
 obtain⟨nl,hnl⟩:∃nl,C.L.length=nl:=⟨_,rfl⟩
 obtain⟨nh,hnh⟩:∃nh,C.H.length=nh:=⟨_,rfl⟩
 obtain⟨mn,hmne⟩:∃mn,C.mn=mn:=⟨_,rfl⟩
 obtain⟨mx,hmxe⟩:∃mx,C.mx=mx:=⟨_,rfl⟩
 obtain⟨sw,hswe⟩:∃sw,C.sw=sw:=⟨_,rfl⟩
 have hnt1:=hok.nt
 have hnl1:=hok.nl
 have hnh1:=hok.nh
 rw[hnt]at hnt1
 rw[hnl]at hnl1 hnh1
 rw[hnh]at hnh1
 have hnh64:nh<=64:=by omega
 clear hnh1
 rw[hmne,hmxe]at htm
 have hck:∀wz,Vg.Grows w wz->Calls Tryz.prog 12 #[cfV C v] wz fun e w'=>e=.returned (.int .i64 0)/\Vg.Grows wz w':=fun wz hw=>by
  refine(vet_check C v wz (hR.grows hw) (by rw[hmxe];omega)).mono ?_
  rintro e w' ⟨⟨r,rfl,h1⟩,h2⟩
  rcases h1 with⟨rfl,_⟩|⟨_,h1⟩
  ·exact⟨rfl,h2⟩
  ·exact absurd hgd h1
 have hsv:∀wz,Calls Tryz.prog 20 #[.int .i64 st,tmV mn mx,.int .i64 64] wz fun e w'=>∃sb Y,e=.returned (.tuple #[.pointer (some ⟨sb,0,none⟩),.int .i64 0])/\SX w' sb Y mn mx st st (fun _=>none) (fun _=>none) 64 0/\(∀k,Y k->wz.heap.size<=k)/\Vg.Grows wz w':=fun wz=>svc_new st 64 wz htm hst0 hst1 (by omega) (by omega) (by omega)
 have how:∀wz,Vg.Grows w wz->Calls Tryz.prog 21 #[cfV C v] wz fun e w'=>∃u:Cv,e=.returned (cfV C u)/\Vg.TK w' u.ta u.tc C.T/\(∀j,(Value.slice u.ta C.T.length u.tc).ownBlock=some j->wz.heap.size<=j/\j<w'.heap.size)/\Vg.Grows wz w':=fun wz hw=>ex_own C v wz (hR.grows hw) hok.nt.2 hok.nl (by have:=hok.nh;have:=hok.nl;omega)
 have hkn:∀wz,Vg.Grows w wz->Calls Tryz.prog 22 #[.slice v.ta nt v.tc] wz fun e w'=>∃b OB,e=.returned (.tuple #[.pointer (some ⟨b,0,none⟩),.int .i64 0])/\KQ w' b (Vg.Kn.K0 C.T) (Vg.Kn.M0 C.T) OB/\(∀k,OB k->wz.heap.size<=k)/\Vg.Grows wz w':=fun wz hw=>kq_new (hR.1.grows hw) hnt hok.ck rfl rfl
 have hir:∀wz,Vg.Grows w wz->Calls Tryz.prog 23 #[.slice v.la nl v.lc] wz fun e w'=>∃b OB,e=.returned (.tuple #[.pointer (some ⟨b,0,none⟩),.int .i64 0])/\QZ w' b nl 0 OB/\(∀k,OB k->wz.heap.size<=k)/\Vg.Grows wz w':=fun wz hw=>by
  refine(irq_new (hR.2.1.grows hw) hnl (by omega) (by have:=hw.size;omega)).mono ?_
  rintro e w' (⟨_,⟨OB,rfl,h1,h2⟩,h3⟩|⟨h9,_⟩)
  ·rw[hnl]at h1
   exact⟨_,OB,rfl,h1,h2,h3⟩
  ·rw[hok.li]at h9;cases h9
 have hbn:∀wz,Vg.Grows w wz->Calls Tryz.prog 24 #[.slice v.ha nh v.hc] wz fun e w'=>∃b OB,e=.returned (.tuple #[.pointer (some ⟨b,0,none⟩),.int .i64 0])/\BS w' b wz.heap.size (C.H.map Vg.th0) (Vg.Qs0 C.H) OB/\Vg.Grows wz w':=fun wz hw=>by
  refine(bs_new (hR.2.2.grows hw) hnh (by omega) hok.th rfl rfl).mono ?_
  rintro e w' ⟨OB,rfl,h1,h2⟩
  exact⟨_,OB,rfl,h1,h2⟩
 have hm1:=mk_books nt (by omega)
 have hm2:=mk_masks nl (by omega)
 obtain⟨ob1,hob1⟩:∃o,(Obj.cells (Vg.bkcells ((List.replicate nt Vg.bk0).zip (Vg.nils nt))).toArray 95)=o:=⟨_,rfl⟩
 obtain⟨ob2,hob2⟩:∃o,(Obj.cells (List.replicate nl (Value.bool false)).toArray 4)=o:=⟨_,rfl⟩
 rw[hob1]at hm1
 rw[hob2]at hm2
 have hCV:∀u,cfV C u=.agg #[.int .i64 mn,.int .i64 mx,.int .i64 sw,.slice u.ta nt u.tc,.slice u.la nl u.lc,.slice u.ha nh u.hc]:=fun u=>by simp only[cfV,hmne,hmxe,hswe,hnt,hnl,hnh]
 simp only[hCV,hnt]at hck how
 rw[hCV]
 have x0:Vg.blk (w.alloc (.cells #[.int .i64 mn,.int .i64 mx,.int .i64 sw,.slice v.ta nt v.tc,.slice v.la nl v.lc,.slice v.ha nh v.hc] 30)) w.heap.size=some (.cells #[.int .i64 mn,.int .i64 mx,.int .i64 sw,.slice v.ta nt v.tc,.slice v.la nl v.lc,.slice v.ha nh v.hc] 30):=Vg.alloc_heap_at rfl
 have H_hR:=h_ hR;have H_hgd:=h_ hgd;have H_hT:=h_ hT;have H_ho:=h_ ho;have H_hok:=h_ hok;have H_hnt:=h_ hnt;have H_hnl:=h_ hnl;have H_hnh:=h_ hnh;have H_hmne:=h_ hmne;have H_hmxe:=h_ hmxe;have H_hswe:=h_ hswe;have H_hck:=h_ hck;have H_hsv:=h_ hsv;have H_how:=h_ how;have H_hkn:=h_ hkn;have H_hir:=h_ hir;have H_hbn:=h_ hbn;have H_hob1:=h_ hob1;have H_hob2:=h_ hob2;have H_hCV:=h_ hCV;have H_x0:=h_ x0;clear hR hgd hT ho hok hnt hnl hnh hmne hmxe hswe hck hsv how hkn hir hbn hob1 hob2 hCV x0
 go_enter Tryz.func7,Tryz.ntmps7
 go_upto_region 7 with(first|(go_at_call 12;(with_reducible refine(H_hck.out _ (Vg.gro)).mono ?_);rintro e1 w1 ⟨rfl,hg1⟩;have x1:=hg1.blk H_x0.out;have hgw1:=((Vg.Grows.refl w).alloc _).trans hg1;obtain⟨c_x1,f_x1,p_x1,l_x1,H_x1⟩:=Vg.lay x1;clear x1;have H_hg1:=h_ hg1;have H_hgw1:=h_ hgw1;clear hg1 hgw1)|(go_at_call 20;(with_reducible refine(H_hsv.out _).mono ?_);rintro e2 w2 ⟨sb,Y,rfl,hsx,hY,hg2⟩;have x2:=hg2.blk H_x1.out;have hgw2:=H_hgw1.out.trans hg2;clear c_x1 f_x1 p_x1;obtain⟨c_x2,f_x2,p_x2,l_x2,H_x2⟩:=Vg.lay x2;clear x2;have H_hsx:=h_ hsx;have H_hY:=h_ hY;have H_hg2:=h_ hg2;have H_hgw2:=h_ hgw2;clear hsx hY hg2 hgw2))
 go_cut [9] (fun v9 wz=>∃(xb gb gm:Nat) (u:Cv),v9=.pointer (some ⟨xb,0,none⟩) /\
  Vg.blk wz xb=some (.cells #[.int .i64 mn,.int .i64 mx,.int .i64 sw,.slice u.ta nt u.tc,.slice u.la nl u.lc,.slice u.ha nh u.hc,.pointer (some ⟨sb,0,none⟩),.pointer none,.pointer none,.pointer none,.slice (some ⟨gb,0,none⟩) nt nt,.slice (some ⟨gm,0,none⟩) nl nl,.int .u8 0,.int .i64 0,.slice none 0 0,.int .i64 0,.int .i64 0] 84) /\
  Vg.blk wz gb=some ob1/\Vg.blk wz gm=some ob2/\Vg.TK wz u.ta u.tc C.T/\(∀j,(Value.slice u.ta nt u.tc).ownBlock=some j->w2.heap.size<=j/\j<xb/\j≠gb/\j≠gm)/\(w2.heap.size<=gb/\gb<xb)/\(w2.heap.size<=gm/\gm<xb)/\gb≠gm/\xb<wz.heap.size/\Vg.Grows w2 wz)
 case first=>
  refine wp_region_held_drew (S:=fun w'=>w.heap.size<w'.heap.size/\w'.cell? ⟨w.heap.size,0,none⟩=some (.int .i64 mn)/\w'.cell? ⟨w.heap.size,1,none⟩=some (.int .i64 mx)/\w'.cell? ⟨w.heap.size,2,none⟩=some (.int .i64 sw)/\w'.cell? ⟨w.heap.size,3,none⟩=some (.slice v.ta nt v.tc)/\w'.cell? ⟨w.heap.size,4,none⟩=some (.slice v.la nl v.lc)/\w'.cell? ⟨w.heap.size,5,none⟩=some (.slice v.ha nh v.hc)) (by kernel_rfl) (by go_split_ands <;> (try dsimp only) <;> go_simp) (fun hHeld=>?_)
  refine tk 0 ?_
  refine tk 2 ?_
  refine tk 3 ?_
  refine tk 4 ?_
  refine tk 5 ?_
  refine tk 7 ?_
  refine tk 8 ?_
  refine tk 9 ?_
  refine wpAnyH_ready (rs:=[1,6,10]) (by kernel_rfl) (by simp) ?_
  refine AllReadyH.cons (o:=_) rfl (fun K hK=>?st9) ?mo9
  case st9=>
   go_simp
   ((go_at_call 21;(with_reducible refine(H_how.out _ (by have q:=H_hgw2.out;exact Vg.gro)).mono ?_);rintro e3 w3 ⟨u,rfl,htk,hown,hg3⟩;have hgz:=Vg.Grows.trans (Vg.gro:Vg.Grows w2 _) hg3;have x3:=hgz.blk H_x2.out;have s3:=hg3.size;(simp only[World.size_drew,World.size_alloc]at s3 hown);obtain⟨c_x3,f_x3,p_x3,l_x3,H_x3⟩:=Vg.lay x3;clear x3;have H_htk:=h_ htk;have H_hown:=h_ hown;have H_hg3:=h_ hg3;have H_hgz:=h_ hgz;have H_s3:=h_ s3;clear htk hown hg3 hgz s3))
   all_goals(try go_wp2_with fail)
   refine hK.out _ _ (by go_split_ands <;> (try dsimp only) <;> go_simp) (fun hHeld9=>?_)
   clear hK K
   refine wpAnyH_ready (rs:=[6,10]) (by kernel_rfl) (by simp) ?_
   refine AllReadyH.cons (o:=_) rfl (fun K hK=>?st10) ?mo10
   case st10=>
    go_simp
    refine hK.out _ _ (by go_split_ands <;> (try dsimp only) <;> go_simp) (fun hHeld10=>?_)
    clear hK K
    refine wpAnyH_ready (rs:=[10]) (by kernel_rfl) (by simp) ?_
    refine AllReadyH.cons (o:=_) rfl (fun K hK=>?st11) ?mo11
    case st11=>
     go_simp
     refine hK.out _ _ (by go_split_ands <;> (try dsimp only) <;> go_simp) (fun hHeld11=>?_)
     clear hK K
     refine tk 11 ?_
     refine wpAnyH_ready (rs:=[12]) (by kernel_rfl) (by simp) ?_
     refine AllReadyH.cons (o:=_) rfl (fun K hK=>?st13) ?mo13
     case st13=>
      go_simp
      refine hK.out _ _ (by go_split_ands <;> (try dsimp only) <;> go_simp) (fun hHeld13=>?_)
      clear hK K
      refine tk 13 ?_
      refine wpAnyH_done (by kernel_rfl) ?_ _
      go_wp2_with fail
      go_meet
      have s3:=H_s3.out
      refine⟨_,_,_,u,rfl,Vg.alloc_heap_at (by first|rfl|simp),?_,?_,H_htk.out.grows (Vg.gro),fun j hj=>?_,⟨?_,?_⟩,⟨?_,?_⟩,?_,?_,?_⟩
      ·(repeat'(first|exact Vg.alloc_heap_at (by first|omega|(simp only[World.size_alloc] <;> omega))|refine(Vg.alloc_heap_past (by first|omega|(simp only[World.size_alloc] <;> omega))).trans ?_|refine Vg.Grows.blk H_hg3.out ?_|rw[Vg.blk_drew]|rw[Vg.drew_heap]))
      ·(repeat'(first|exact Vg.alloc_heap_at (by first|omega|(simp only[World.size_alloc] <;> omega))|refine(Vg.alloc_heap_past (by first|omega|(simp only[World.size_alloc] <;> omega))).trans ?_|refine Vg.Grows.blk H_hg3.out ?_|rw[Vg.blk_drew]|rw[Vg.drew_heap]))
      ·have h9:=H_hown.out j hj
       refine⟨?_,?_,?_,?_⟩
       all_goals(first|omega|(simp only[World.size_alloc] <;> omega))
      ·(first|omega|(simp only[World.size_alloc] <;> omega))
      ·(first|omega|(simp only[World.size_alloc] <;> omega))
      ·(first|omega|(simp only[World.size_alloc] <;> omega))
      ·(first|omega|(simp only[World.size_alloc] <;> omega))
      ·(first|omega|(simp only[World.size_alloc] <;> omega))
      ·(first|omega|(simp only[World.size_alloc] <;> omega))
      ·have q:=H_hgz.out
       exact Vg.gro
     exact AllReadyH.nil
    exact AllReadyH.nil
   refine AllReadyH.cons (o:=_) rfl (fun K hK=>?st15) ?mo15
   case st15=>
    go_simp
    refine hK.out _ _ (by go_split_ands <;> (try dsimp only) <;> go_simp) (fun hHeld15=>?_)
    clear hK K
    refine wpAnyH_ready (rs:=[6]) (by kernel_rfl) (by simp) ?_
    refine AllReadyH.cons (o:=_) rfl (fun K hK=>?st16) ?mo16
    case st16=>
     go_simp
     refine hK.out _ _ (by go_split_ands <;> (try dsimp only) <;> go_simp) (fun hHeld16=>?_)
     clear hK K
     refine tk 11 ?_
     refine wpAnyH_ready (rs:=[12]) (by kernel_rfl) (by simp) ?_
     refine AllReadyH.cons (o:=_) rfl (fun K hK=>?st18) ?mo18
     case st18=>
      go_simp
      refine hK.out _ _ (by go_split_ands <;> (try dsimp only) <;> go_simp) (fun hHeld18=>?_)
      clear hK K
      refine tk 13 ?_
      refine wpAnyH_done (by kernel_rfl) ?_ _
      go_wp2_with fail
      go_meet
      have s3:=H_s3.out
      refine⟨_,_,_,u,rfl,Vg.alloc_heap_at (by first|rfl|simp),?_,?_,H_htk.out.grows (Vg.gro),fun j hj=>?_,⟨?_,?_⟩,⟨?_,?_⟩,?_,?_,?_⟩
      ·(repeat'(first|exact Vg.alloc_heap_at (by first|omega|(simp only[World.size_alloc] <;> omega))|refine(Vg.alloc_heap_past (by first|omega|(simp only[World.size_alloc] <;> omega))).trans ?_|refine Vg.Grows.blk H_hg3.out ?_|rw[Vg.blk_drew]|rw[Vg.drew_heap]))
      ·(repeat'(first|exact Vg.alloc_heap_at (by first|omega|(simp only[World.size_alloc] <;> omega))|refine(Vg.alloc_heap_past (by first|omega|(simp only[World.size_alloc] <;> omega))).trans ?_|refine Vg.Grows.blk H_hg3.out ?_|rw[Vg.blk_drew]|rw[Vg.drew_heap]))
      ·have h9:=H_hown.out j hj
       refine⟨?_,?_,?_,?_⟩
       all_goals(first|omega|(simp only[World.size_alloc] <;> omega))
      ·(first|omega|(simp only[World.size_alloc] <;> omega))
      ·(first|omega|(simp only[World.size_alloc] <;> omega))
      ·(first|omega|(simp only[World.size_alloc] <;> omega))
      ·(first|omega|(simp only[World.size_alloc] <;> omega))
      ·(first|omega|(simp only[World.size_alloc] <;> omega))
      ·(first|omega|(simp only[World.size_alloc] <;> omega))
      ·have q:=H_hgz.out
       exact Vg.gro
     exact AllReadyH.nil
    exact AllReadyH.nil
   exact AllReadyH.nil
  refine AllReadyH.cons (o:=_) rfl (fun K hK=>?st20) ?mo20
  case st20=>
   go_simp
   refine hK.out _ _ (by go_split_ands <;> (try dsimp only) <;> go_simp) (fun hHeld20=>?_)
   clear hK K
   refine wpAnyH_ready (rs:=[1,10]) (by kernel_rfl) (by simp) ?_
   refine AllReadyH.cons (o:=_) rfl (fun K hK=>?st21) ?mo21
   case st21=>
    go_simp
    ((go_at_call 21;(with_reducible refine(H_how.out _ (by have q:=H_hgw2.out;exact Vg.gro)).mono ?_);rintro e3 w3 ⟨u,rfl,htk,hown,hg3⟩;have hgz:=Vg.Grows.trans (Vg.gro:Vg.Grows w2 _) hg3;have x3:=hgz.blk H_x2.out;have s3:=hg3.size;(simp only[World.size_drew,World.size_alloc]at s3 hown);obtain⟨c_x3,f_x3,p_x3,l_x3,H_x3⟩:=Vg.lay x3;clear x3;have H_htk:=h_ htk;have H_hown:=h_ hown;have H_hg3:=h_ hg3;have H_hgz:=h_ hgz;have H_s3:=h_ s3;clear htk hown hg3 hgz s3))
    all_goals(try go_wp2_with fail)
    refine hK.out _ _ (by go_split_ands <;> (try dsimp only) <;> go_simp) (fun hHeld21=>?_)
    clear hK K
    refine wpAnyH_ready (rs:=[10]) (by kernel_rfl) (by simp) ?_
    refine AllReadyH.cons (o:=_) rfl (fun K hK=>?st22) ?mo22
    case st22=>
     go_simp
     refine hK.out _ _ (by go_split_ands <;> (try dsimp only) <;> go_simp) (fun hHeld22=>?_)
     clear hK K
     refine tk 11 ?_
     refine wpAnyH_ready (rs:=[12]) (by kernel_rfl) (by simp) ?_
     refine AllReadyH.cons (o:=_) rfl (fun K hK=>?st24) ?mo24
     case st24=>
      go_simp
      refine hK.out _ _ (by go_split_ands <;> (try dsimp only) <;> go_simp) (fun hHeld24=>?_)
      clear hK K
      refine tk 13 ?_
      refine wpAnyH_done (by kernel_rfl) ?_ _
      go_wp2_with fail
      go_meet
      have s3:=H_s3.out
      refine⟨_,_,_,u,rfl,Vg.alloc_heap_at (by first|rfl|simp),?_,?_,H_htk.out.grows (Vg.gro),fun j hj=>?_,⟨?_,?_⟩,⟨?_,?_⟩,?_,?_,?_⟩
      ·(repeat'(first|exact Vg.alloc_heap_at (by first|omega|(simp only[World.size_alloc] <;> omega))|refine(Vg.alloc_heap_past (by first|omega|(simp only[World.size_alloc] <;> omega))).trans ?_|refine Vg.Grows.blk H_hg3.out ?_|rw[Vg.blk_drew]|rw[Vg.drew_heap]))
      ·(repeat'(first|exact Vg.alloc_heap_at (by first|omega|(simp only[World.size_alloc] <;> omega))|refine(Vg.alloc_heap_past (by first|omega|(simp only[World.size_alloc] <;> omega))).trans ?_|refine Vg.Grows.blk H_hg3.out ?_|rw[Vg.blk_drew]|rw[Vg.drew_heap]))
      ·have h9:=H_hown.out j hj
       refine⟨?_,?_,?_,?_⟩
       all_goals(first|omega|(simp only[World.size_alloc] <;> omega))
      ·(first|omega|(simp only[World.size_alloc] <;> omega))
      ·(first|omega|(simp only[World.size_alloc] <;> omega))
      ·(first|omega|(simp only[World.size_alloc] <;> omega))
      ·(first|omega|(simp only[World.size_alloc] <;> omega))
      ·(first|omega|(simp only[World.size_alloc] <;> omega))
      ·(first|omega|(simp only[World.size_alloc] <;> omega))
      ·have q:=H_hgz.out
       exact Vg.gro
     exact AllReadyH.nil
    exact AllReadyH.nil
   refine AllReadyH.cons (o:=_) rfl (fun K hK=>?st26) ?mo26
   case st26=>
    go_simp
    refine hK.out _ _ (by go_split_ands <;> (try dsimp only) <;> go_simp) (fun hHeld26=>?_)
    clear hK K
    refine wpAnyH_ready (rs:=[1]) (by kernel_rfl) (by simp) ?_
    refine AllReadyH.cons (o:=_) rfl (fun K hK=>?st27) ?mo27
    case st27=>
     go_simp
     ((go_at_call 21;(with_reducible refine(H_how.out _ (by have q:=H_hgw2.out;exact Vg.gro)).mono ?_);rintro e3 w3 ⟨u,rfl,htk,hown,hg3⟩;have hgz:=Vg.Grows.trans (Vg.gro:Vg.Grows w2 _) hg3;have x3:=hgz.blk H_x2.out;have s3:=hg3.size;(simp only[World.size_drew,World.size_alloc]at s3 hown);obtain⟨c_x3,f_x3,p_x3,l_x3,H_x3⟩:=Vg.lay x3;clear x3;have H_htk:=h_ htk;have H_hown:=h_ hown;have H_hg3:=h_ hg3;have H_hgz:=h_ hgz;have H_s3:=h_ s3;clear htk hown hg3 hgz s3))
     all_goals(try go_wp2_with fail)
     refine hK.out _ _ (by go_split_ands <;> (try dsimp only) <;> go_simp) (fun hHeld27=>?_)
     clear hK K
     refine tk 11 ?_
     refine wpAnyH_ready (rs:=[12]) (by kernel_rfl) (by simp) ?_
     refine AllReadyH.cons (o:=_) rfl (fun K hK=>?st29) ?mo29
     case st29=>
      go_simp
      refine hK.out _ _ (by go_split_ands <;> (try dsimp only) <;> go_simp) (fun hHeld29=>?_)
      clear hK K
      refine tk 13 ?_
      refine wpAnyH_done (by kernel_rfl) ?_ _
      go_wp2_with fail
      go_meet
      have s3:=H_s3.out
      refine⟨_,_,_,u,rfl,Vg.alloc_heap_at (by first|rfl|simp),?_,?_,H_htk.out.grows (Vg.gro),fun j hj=>?_,⟨?_,?_⟩,⟨?_,?_⟩,?_,?_,?_⟩
      ·(repeat'(first|exact Vg.alloc_heap_at (by first|omega|(simp only[World.size_alloc] <;> omega))|refine(Vg.alloc_heap_past (by first|omega|(simp only[World.size_alloc] <;> omega))).trans ?_|refine Vg.Grows.blk H_hg3.out ?_|rw[Vg.blk_drew]|rw[Vg.drew_heap]))
      ·(repeat'(first|exact Vg.alloc_heap_at (by first|omega|(simp only[World.size_alloc] <;> omega))|refine(Vg.alloc_heap_past (by first|omega|(simp only[World.size_alloc] <;> omega))).trans ?_|refine Vg.Grows.blk H_hg3.out ?_|rw[Vg.blk_drew]|rw[Vg.drew_heap]))
      ·have h9:=H_hown.out j hj
       refine⟨?_,?_,?_,?_⟩
       all_goals(first|omega|(simp only[World.size_alloc] <;> omega))
      ·(first|omega|(simp only[World.size_alloc] <;> omega))
      ·(first|omega|(simp only[World.size_alloc] <;> omega))
      ·(first|omega|(simp only[World.size_alloc] <;> omega))
      ·(first|omega|(simp only[World.size_alloc] <;> omega))
      ·(first|omega|(simp only[World.size_alloc] <;> omega))
      ·(first|omega|(simp only[World.size_alloc] <;> omega))
      ·have q:=H_hgz.out
       exact Vg.gro
     exact AllReadyH.nil
    exact AllReadyH.nil
   exact AllReadyH.nil
  refine AllReadyH.cons (o:=_) rfl (fun K hK=>?st31) ?mo31
  case st31=>
   go_simp
   refine hK.out _ _ (by go_split_ands <;> (try dsimp only) <;> go_simp) (fun hHeld31=>?_)
   clear hK K
   refine wpAnyH_ready (rs:=[1,6]) (by kernel_rfl) (by simp) ?_
   refine AllReadyH.cons (o:=_) rfl (fun K hK=>?st32) ?mo32
   case st32=>
    go_simp
    ((go_at_call 21;(with_reducible refine(H_how.out _ (by have q:=H_hgw2.out;exact Vg.gro)).mono ?_);rintro e3 w3 ⟨u,rfl,htk,hown,hg3⟩;have hgz:=Vg.Grows.trans (Vg.gro:Vg.Grows w2 _) hg3;have x3:=hgz.blk H_x2.out;have s3:=hg3.size;(simp only[World.size_drew,World.size_alloc]at s3 hown);obtain⟨c_x3,f_x3,p_x3,l_x3,H_x3⟩:=Vg.lay x3;clear x3;have H_htk:=h_ htk;have H_hown:=h_ hown;have H_hg3:=h_ hg3;have H_hgz:=h_ hgz;have H_s3:=h_ s3;clear htk hown hg3 hgz s3))
    all_goals(try go_wp2_with fail)
    refine hK.out _ _ (by go_split_ands <;> (try dsimp only) <;> go_simp) (fun hHeld32=>?_)
    clear hK K
    refine wpAnyH_ready (rs:=[6]) (by kernel_rfl) (by simp) ?_
    refine AllReadyH.cons (o:=_) rfl (fun K hK=>?st33) ?mo33
    case st33=>
     go_simp
     refine hK.out _ _ (by go_split_ands <;> (try dsimp only) <;> go_simp) (fun hHeld33=>?_)
     clear hK K
     refine tk 11 ?_
     refine wpAnyH_ready (rs:=[12]) (by kernel_rfl) (by simp) ?_
     refine AllReadyH.cons (o:=_) rfl (fun K hK=>?st35) ?mo35
     case st35=>
      go_simp
      refine hK.out _ _ (by go_split_ands <;> (try dsimp only) <;> go_simp) (fun hHeld35=>?_)
      clear hK K
      refine tk 13 ?_
      refine wpAnyH_done (by kernel_rfl) ?_ _
      go_wp2_with fail
      go_meet
      have s3:=H_s3.out
      refine⟨_,_,_,u,rfl,Vg.alloc_heap_at (by first|rfl|simp),?_,?_,H_htk.out.grows (Vg.gro),fun j hj=>?_,⟨?_,?_⟩,⟨?_,?_⟩,?_,?_,?_⟩
      ·(repeat'(first|exact Vg.alloc_heap_at (by first|omega|(simp only[World.size_alloc] <;> omega))|refine(Vg.alloc_heap_past (by first|omega|(simp only[World.size_alloc] <;> omega))).trans ?_|refine Vg.Grows.blk H_hg3.out ?_|rw[Vg.blk_drew]|rw[Vg.drew_heap]))
      ·(repeat'(first|exact Vg.alloc_heap_at (by first|omega|(simp only[World.size_alloc] <;> omega))|refine(Vg.alloc_heap_past (by first|omega|(simp only[World.size_alloc] <;> omega))).trans ?_|refine Vg.Grows.blk H_hg3.out ?_|rw[Vg.blk_drew]|rw[Vg.drew_heap]))
      ·have h9:=H_hown.out j hj
       refine⟨?_,?_,?_,?_⟩
       all_goals(first|omega|(simp only[World.size_alloc] <;> omega))
      ·(first|omega|(simp only[World.size_alloc] <;> omega))
      ·(first|omega|(simp only[World.size_alloc] <;> omega))
      ·(first|omega|(simp only[World.size_alloc] <;> omega))
      ·(first|omega|(simp only[World.size_alloc] <;> omega))
      ·(first|omega|(simp only[World.size_alloc] <;> omega))
      ·(first|omega|(simp only[World.size_alloc] <;> omega))
      ·have q:=H_hgz.out
       exact Vg.gro
     exact AllReadyH.nil
    exact AllReadyH.nil
   refine AllReadyH.cons (o:=_) rfl (fun K hK=>?st37) ?mo37
   case st37=>
    go_simp
    refine hK.out _ _ (by go_split_ands <;> (try dsimp only) <;> go_simp) (fun hHeld37=>?_)
    clear hK K
    refine wpAnyH_ready (rs:=[1]) (by kernel_rfl) (by simp) ?_
    refine AllReadyH.cons (o:=_) rfl (fun K hK=>?st38) ?mo38
    case st38=>
     go_simp
     ((go_at_call 21;(with_reducible refine(H_how.out _ (by have q:=H_hgw2.out;exact Vg.gro)).mono ?_);rintro e3 w3 ⟨u,rfl,htk,hown,hg3⟩;have hgz:=Vg.Grows.trans (Vg.gro:Vg.Grows w2 _) hg3;have x3:=hgz.blk H_x2.out;have s3:=hg3.size;(simp only[World.size_drew,World.size_alloc]at s3 hown);obtain⟨c_x3,f_x3,p_x3,l_x3,H_x3⟩:=Vg.lay x3;clear x3;have H_htk:=h_ htk;have H_hown:=h_ hown;have H_hg3:=h_ hg3;have H_hgz:=h_ hgz;have H_s3:=h_ s3;clear htk hown hg3 hgz s3))
     all_goals(try go_wp2_with fail)
     refine hK.out _ _ (by go_split_ands <;> (try dsimp only) <;> go_simp) (fun hHeld38=>?_)
     clear hK K
     refine tk 11 ?_
     refine wpAnyH_ready (rs:=[12]) (by kernel_rfl) (by simp) ?_
     refine AllReadyH.cons (o:=_) rfl (fun K hK=>?st40) ?mo40
     case st40=>
      go_simp
      refine hK.out _ _ (by go_split_ands <;> (try dsimp only) <;> go_simp) (fun hHeld40=>?_)
      clear hK K
      refine tk 13 ?_
      refine wpAnyH_done (by kernel_rfl) ?_ _
      go_wp2_with fail
      go_meet
      have s3:=H_s3.out
      refine⟨_,_,_,u,rfl,Vg.alloc_heap_at (by first|rfl|simp),?_,?_,H_htk.out.grows (Vg.gro),fun j hj=>?_,⟨?_,?_⟩,⟨?_,?_⟩,?_,?_,?_⟩
      ·(repeat'(first|exact Vg.alloc_heap_at (by first|omega|(simp only[World.size_alloc] <;> omega))|refine(Vg.alloc_heap_past (by first|omega|(simp only[World.size_alloc] <;> omega))).trans ?_|refine Vg.Grows.blk H_hg3.out ?_|rw[Vg.blk_drew]|rw[Vg.drew_heap]))
      ·(repeat'(first|exact Vg.alloc_heap_at (by first|omega|(simp only[World.size_alloc] <;> omega))|refine(Vg.alloc_heap_past (by first|omega|(simp only[World.size_alloc] <;> omega))).trans ?_|refine Vg.Grows.blk H_hg3.out ?_|rw[Vg.blk_drew]|rw[Vg.drew_heap]))
      ·have h9:=H_hown.out j hj
       refine⟨?_,?_,?_,?_⟩
       all_goals(first|omega|(simp only[World.size_alloc] <;> omega))
      ·(first|omega|(simp only[World.size_alloc] <;> omega))
      ·(first|omega|(simp only[World.size_alloc] <;> omega))
      ·(first|omega|(simp only[World.size_alloc] <;> omega))
      ·(first|omega|(simp only[World.size_alloc] <;> omega))
      ·(first|omega|(simp only[World.size_alloc] <;> omega))
      ·(first|omega|(simp only[World.size_alloc] <;> omega))
      ·have q:=H_hgz.out
       exact Vg.gro
     exact AllReadyH.nil
    exact AllReadyH.nil
   exact AllReadyH.nil
  exact AllReadyH.nil
 case rest=>
  obtain⟨wA,hwA⟩:∃wA,wA=wc:=⟨_,rfl⟩
  subst hwA
  obtain⟨xb,gb,gm,u,rfl,hxb,hgb,hgm,htk,hown,⟨hb1,hb2⟩,⟨hb3,hb4⟩,hne,hxl,hgA⟩:=hcut
  have hgwA:=H_hgw2.out.trans hgA
  have hc0:=hgA.blk H_x2.out
  have hw2:w.heap.size<w2.heap.size:=Vg.lt_of H_x2.out
  have hxw:w.heap.size<=xb:=by omega
  have hxn:xb≠w.heap.size:=by omega
  clear c_x2 f_x2 p_x2
  obtain⟨c_hc0,f_hc0,p_hc0,l_hc0,H_hc0⟩:=Vg.lay hc0;clear hc0;obtain⟨c_hxb,f_hxb,p_hxb,l_hxb,H_hxb⟩:=Vg.lay hxb;clear hxb
  have H_hgb:=h_ hgb;have H_hgm:=h_ hgm;have H_htk:=h_ htk;have H_hown:=h_ hown;have H_hgA:=h_ hgA;have H_hgwA:=h_ hgwA;clear hgb hgm htk hown hgA hgwA
  go_wp2_with (first|(go_at_call 22;(with_reducible refine(H_hkn.out _ (by have q:=H_hgwA.out;exact Vg.gro)).mono ?_);rintro e4 w4 ⟨kb,Ok,rfl,hkq,hOk,hg4⟩;have y4:=hg4.blk H_hc0.out;have z4:=hg4.blk H_hxb.out;have lx4:=Vg.lt_of z4;have hgw4:=H_hgwA.out.trans hg4;have s4:=hg4.size;clear c_hc0 f_hc0 p_hc0 c_hxb f_hxb p_hxb;obtain⟨c_y4,f_y4,p_y4,l_y4,H_y4⟩:=Vg.lay y4;clear y4;obtain⟨c_z4,f_z4,p_z4,l_z4,H_z4⟩:=Vg.lay z4;clear z4;have H_hkq:=h_ hkq;have H_hOk:=h_ hOk;have H_hg4:=h_ hg4;have H_hgw4:=h_ hgw4;have H_lx4:=h_ lx4;have H_s4:=h_ s4;clear hkq hOk hg4 hgw4 lx4 s4)|(go_at_call 23;(with_reducible refine(H_hir.out _ (by have q:=H_hgw4.out;exact Vg.gro)).mono ?_);rintro e5 w5 ⟨qb,Oq,rfl,hqz,hOq,hg5⟩;have y5:=hg5.blk ((Vg.blk_put_other hxn).trans H_y4.out);have z5:=hg5.blk (Vg.blk_put_same H_lx4.out);have lx5:=Vg.lt_of z5;have hgw5:=Vg.Grows.trans (by have q:=H_hgw4.out;exact Vg.gro:Vg.Grows w _) hg5;have s5:=hg5.size;have T5:=(Vg.Touch.put (t:=fun k=>k=xb) (Vg.Touch.refl _ w4) rfl _).trans (Vg.Touch.of_grows hg5);clear c_y4 f_y4 p_y4 c_z4 f_z4 p_z4;obtain⟨c_y5,f_y5,p_y5,l_y5,H_y5⟩:=Vg.lay y5;clear y5;obtain⟨c_z5,f_z5,p_z5,l_z5,H_z5⟩:=Vg.lay z5;clear z5;have H_hqz:=h_ hqz;have H_hOq:=h_ hOq;have H_hg5:=h_ hg5;have H_hgw5:=h_ hgw5;have H_lx5:=h_ lx5;have H_s5:=h_ s5;have H_T5:=h_ T5;clear hqz hOq hg5 hgw5 lx5 s5 T5)|(go_at_call 24;(with_reducible refine(H_hbn.out _ (by have q:=H_hgw5.out;exact Vg.gro)).mono ?_);rintro e6 w6 ⟨tb,Ob,rfl,hbs,hg6⟩;have y6:=hg6.blk ((Vg.blk_put_other hxn).trans H_y5.out);have z6:=hg6.blk (Vg.blk_put_same H_lx5.out);have lx6:=Vg.lt_of z6;have hgw6:=Vg.Grows.trans (by have q:=H_hgw5.out;exact Vg.gro:Vg.Grows w _) hg6;have s6:=hg6.size;have T6:=(Vg.Touch.put (t:=fun k=>k=xb) (Vg.Touch.refl _ w5) rfl _).trans (Vg.Touch.of_grows hg6);clear c_y5 f_y5 p_y5 c_z5 f_z5 p_z5;obtain⟨c_y6,f_y6,p_y6,l_y6,H_y6⟩:=Vg.lay y6;clear y6;obtain⟨c_z6,f_z6,p_z6,l_z6,H_z6⟩:=Vg.lay z6;clear z6;have H_hbs:=h_ hbs;have H_hg6:=h_ hg6;have H_hgw6:=h_ hgw6;have H_lx6:=h_ lx6;have H_s6:=h_ s6;have H_T6:=h_ T6;clear hbs hg6 hgw6 lx6 s6 T6))
  obtain⟨W,hW⟩:∃W,Vg.put w6 xb (.cells #[.int .i64 mn,.int .i64 mx,.int .i64 sw,.slice u.ta nt u.tc,.slice u.la nl u.lc,.slice u.ha nh u.hc,.pointer (some ⟨sb,0,none⟩),.pointer (some ⟨kb,0,none⟩),.pointer (some ⟨qb,0,none⟩),.pointer (some ⟨tb,0,none⟩),.slice (some ⟨gb,0,none⟩) nt nt,.slice (some ⟨gm,0,none⟩) nl nl,.int .u8 0,.int .i64 0,.slice none 0 0,.int .i64 0,.int .i64 0] 84)=W:=⟨_,rfl⟩
  have hYx:∀k,Y k->w.heap.size<k/\k<w2.heap.size:=fun k hk=>⟨Nat.lt_of_lt_of_le (Vg.lt_of H_x1.out) (H_hY.out k hk),H_hsx.out.own.2 k hk⟩
  have u4:=H_s4.out
  have u5:=H_s5.out
  have u6:=H_s6.out
  rw[Vg.put_size]at u5 u6
  have hOk4:∀k,Ok k->wA.heap.size<=k/\k<w4.heap.size:=fun k hk=>⟨H_hOk.out k hk,by obtain⟨xs,rv,cb,cv,p1,p2,p3,p4⟩:=H_hkq.out;exact p4 k hk⟩
  have hOq5:∀k,Oq k->w4.heap.size<=k/\k<w5.heap.size:=fun k hk=>⟨by have:=H_hOq.out k hk;rw[Vg.put_size]at this;exact this,H_hqz.out.own.2 k hk⟩
  have hOb6:∀k,Ob k->w5.heap.size<=k/\k<w6.heap.size:=fun k hk=>by have:=H_hbs.out.own k hk;rw[Vg.put_size]at this;exact this
  have T7:Vg.Touch (fun k=>k=xb) w6 W:=by rw[<-hW];exact Vg.Touch.put (t:=fun k=>k=xb) (Vg.Touch.refl _ w6) rfl _
  have T57:=H_T6.out.trans T7
  have T47:=H_T5.out.trans T57
  have TA7:=(Vg.Touch.of_grows H_hg4.out).trans T47
  have hsz7:W.heap.size=w6.heap.size:=by rw[<-hW,Vg.put_size]
  have f1:Vg.blk W xb=some (.cells #[.int .i64 mn,.int .i64 mx,.int .i64 sw,.slice u.ta nt u.tc,.slice u.la nl u.lc,.slice u.ha nh u.hc,.pointer (some ⟨sb,0,none⟩),.pointer (some ⟨kb,0,none⟩),.pointer (some ⟨qb,0,none⟩),.pointer (some ⟨tb,0,none⟩),.slice (some ⟨gb,0,none⟩) nt nt,.slice (some ⟨gm,0,none⟩) nl nl,.int .u8 0,.int .i64 0,.slice none 0 0,.int .i64 0,.int .i64 0] 84):=by rw[<-hW];exact Vg.blk_put_same H_lx6.out
  have f0:Vg.blk W w.heap.size=some (.cells #[.int .i64 mn,.int .i64 mx,.int .i64 sw,.slice v.ta nt v.tc,.slice v.la nl v.lc,.slice v.ha nh v.hc] 30):=by rw[<-hW];exact(Vg.blk_put_other hxn).trans H_y6.out
  have f2:SX W sb Y mn mx st st (fun _=>none) (fun _=>none) 64 0:=((H_hsx.out.grows H_hgA.out).touch TA7 fun k hk e=>by have:=hYx k hk;omega)
  have f3:KQ W kb (Vg.Kn.K0 C.T) (Vg.Kn.M0 C.T) Ok:=H_hkq.out.touch T47 fun k hk e=>by have:=hOk4 k hk;omega
  have f4:QZ W qb nl 0 Oq:=H_hqz.out.touch T57 fun k hk e=>by have:=hOq5 k hk;omega
  have f5:BS W tb w5.heap.size (C.H.map Vg.th0) (Vg.Qs0 C.H) Ob:=by
   have h9:=H_hbs.out
   rw[Vg.put_size]at h9
   exact h9.touch T7 fun k hk e=>by have:=hOb6 k hk;omega
  have f6:Vg.blk W gb=some ob1:=TA7.bk H_hgb.out (by omega)
  have f7:Vg.blk W gm=some ob2:=TA7.bk H_hgm.out (by omega)
  have f8:Vg.TK W u.ta u.tc C.T:=H_htk.out.touch (n:=nt) TA7 fun k hk e=>by have:=H_hown.out k hk;omega
  have hTvx:∀j,(Value.slice u.ta nt u.tc).ownBlock=some j->w2.heap.size<=j/\j<xb/\j≠gb/\j≠gm:=H_hown.out
  have gW:Vg.Grows w W:=by rw[<-hW];exact H_hgw6.out.put hxw _
  rw[hW]
  clear hW
  clear c_y6 f_y6 p_y6 c_z6 f_z6 p_z6
  have hgbT:gb<W.heap.size:=Vg.lt_of f6
  have hgbY:¬Y gb:=fun hh=>by have:=hYx gb hh;omega
  have hxbY:¬Y xb:=fun hh=>by have:=hYx xb hh;omega
  have hwY:¬Y w.heap.size:=fun hh=>by have:=hYx _ hh;omega
  have hxbg:xb≠gb:=by omega
  have hwg:w.heap.size≠gb:=by omega
  have hw2A:=H_hgA.out.size
  have hf6:Vg.blk W gb=some (.cells (Vg.bkcells ((Vg.bks C.T 0).zip (Vg.nils nt))).toArray 95):=by rw[f6,<-H_hob1.out];unfold Vg.bks;simp[H_hnt.out]
  have H_hYx:=h_ hYx;have H_hOk4:=h_ hOk4;have H_hOq5:=h_ hOq5;have H_hOb6:=h_ hOb6;have H_T7:=h_ T7;have H_T57:=h_ T57;have H_T47:=h_ T47;have H_TA7:=h_ TA7;have H_f0:=h_ f0;have H_f1:=h_ f1;have H_f2:=h_ f2;have H_f3:=h_ f3;have H_f4:=h_ f4;have H_f5:=h_ f5;have H_f6:=h_ f6;have H_f7:=h_ f7;have H_f8:=h_ f8;have H_hTvx:=h_ hTvx;have H_gW:=h_ gW;have H_hf6:=h_ hf6;have H_u4:=h_ u4;have H_u5:=h_ u5;have H_u6:=h_ u6;have H_hsz7:=h_ hsz7;have H_hw2A:=h_ hw2A;clear hYx hOk4 hOq5 hOb6 T7 T57 T47 TA7 f0 f1 f2 f3 f4 f5 f6 f7 f8 hTvx gW hf6 u4 u5 u6 hsz7 hw2A
  go_loopw [70] (fun i wr=>∃(j N fr:Nat),j<=nt/\i=.int .i64 j/\fr+N=64/\N<=j/\SX wr sb Y mn mx st st (Vg.tvx C.T (fun t=>st+t.og) j) (Vg.tvx C.T (fun t=>t.pe) j) fr N/\Vg.blk wr gb=some (.cells (Vg.bkcells ((Vg.bks C.T j).zip (Vg.nils nt))).toArray 95)/\Vg.Touch (fun k=>Y k\/k=gb) W wr) (fun i _=>nt-(intOf i).toNat)
  case atStart=>exact⟨0,0,64,by omega,rfl,rfl,by omega,by rw[Vg.tvx_zero,Vg.tvx_zero];exact H_f2.out,H_hf6.out,Vg.Touch.refl _ _⟩
  case round=>
   obtain⟨j,N,fr,hj,rfl,hfN,hNj,hsxj,hgbj,htj⟩:=hrel
   have hgj:=htj.gr H_gW.out (fun k hk=>by rcases hk with hk|hk;exact Nat.le_of_lt (H_hYx.out k hk).1;omega)
   have r1:=htj.bk H_f1.out (fun hk=>by rcases hk with hk|hk;exact hxbY hk;exact hxbg hk)
   have r0:=htj.bk H_f0.out (fun hk=>by rcases hk with hk|hk;exact hwY hk;exact hwg hk)
   have hYr:∀k,Y k->k<wr.heap.size:=hsxj.own.2
   by_cases hlt:j<nt
   ·have hjT:j<C.T.length:=by rw[H_hnt.out];exact hlt
    have hjI:(j:Int)<nt:=by omega
    have hj0:(0:Int)<=j:=by omega
    obtain⟨g,off,hva,hg,hc⟩:=(H_hR.out.1.grows hgj).2.2 j hjT
    have htk1:=(H_hR.out.1).1
    have htk2:=(H_hR.out.1).2.1
    have htc:nt<=v.tc:=by rw[<-H_hnt.out];exact htk1
    have htc2:v.tc<=9223372036854775807:=htk2
    have hfin:=H_hok.out.tk _ (List.getElem_mem hjT)
    have hoj:=H_ho.out _ (List.getElem_mem hjT)
    have hv1:=Vg.tvx_succ (f:=fun t=>st+t.og) hjT
    have hv2:=Vg.tvx_succ (f:=fun t=>t.pe) hjT
    have hbs1:=Vg.bks_succ hjT
    have hbl:=Vg.bks_len C.T j (by omega)
    have hjb:j<(Vg.bks C.T j).length:=by omega
    have hba:=Vg.bks_at hjT hjb
    have hz:j<((Vg.bks C.T j).zip (Vg.nils nt)).length:=by simp[Vg.nils];omega
    have hzg:((Vg.bks C.T j).zip (Vg.nils nt))[j]=(Vg.bk0,.slice none 0 0):=by simp[hba,Vg.nils]
    obtain⟨u0,-⟩:=Vg.bkcells_get _ j hz
    have hco:∀c,(Vg.bkcells ((Vg.bks C.T j).zip (Vg.nils nt))).set (j*7) (.int .i64 c)=Vg.bkcells (((Vg.bks C.T j).set j ⟨c,[],Vg.St.zero⟩).zip (Vg.nils nt)):=fun c=>by
     rw[Vg.bkcells_co _ j hz c,hzg]
     congr 1
     apply List.ext_getElem
     ·simp
     ·intro q h1 h2
      simp only[List.getElem_zip,List.getElem_set]
      by_cases e:j=q
      ·subst e;simp[Vg.nils,Vg.bk0]
      ·simp[e]
    rw[hzg]at u0
    obtain⟨us,hus⟩:∃us,Vg.bkcells ((Vg.bks C.T j).zip (Vg.nils nt))=us:=⟨_,rfl⟩
    rw[hus]at hgbj u0 hco
    have cb0:wr.cell? ⟨gb,j*7,none⟩=some (.int .i64 Vg.bk0.co):=by rw[Vg.cells_of hgbj];simpa using u0
    have pb0:∀v,wr.setCell ⟨gb,j*7,none⟩ v=Vg.put wr gb (.cells (us.set (j*7) v).toArray 95):=fun v=>by rw[Vg.setCell_of hgbj,List.setIfInBounds_toArray]
    have fb0:=Vg.frozen_of hgbj
    have lgb:=Vg.lt_of hgbj
    have hco1:=hco C.T[j].co
    rw[hbs1]at hco1
    obtain⟨⟨kd,pr,pe,og,dl,co,ro,lk,fo,tt⟩,htt⟩:∃t,C.T[j]=t:=⟨_,rfl⟩
    rw[htt]at hc hfin hoj hv1 hv2 hco1
    simp only at hoj hv1 hv2 hco1
    have c0:=hc 0 (by decide)
    have c1:=hc 1 (by decide)
    have c2:=hc 2 (by decide)
    have c3:=hc 3 (by decide)
    have c4:=hc 4 (by decide)
    have c5:=hc 5 (by decide)
    have c6:=hc 6 (by decide)
    have c7:=hc 7 (by decide)
    have c8:=hc 8 (by decide)
    have c9:=hc 9 (by decide)
    simp only[Vg.tkcell,Nat.add_zero]at c0 c1 c2 c3 c4 c5 c6 c7 c8 c9
    clear hc
    have hog:=hfin.og
    have hpe:=hfin.pe
    simp only at hog hpe
    have hwr:IntKind.i64.wrap (st+og)=st+og:=by rw[IntKind.wrap_i64];omega
    rw[hva]
    have hgne:¬gb=wr.heap.size:=by omega
    clear hba hzg u0 hco hbs1
    clear hz hjb hbl
    obtain⟨c_r1,f_r1,p_r1,l_r1,H_r1⟩:=Vg.lay r1;clear r1
    have H_hsxj:=h_ hsxj;have H_hgbj:=h_ hgbj;have H_htj:=h_ htj;have H_hgj:=h_ hgj;have H_r0:=h_ r0;have H_hYr:=h_ hYr;have H_hva:=h_ hva;have H_htk1:=h_ htk1;have H_htk2:=h_ htk2;have H_hfin:=h_ hfin;have H_hoj:=h_ hoj;have H_hv1:=h_ hv1;have H_hv2:=h_ hv2;have H_hus:=h_ hus;have H_hco1:=h_ hco1;have H_htt:=h_ htt;have H_hfN:=h_ hfN;have H_hNj:=h_ hNj;clear hsxj hgbj htj hgj r0 hYr hva htk1 htk2 hfin hoj hv1 hv2 hus hco1 htt hfN hNj
    go_upto_region 14 with fail
    go_cut [] (fun wz=>Vg.blk wz gb=some (.cells (us.set (j*7) (.int .i64 co)).toArray 95)/\Vg.blk wz wr.heap.size=some (.cells #[.int .u8 kd,.int .i64 pr,.int .i64 pe,.int .i64 og,.int .i64 dl,.int .i64 co,.int .i64 ro,.int .i64 lk,.int .i64 fo,.int .i64 tt] 57)/\Vg.Touch (fun k=>k=gb) wr wz)
    case first=>
     go_region
     all_goals go_wp2_with fail
     all_goals go_meet
     all_goals exact⟨(Vg.alloc_heap_past (by rw[Vg.put_size];exact lgb)).trans (Vg.blk_put_same lgb),Vg.alloc_heap_at (by rw[Vg.put_size]),(Vg.Touch.put (t:=fun k=>k=gb) (Vg.Touch.refl _ wr) rfl _).trans (Vg.Touch.of_grows (((Vg.Grows.refl _).alloc _).drew))⟩
    case rest=>
     obtain⟨wB,hwB⟩:∃wB,wB=wc:=⟨_,rfl⟩
     subst hwB
     obtain⟨hgB,hbx,htB⟩:=hcut
     have hsxB:=H_hsxj.out.touch htB (fun k hk e=>hgbY (e ▸ hk))
     have hTB:Vg.Tab wB:=htB.tabS (H_hT.out.grows H_hgj.out) (by omega)
     have htWB:=H_htj.out.trans (htB.mono (t':=fun k=>Y k\/k=gb) fun k _ hk=>.inr hk)
     clear c_r1 f_r1 p_r1
     clear cb0 pb0 fb0 c0 c1 c2 c3 c4 c5 c6 c7 c8 c9
     obtain⟨c_hbx,f_hbx,p_hbx,l_hbx,H_hbx⟩:=Vg.lay hbx;clear hbx
     by_cases hk:kd=1
     ·subst hk
      have hoj2:=H_hoj.out rfl
      have hle:¬4503599627370496<st+og:=by omega
      have hN4:=H_hfN.out
      have hN5:=H_hNj.out
      obtain⟨fr0,hfr0⟩:∃f,fr=f+1:=⟨fr-1,by omega⟩
      rw[hfr0]at hsxB hN4
      have hev:=sx_every j (st+og) pe hsxB hTB (fun h=>by have:=(H_hYx.out 0 h).1;omega) (by omega) (by omega) (WalkArith.wf_i64 (by omega)) (Vg.tvx_self _ _ _) (by omega)
      have H_hgB:=h_ hgB;have H_htB:=h_ htB;have H_hsxB:=h_ hsxB;have H_hTB:=h_ hTB;have H_htWB:=h_ htWB;have H_hev:=h_ hev;have H_hfr0:=h_ hfr0;have H_hoj2:=h_ hoj2;have H_hN4:=h_ hN4;have H_hN5:=h_ hN5;clear hgB htB hsxB hTB htWB hev hfr0 hoj2 hN4 hN5
      go_wp2_with ((go_at_call 25;(with_reducible refine(H_hev.out).mono ?_);rintro e9 w9 ⟨rfl,hsx9,ht9⟩;have H_hsx9:=h_ hsx9;have H_ht9:=h_ ht9;clear hsx9 ht9))
      go_roundw
      case rel=>
       have q4:=H_hN4.out
       have q5:=H_hN5.out
       refine⟨j+1,N+1,fr0,by omega,by go_num,by omega,by omega,?_,?_,H_htWB.out.trans (H_ht9.out.mono fun k _ hk=>.inl hk)⟩
       ·rw[H_hv1.out,H_hv2.out,if_pos trivial,if_pos trivial];exact H_hsx9.out
       ·rw[<-H_hco1.out];exact H_ht9.out.bk H_hgB.out hgbY
      case measure=>simp[intOf];omega
     ·have hkb:(kd != 1)=true:=by simpa using hk
      have H_hgB:=h_ hgB;have H_htB:=h_ htB;have H_hsxB:=h_ hsxB;have H_hTB:=h_ hTB;have H_htWB:=h_ htWB;clear hgB htB hsxB hTB htWB
      go_wp2_with fail
      go_roundw
      case rel=>
       have q4:=H_hfN.out
       have q5:=H_hNj.out
       refine⟨j+1,N,fr,by omega,by go_num,q4,by omega,?_,?_,H_htWB.out⟩
       ·rw[H_hv1.out,H_hv2.out,if_neg hk,if_neg hk];exact H_hsxB.out
       ·rw[<-H_hco1.out];exact H_hgB.out
      case measure=>simp[intOf];omega
   ·have hje:j=nt:=by omega
    subst hje
    have hfinal:NewP w wr C st (.returned (.tuple #[.pointer (some ⟨xb,0,none⟩),.int .i64 0])):=by
     obtain⟨ow,⟨l1,l6,l9⟩,l2,l3,l4,l5,l10,lall⟩:=Vg.labs (xb:=xb) (gb:=gb) (gm:=gm) (a1:=w2.heap.size) (a2:=xb) (a3:=wA.heap.size) (a4:=w4.heap.size) (a5:=w5.heap.size) (Y:=Y) (Ok:=Ok) (Oq:=Oq) (Ob:=Ob) (Tv:=fun k=>(Value.slice u.ta j u.tc).ownBlock=some k)
      (fun k hk=>(H_hYx.out k hk).2) (fun k hk=>by have:=H_hTvx.out k hk;omega) ⟨hb1,hb2⟩ ⟨hb3,hb4⟩ hne (fun h=>(H_hTvx.out gb h).2.2.1 rfl) (fun h=>(H_hTvx.out gm h).2.2.2 rfl) ⟨Nat.le_refl _,hxl⟩ H_hOk4.out H_hOq5.out (fun k hk=>(H_hOb6.out k hk).1) (by omega) H_u4.out H_u5.out
     have hntj:=H_hnt.out
     have e2:(fun k=>ow k=2)=Y:=funext fun k=>propext (l2 k)
     have e3:(fun k=>ow k=3)=Ok:=funext fun k=>propext (l3 k)
     have e4:(fun k=>ow k=4)=Oq:=funext fun k=>propext (l4 k)
     have e5:(fun k=>ow k=5)=Ob:=funext fun k=>propext (l5 k)
     have hw0s:w2.heap.size<=wr.heap.size:=by have:=H_gW.out.size;have:=htj.size;have:=Vg.lt_of r1;omega
     have hsxr:xb<wr.heap.size:=Vg.lt_of r1
     have h5s:=H_u5.out
     have h6s:=H_u6.out
     have h4s:=H_u4.out
     have h2s:=H_hw2A.out
     have h7s:=H_hsz7.out
     have htjs:=htj.size
     have hdis:∀k,k≥wA.heap.size->¬(Y k\/k=gb):=fun k hk hh=>by
      rcases hh with hh|hh
      ·have:=(H_hYx.out k hh).2;omega
      ·omega
     have g3:=H_f3.out.touch htj (fun k hk=>hdis k (H_hOk4.out k hk).1)
     have g4:=H_f4.out.touch htj (fun k hk=>hdis k (by have:=(H_hOq5.out k hk).1;omega))
     have g5:=H_f5.out.touch htj (fun k hk=>hdis k (by have:=(H_hOb6.out k hk).1;omega))
     have g7:=htj.bk H_f7.out (fun hh=>by rcases hh with hh|hh;have:=(H_hYx.out gm hh).2;omega;omega)
     have g8:=H_f8.out.touch (n:=j) htj (fun k hk hh=>by have:=H_hTvx.out k hk;rcases hh with hh|hh;have:=(H_hYx.out k hh).2;omega;omega)
     have hB0:(Vg.ex0 C.T st).B=Vg.bks C.T j:=by rw[<-hntj,Vg.bks_all];rfl
     have hBl:=Vg.ex0_Bl C.T st
     refine⟨xb,⟨mn,mx,sw,C.T,.slice u.ta j u.tc,.slice u.la nl u.lc,.slice u.ha nh u.hc,sb,kb,qb,tb,gb,gm,nl,Vg.Qs0 C.H,w5.heap.size⟩,N,fun k=>ow k≠0,rfl,⟨.slice none 0 0,Vg.nils j,C.H.map Vg.th0,0,ow,⟨?_,⟨fr,?_⟩,?_,?_,?_,?_,?_,?_,?_,?_,?_,?_,?_,?_,?_,l1,l6,l9,?_⟩,fun k hk=>hk,?_⟩,⟨rfl,H_hmne.out.symm,H_hmxe.out.symm,H_hswe.out.symm,H_hnl.out.symm,Vg.Idle.qs0 _⟩,by have:=hNj;omega,hgj⟩
     ·simp only[exC,hntj];exact r1
     ·show SX wr sb (fun k=>ow k=2) mn mx st st (Vg.tvx C.T (fun t=>st+t.og) C.T.length) (Vg.tvx C.T (fun t=>t.pe) C.T.length) fr N
      rw[e2,hntj];exact hsxj
     ·show KQ wr kb (Vg.Kn.K0 C.T) (Vg.Kn.M0 C.T) (fun k=>ow k=3)
      rw[e3];exact g3
     ·exact Vg.Kn.inv0 (Vg.Kn.check_ok H_hok.out.ck).2.1
     ·show QZ wr qb nl 0 (fun k=>ow k=4)
      rw[e4];exact g4
     ·exact hst0
     ·show BS wr tb w5.heap.size (C.H.map Vg.th0) (Vg.Qs0 C.H) (fun k=>ow k=5)
      rw[e5];exact g5
     ·exact Vg.goodT_inv H_hok.out.th
     ·show Vg.blk wr gb=some (.cells (Vg.bkcells ((Vg.ex0 C.T st).B.zip (Vg.nils j))).toArray 95)
      rw[hB0];exact hgbj
     ·exact⟨hBl,by simp[Vg.nils,hntj]⟩
     ·intro i hi hi'
      have hi2:i<C.T.length:=by rw[<-hBl];exact hi
      have hwh:(Vg.ex0 C.T st).B[i].wh=[]:=by rw[Vg.ex0_Bi hi hi2]
      have hni:(Vg.nils j)[i]=.slice none 0 0:=by simp[Vg.nils]
      rw[hwh,hni]
      exact⟨Vg.Que.nil _ _ _ _,fun k hk=>by simp[Value.ownBlock]at hk⟩
     ·exact Vg.Que.nil _ _ _ _
     ·intro k hk;simp[Value.ownBlock]at hk
     ·show Vg.blk wr gm=some (.cells (List.replicate nl (Value.bool false)).toArray 4)
      rw[H_hob2.out];exact g7
     ·exact⟨u.ta,u.tc,by simp only[hntj],g8,fun k hk=>l10 k hk⟩
     ·intro k hk
      rcases lall k hk with h|h|h|h|h|h|h|h
      ·omega
      ·have:=H_hYx.out k h;omega
      ·have:=H_hOk4.out k h;omega
      ·have:=H_hOq5.out k h;omega
      ·have:=H_hOb6.out k h;omega
      ·omega
      ·omega
      ·have:=H_hTvx.out k h;omega
     ·intro k hk
      rcases lall k hk with h|h|h|h|h|h|h|h
      ·omega
      ·have:=H_hYx.out k h;omega
      ·have:=H_hOk4.out k h;omega
      ·have:=H_hOq5.out k h;omega
      ·have:=H_hOb6.out k h;omega
      ·omega
      ·omega
      ·have:=H_hTvx.out k h;omega
    have H_hsxj:=h_ hsxj;have H_hgbj:=h_ hgbj;have H_htj:=h_ htj;have H_hgj:=h_ hgj;have H_r0:=h_ r0;have H_r1:=h_ r1;have H_hYr:=h_ hYr;have H_hfN:=h_ hfN;have H_hNj:=h_ hNj;have H_hfinal:=h_ hfinal;clear hsxj hgbj htj hgj r0 r1 hYr hfN hNj hfinal
    go_wp2_with fail
    go_ret2
    exact H_hfinal.out
end Go.Proofs.YtlkdkgefjipjmaaGreatDoor
