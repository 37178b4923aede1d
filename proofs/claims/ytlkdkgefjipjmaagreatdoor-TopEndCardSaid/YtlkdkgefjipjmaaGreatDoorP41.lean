/- Fam, FamB, End, EndW (put together). -/
import Derived.Test.YtlkdkgefjipjmaaGreatDoorP38
import Derived.Test.YtlkdkgefjipjmaaGreatDoorP40
import Derived.Test.YtlkdkgefjipjmaaGreatDoorQ0
set_option linter.all false
set_option maxHeartbeats 40000000
set_option maxRecDepth 100000
namespace Vg
open Go
def fmT(k:Nat):Tk:=⟨if k%2=1 then 2 else 1,40-k,(k+1)*1000,0,(k+1)*1000,40,2,if k=0\/k=3 then 0 else -1,if k=0\/k=3 then 5 else 0,if k=0\/k=3 then 15 else 0⟩
def fmC(n:Nat):Cf:=⟨4,1000,2,(List.range n).map fmT,[⟨2,5,2,500⟩,⟨4,3,1,300⟩],[⟨50,20,500,4⟩,⟨20,10,400,2⟩]⟩
def cf0:Cf:=⟨0,0,0,[],[],[]⟩
theorem row_new{w:World}{xs:List Value}{t:TypeId}{n:Nat}(hn:n=w.heap.size):∀j u,xs[j]? = some u->(w.alloc (.cells xs.toArray t)).cell? ((⟨n,0,none⟩:Addr).add j)=some u:=by
 subst hn
 intro j q hq
 have hc:∀o:Nat,(w.alloc (.cells xs.toArray t)).cell? ⟨w.heap.size,o,none⟩=xs.toArray[o]?:=Vg.cells_of (Vg.alloc_heap_at rfl)
 unfold Addr.add
 split
 ·rename_i h0;subst h0;rw[hc];simpa using hq
 ·rw[hc,Nat.zero_add];simpa using hq
theorem fm_good(n:Nat)(h1:1<=n)(h8:n<=8):Vt.good (fmC n):=by
 have hd:∀m,m<9->1<=m->((Vt.looks (fmC m)).all fun x=>decide (x.why=0))=true:=by decide
 intro x hx
 have:=List.all_eq_true.1 (hd n (by omega) h1) x hx
 simpa using this
theorem cf0_bad:¬Vt.good cf0:=fun h=>by
 have:=h ⟨1,0,tmC 0 0⟩ (by simp[Vt.looks,Vt.heads,cf0])
 revert this
 decide
end Vg
namespace Go.Proofs.YtlkdkgefjipjmaaGreatDoor
open Go.ChangeShapes Go.WideShapes Go.ChangeAt Go.RowKit
theorem adm_task0(w:World):Calls Tryz.prog 19 #[.int .i64 0] w fun e w'=>e=.returned (tkV (Vg.fmT 0))/\Vg.Grows w w':=by
 go_enter Tryz.func19,Tryz.ntmps19
 go_wp2
 go_returns
 exact⟨by simp[Vg.fmT],Vg.gro⟩
theorem adm_task1(w:World):Calls Tryz.prog 19 #[.int .i64 1] w fun e w'=>e=.returned (tkV (Vg.fmT 1))/\Vg.Grows w w':=by
 go_enter Tryz.func19,Tryz.ntmps19
 go_wp2
 go_returns
 exact⟨by simp[Vg.fmT],Vg.gro⟩
theorem adm_task2(w:World):Calls Tryz.prog 19 #[.int .i64 2] w fun e w'=>e=.returned (tkV (Vg.fmT 2))/\Vg.Grows w w':=by
 go_enter Tryz.func19,Tryz.ntmps19
 go_wp2
 go_returns
 exact⟨by simp[Vg.fmT],Vg.gro⟩
theorem adm_task3(w:World):Calls Tryz.prog 19 #[.int .i64 3] w fun e w'=>e=.returned (tkV (Vg.fmT 3))/\Vg.Grows w w':=by
 go_enter Tryz.func19,Tryz.ntmps19
 go_wp2
 go_returns
 exact⟨by simp[Vg.fmT],Vg.gro⟩
theorem adm_task4(w:World):Calls Tryz.prog 19 #[.int .i64 4] w fun e w'=>e=.returned (tkV (Vg.fmT 4))/\Vg.Grows w w':=by
 go_enter Tryz.func19,Tryz.ntmps19
 go_wp2
 go_returns
 exact⟨by simp[Vg.fmT],Vg.gro⟩
theorem adm_task5(w:World):Calls Tryz.prog 19 #[.int .i64 5] w fun e w'=>e=.returned (tkV (Vg.fmT 5))/\Vg.Grows w w':=by
 go_enter Tryz.func19,Tryz.ntmps19
 go_wp2
 go_returns
 exact⟨by simp[Vg.fmT],Vg.gro⟩
theorem adm_task6(w:World):Calls Tryz.prog 19 #[.int .i64 6] w fun e w'=>e=.returned (tkV (Vg.fmT 6))/\Vg.Grows w w':=by
 go_enter Tryz.func19,Tryz.ntmps19
 go_wp2
 go_returns
 exact⟨by simp[Vg.fmT],Vg.gro⟩
theorem adm_task7(w:World):Calls Tryz.prog 19 #[.int .i64 7] w fun e w'=>e=.returned (tkV (Vg.fmT 7))/\Vg.Grows w w':=by
 go_enter Tryz.func19,Tryz.ntmps19
 go_wp2
 go_returns
 exact⟨by simp[Vg.fmT],Vg.gro⟩
theorem adm_task(k:Nat)(h:k<8)(w:World):Calls Tryz.prog 19 #[.int .i64 k] w fun e w'=>e=.returned (tkV (Vg.fmT k))/\Vg.Grows w w':=by
 obtain rfl|rfl|rfl|rfl|rfl|rfl|rfl|rfl:k=0\/k=1\/k=2\/k=3\/k=4\/k=5\/k=6\/k=7:=by omega
 ·exact adm_task0 w
 ·exact adm_task1 w
 ·exact adm_task2 w
 ·exact adm_task3 w
 ·exact adm_task4 w
 ·exact adm_task5 w
 ·exact adm_task6 w
 ·exact adm_task7 w
theorem fam_no(n:Int)(w:World)(h:n<1\/8<n):Calls Tryz.prog 6 #[.int .i64 n] w fun e w'=>e=.returned (.tuple #[cfV Vg.cf0 ⟨none,0,none,0,none,0⟩,.int .i64 1])/\Vg.Grows w w':=by
 by_cases h1:n<1
 ·clear h
  go_enter Tryz.func6,Tryz.ntmps6
  go_wp2
  go_returns
  exact⟨rfl,Vg.gro⟩
 ·have h2:8<n:=by omega
  clear h
  go_enter Tryz.func6,Tryz.ntmps6
  go_wp2
  go_returns
  exact⟨rfl,Vg.gro⟩
end Go.Proofs.YtlkdkgefjipjmaaGreatDoor
namespace Vg
open Go
theorem fms_succ(k:Nat):tks ((List.range (k+1)).map fmT)=tks ((List.range k).map fmT)++tkr (fmT k):=by
 unfold tks
 rw[List.range_succ,List.map_append,List.flatMap_append];simp
end Vg
namespace Go.Proofs.YtlkdkgefjipjmaaGreatDoor
open Go.ChangeShapes Go.WideShapes Go.ChangeAt Go.RowKit
theorem LR.two{w:World}{g:Nat}{x y:Vg.Lin}(hb:Vg.blk w g=some (.cells #[.int .i64 x.pr,.int .i64 x.top,.int .i64 x.many,.int .i64 x.wd,.int .i64 y.pr,.int .i64 y.top,.int .i64 y.many,.int .i64 y.wd] 67)):Vg.LR w (some ⟨g,0,none⟩) 2 [x,y]:=by
 have hc:=Vg.cells_of hb
 refine⟨by simp,by unfold maxLen;omega,fun k hk=>?_⟩
 have hk2:k<2:=by simpa using hk
 obtain rfl|rfl:k=0\/k=1:=by omega
 ·exact⟨g,0,rfl,Vg.lt_of hb,by rw[hc];rfl,by rw[hc];rfl,by rw[hc];rfl,by rw[hc];rfl⟩
 ·exact⟨g,0,rfl,Vg.lt_of hb,by rw[hc];rfl,by rw[hc];rfl,by rw[hc];rfl,by rw[hc];rfl⟩
theorem TR.two{w:World}{g:Nat}{x y:Vg.Th}(hb:Vg.blk w g=some (.cells #[.int .i64 x.pr,.int .i64 x.bu,.int .i64 x.pe,.int .i64 x.dp,.int .i64 y.pr,.int .i64 y.bu,.int .i64 y.pe,.int .i64 y.dp] 69)):Vg.TR w (some ⟨g,0,none⟩) 2 [x,y]:=by
 have hc:=Vg.cells_of hb
 refine⟨by simp,by unfold maxLen;omega,fun k hk=>?_⟩
 have hk2:k<2:=by simpa using hk
 obtain rfl|rfl:k=0\/k=1:=by omega
 ·exact⟨g,0,rfl,Vg.lt_of hb,by rw[hc];rfl,by rw[hc];rfl,by rw[hc];rfl,by rw[hc];rfl⟩
 ·exact⟨g,0,rfl,Vg.lt_of hb,by rw[hc];rfl,by rw[hc];rfl,by rw[hc];rfl,by rw[hc];rfl⟩
abbrev linO:Obj:=.cells #[.int .i64 2,.int .i64 5,.int .i64 2,.int .i64 500,.int .i64 4,.int .i64 3,.int .i64 1,.int .i64 300] 67
abbrev thrO:Obj:=.cells #[.int .i64 50,.int .i64 20,.int .i64 500,.int .i64 4,.int .i64 20,.int .i64 10,.int .i64 400,.int .i64 2] 69
theorem fam_ok (n:Nat) (h1:1<=n) (h8:n<=8) (w:World):Calls Tryz.prog 6 #[.int .i64 n] w fun e w'=>∃v:Cv,e=.returned (.tuple #[cfV (Vg.fmC n) v,.int .i64 0])/\CR w' (Vg.fmC n) v/\Vg.Grows w w':=by
 obtain⟨i0,hI,hz0,hz1,hz2⟩:=info_parts Tryz.info_etask
 have hn0:¬(n:Int)<1:=by omega
 have hn8:¬(8:Int)<n:=by omega
 obtain⟨rb,hrb⟩:∃rb,w.heap.size=rb:=⟨_,rfl⟩
 go_enter Tryz.func6,Tryz.ntmps6
 go_wp2_with fail
 have b0:Vg.blk ((((w.alloc (.cells #[.int .i64 0,.int .i64 0,.int .i64 0,.slice none 0 0,.slice none 0 0,.slice none 0 0] 30)).alloc linO).alloc thrO).alloc (.cells #[.int .i64 4,.int .i64 1000,.int .i64 2,.slice none 0 0,.slice (some ⟨rb+1,0,none⟩) 2 2,.slice (some ⟨rb+1+1,0,none⟩) 2 2] 30)) rb=some (.cells #[.int .i64 0,.int .i64 0,.int .i64 0,.slice none 0 0,.slice none 0 0,.slice none 0 0] 30):=(Vg.alloc_heap_past (by simp only[World.size_alloc];omega)).trans ((Vg.alloc_heap_past (by simp only[World.size_alloc];omega)).trans ((Vg.alloc_heap_past (by simp only[World.size_alloc];omega)).trans (Vg.alloc_heap_at hrb.symm)))
 have b1:Vg.blk ((((w.alloc (.cells #[.int .i64 0,.int .i64 0,.int .i64 0,.slice none 0 0,.slice none 0 0,.slice none 0 0] 30)).alloc linO).alloc thrO).alloc (.cells #[.int .i64 4,.int .i64 1000,.int .i64 2,.slice none 0 0,.slice (some ⟨rb+1,0,none⟩) 2 2,.slice (some ⟨rb+1+1,0,none⟩) 2 2] 30)) (rb+1)=some linO:=(Vg.alloc_heap_past (by simp only[World.size_alloc];omega)).trans ((Vg.alloc_heap_past (by simp only[World.size_alloc];omega)).trans (Vg.alloc_heap_at (by simp only[World.size_alloc];omega)))
 have b2:Vg.blk ((((w.alloc (.cells #[.int .i64 0,.int .i64 0,.int .i64 0,.slice none 0 0,.slice none 0 0,.slice none 0 0] 30)).alloc linO).alloc thrO).alloc (.cells #[.int .i64 4,.int .i64 1000,.int .i64 2,.slice none 0 0,.slice (some ⟨rb+1,0,none⟩) 2 2,.slice (some ⟨rb+1+1,0,none⟩) 2 2] 30)) (rb+1+1)=some thrO:=(Vg.alloc_heap_past (by simp only[World.size_alloc];omega)).trans (Vg.alloc_heap_at (by simp only[World.size_alloc];omega))
 have b3:Vg.blk ((((w.alloc (.cells #[.int .i64 0,.int .i64 0,.int .i64 0,.slice none 0 0,.slice none 0 0,.slice none 0 0] 30)).alloc linO).alloc thrO).alloc (.cells #[.int .i64 4,.int .i64 1000,.int .i64 2,.slice none 0 0,.slice (some ⟨rb+1,0,none⟩) 2 2,.slice (some ⟨rb+1+1,0,none⟩) 2 2] 30)) (rb+1+1+1)=some (.cells #[.int .i64 4,.int .i64 1000,.int .i64 2,.slice none 0 0,.slice (some ⟨rb+1,0,none⟩) 2 2,.slice (some ⟨rb+1+1,0,none⟩) 2 2] 30):=Vg.alloc_heap_at (by simp only[World.size_alloc];omega)
 have hgW:Vg.Grows w ((((w.alloc (.cells #[.int .i64 0,.int .i64 0,.int .i64 0,.slice none 0 0,.slice none 0 0,.slice none 0 0] 30)).alloc linO).alloc thrO).alloc (.cells #[.int .i64 4,.int .i64 1000,.int .i64 2,.slice none 0 0,.slice (some ⟨rb+1,0,none⟩) 2 2,.slice (some ⟨rb+1+1,0,none⟩) 2 2] 30)):=Vg.gro
 obtain⟨W,hW⟩:∃W,((((w.alloc (.cells #[.int .i64 0,.int .i64 0,.int .i64 0,.slice none 0 0,.slice none 0 0,.slice none 0 0] 30)).alloc linO).alloc thrO).alloc (.cells #[.int .i64 4,.int .i64 1000,.int .i64 2,.slice none 0 0,.slice (some ⟨rb+1,0,none⟩) 2 2,.slice (some ⟨rb+1+1,0,none⟩) 2 2] 30))=W:=⟨_,rfl⟩
 rw[hW]at b0 b1 b2 b3 hgW ⊢
 clear hW
 obtain⟨lb,hlb⟩:∃lb,rb+1=lb:=⟨_,rfl⟩
 obtain⟨hb,hhb⟩:∃hb,lb+1=hb:=⟨_,rfl⟩
 obtain⟨cb,hcb⟩:∃cb,hb+1=cb:=⟨_,rfl⟩
 rw[hlb]at b1 b2 b3 ⊢
 rw[hhb]at b2 b3 ⊢
 rw[hcb]at b3 ⊢
 have o1:rb<cb:=by omega
 have o2:lb<cb:=by omega
 have o3:hb<cb:=by omega
 have o4:w.heap.size<=cb:=by omega
 have o5:rb≠cb:=by omega
 have o6:cb≠rb:=by omega
 have o7:rb<lb:=by omega
 have o8:rb<hb:=by omega
 have o9:w.heap.size<=rb:=by omega
 have H_b0:=h_ b0;have H_b1:=h_ b1;have H_b2:=h_ b2;have H_b3:=h_ b3;have H_hgW:=h_ hgW;have H_hrb:=h_ hrb;have H_hlb:=h_ hlb;have H_hhb:=h_ hhb;have H_hcb:=h_ hcb;clear b0 b1 b2 b3 hgW hrb hlb hhb hcb
 go_loopw [22] (fun i wr=>∃(k:Nat) (ta:Option Addr) (tc:Nat),k<=n/\i=.int .i64 k/\Vg.blk wr rb=some (.cells #[.int .i64 0,.int .i64 0,.int .i64 0,.slice none 0 0,.slice none 0 0,.slice none 0 0] 30)/\Vg.blk wr lb=some linO/\Vg.blk wr hb=some thrO/\Vg.blk wr cb=some (.cells #[.int .i64 4,.int .i64 1000,.int .i64 2,.slice ta k tc,.slice (some ⟨lb,0,none⟩) 2 2,.slice (some ⟨hb,0,none⟩) 2 2] 30)/\Vg.Que wr (cb+1) 57 10 (.slice ta k tc) k (Vg.tks ((List.range k).map Vg.fmT))/\Vg.Grows w wr) (fun i _=>n-(intOf i).toNat)
 case atStart=>exact⟨0,none,0,by omega,rfl,H_b0.out,H_b1.out,H_b2.out,H_b3.out,Vg.Que.nil _ _ _ _,H_hgW.out⟩
 case round=>
  obtain⟨k,ta,tc,hk,rfl,hr,hl,hh,hc,hq,hg⟩:=hrel
  by_cases hlt:k<n
  ·have hkI:(k:Int)<n:=by omega
   have hak:=fun wz=>adm_task k (by omega) wz
   have hsn:=Vg.fms_succ k
   obtain⟨⟨kd,pr,pe,og,dl,co,ro,lk,fo,tt⟩,htt⟩:∃t,Vg.fmT k=t:=⟨_,rfl⟩
   rw[htt]at hak hsn
   have hrow:Vg.tkr ⟨kd,pr,pe,og,dl,co,ro,lk,fo,tt⟩=[.int .u8 kd,.int .i64 pr,.int .i64 pe,.int .i64 og,.int .i64 dl,.int .i64 co,.int .i64 ro,.int .i64 lk,.int .i64 fo,.int .i64 tt]:=rfl
   rw[hrow]at hsn
   simp only[tkV]at hak
   have hqlt:=hq.lt
   obtain⟨c_hc,f_hc,p_hc,l_hc,H_hc⟩:=Vg.lay hc;clear hc
   have H_hr:=h_ hr;have H_hl:=h_ hl;have H_hh:=h_ hh;have H_hq:=h_ hq;have H_hg:=h_ hg;have H_hak:=h_ hak;have H_hsn:=h_ hsn;have H_htt:=h_ htt;have H_hrow:=h_ hrow;have H_hqlt:=h_ hqlt;clear hr hl hh hq hg hak hsn htt hrow hqlt
   go_upto_region 7 with fail
   refine wp_region_held_drew (S:=fun w'=>cb<w'.heap.size) (by kernel_rfl) (by go_split_ands <;> (try dsimp only) <;> go_simp) (fun hHeld=>?_)
   refine tk 0 ?_
   refine tk 2 ?_
   refine wpAnyH_ready (rs:=[1,3]) (by kernel_rfl) (by simp) ?_
   refine AllReadyH.cons (o:=_) rfl (fun K hK=>?st3) ?mo3
   case st3=>
    go_simp
    refine hK.out _ _ (by go_split_ands <;> (try dsimp only) <;> go_simp) (fun hHeld3=>?_)
    clear hK K
    refine wpAnyH_ready (rs:=[3]) (by kernel_rfl) (by simp) ?_
    refine AllReadyH.cons (o:=_) rfl (fun K hK=>?st4) ?mo4
    case st4=>
     go_simp
     ((go_at_call 19;(with_reducible refine(H_hak.out _).mono ?_);rintro e1 w1 ⟨rfl,hg1⟩;have hg1:=Vg.Grows.trans (Vg.gro:Vg.Grows wr _) hg1;have x1:=hg1.blk H_hc.out;have l1:=Vg.lt_of x1;clear c_hc f_hc p_hc;obtain⟨c_x1,f_x1,p_x1,l_x1,H_x1⟩:=Vg.lay x1;clear x1;have H_hg1:=h_ hg1;clear hg1))
     all_goals(try go_wp2_with fail)
     refine hK.out _ _ (by go_split_ands <;> (try dsimp only) <;> go_simp) (fun hHeld4=>?_)
     clear hK K
     refine wpAnyH_ready (rs:=[4]) (by kernel_rfl) (by simp) ?_
     refine AllReadyH.cons (o:=_) rfl (fun K hK=>?st5) ?mo5
     case st5=>
      go_simp
      refine hK.out _ _ (by go_split_ands <;> (try dsimp only) <;> go_simp) (fun hHeld5=>?_)
      clear hK K
      refine wpAnyH_ready (rs:=[5]) (by kernel_rfl) (by simp) ?_
      refine AllReadyH.cons (o:=_) rfl (fun K hK=>?st6) ?mo6
      case st6=>
       refine Vg.step_que1 rfl (.tmp 26) (.tmp 29) 26 rfl (cb+1) 57 i0 (.agg #[.int .u8 0,.int .i64 0,.int .i64 0,.int .i64 0,.int .i64 0,.int .i64 0,.int .i64 0,.int .i64 0,.int .i64 0,.int .i64 0]) 10 80 Tryz.underlying26 hI hz0 hz1 hz2 rfl (by decide) (.slice ta k tc) k (Vg.tks ((List.range k).map Vg.fmT)) (by simp[Act.eval,Act.put]) (H_hq.out.grows (by have q:=H_hg1.out;exact Vg.gro)) ⟨w1.heap.size,0,none⟩ 1 [.int .u8 kd,.int .i64 pr,.int .i64 pe,.int .i64 og,.int .i64 dl,.int .i64 co,.int .i64 ro,.int .i64 lk,.int .i64 fo,.int .i64 tt] (by simp[Act.eval,Act.put]) rfl (Vg.row_new (by simp)) (by simp[Value.oneCell']) (by unfold maxLen;omega) (by omega) (by decide) (by(simp only[World.size_alloc,World.size_drew]);omega) ?_;intro v2 W1 y2 m2 hq2 hs2 ho2;obtain⟨a2,c2,rfl⟩:=hq2.shape;have hT7:=(Vg.Touch.of_grows (t:=fun j=>(Value.slice ta k tc).ownBlock=some j) (by have q:=H_hg1.out;exact Vg.gro:Vg.Grows wr _)).trans ((Vg.Touch.of_same hs2).trans (Vg.Touch.of_grows ((Vg.Grows.refl _).plus y2 m2)));obtain⟨W7,hW7⟩:∃W7,Vg.plus W1 y2 m2=W7:=⟨_,rfl⟩;rw[hW7]at hq2 hT7 ⊢;clear hW7 hs2 ho2;have x7:=hT7.bk H_hc.out (fun hj=>by have:=(H_hqlt.out _ hj).1;omega);have l7:=Vg.lt_of x7;clear c_x1 f_x1 p_x1;obtain⟨c_x7,f_x7,p_x7,l_x7,H_x7⟩:=Vg.lay x7;clear x7;have H_hq2:=h_ hq2;have H_hT7:=h_ hT7;clear hq2 hT7
       refine hK.out _ _ (by go_split_ands <;> (try dsimp only) <;> go_simp) (fun hHeld6=>?_)
       clear hK K
       refine tk 6 ?_
       refine wpAnyH_ready (rs:=[7]) (by kernel_rfl) (by simp) ?_
       refine AllReadyH.cons (o:=_) rfl (fun K hK=>?st8) ?mo8
       case st8=>
        go_simp
        refine hK.out _ _ (by go_split_ands <;> (try dsimp only) <;> go_simp) (fun hHeld8=>?_)
        clear hK K
        refine wpAnyH_done (by kernel_rfl) ?_ _
        go_wp2_with fail
        go_roundw
        case rel=>
         have hown:∀j,j<cb+1->¬(Value.slice ta k tc).ownBlock=some j:=fun j hj h=>by have:=(H_hqlt.out _ h).1;omega
         refine⟨k+1,a2,c2,by omega,by go_num,(Vg.blk_put_other o6).trans (H_hT7.out.bk H_hr.out (hown _ (by omega))),(Vg.blk_put_other (by omega)).trans (H_hT7.out.bk H_hl.out (hown _ (by omega))),(Vg.blk_put_other (by omega)).trans (H_hT7.out.bk H_hh.out (hown _ (by omega))),Vg.blk_put_same l7,?_,?_⟩
         ·rw[H_hsn.out];exact H_hq2.out.kept fun j hj=>Vg.put_heap_other (by have:=(H_hq2.out.lt j hj).1;omega)
         ·exact(H_hT7.out.gr H_hg.out (fun j hj=>by have:=(H_hqlt.out j hj).1;omega)).put o4 _
        case measure=>simp[intOf];omega
       exact AllReadyH.nil
      exact AllReadyH.nil
     exact AllReadyH.nil
    exact AllReadyH.nil
   refine AllReadyH.cons (o:=_) rfl (fun K hK=>?st9) ?mo9
   case st9=>
    go_simp
    ((go_at_call 19;(with_reducible refine(H_hak.out _).mono ?_);rintro e1 w1 ⟨rfl,hg1⟩;have hg1:=Vg.Grows.trans (Vg.gro:Vg.Grows wr _) hg1;have x1:=hg1.blk H_hc.out;have l1:=Vg.lt_of x1;clear c_hc f_hc p_hc;obtain⟨c_x1,f_x1,p_x1,l_x1,H_x1⟩:=Vg.lay x1;clear x1;have H_hg1:=h_ hg1;clear hg1))
    all_goals(try go_wp2_with fail)
    refine hK.out _ _ (by go_split_ands <;> (try dsimp only) <;> go_simp) (fun hHeld9=>?_)
    clear hK K
    refine wpAnyH_ready (rs:=[1,4]) (by kernel_rfl) (by simp) ?_
    refine AllReadyH.cons (o:=_) rfl (fun K hK=>?st10) ?mo10
    case st10=>
     go_simp
     refine hK.out _ _ (by go_split_ands <;> (try dsimp only) <;> go_simp) (fun hHeld10=>?_)
     clear hK K
     refine wpAnyH_ready (rs:=[4]) (by kernel_rfl) (by simp) ?_
     refine AllReadyH.cons (o:=_) rfl (fun K hK=>?st11) ?mo11
     case st11=>
      go_simp
      refine hK.out _ _ (by go_split_ands <;> (try dsimp only) <;> go_simp) (fun hHeld11=>?_)
      clear hK K
      refine wpAnyH_ready (rs:=[5]) (by kernel_rfl) (by simp) ?_
      refine AllReadyH.cons (o:=_) rfl (fun K hK=>?st12) ?mo12
      case st12=>
       refine Vg.step_que1 rfl (.tmp 26) (.tmp 29) 26 rfl (cb+1) 57 i0 (.agg #[.int .u8 0,.int .i64 0,.int .i64 0,.int .i64 0,.int .i64 0,.int .i64 0,.int .i64 0,.int .i64 0,.int .i64 0,.int .i64 0]) 10 80 Tryz.underlying26 hI hz0 hz1 hz2 rfl (by decide) (.slice ta k tc) k (Vg.tks ((List.range k).map Vg.fmT)) (by simp[Act.eval,Act.put]) (H_hq.out.grows (by have q:=H_hg1.out;exact Vg.gro)) ⟨w1.heap.size,0,none⟩ 1 [.int .u8 kd,.int .i64 pr,.int .i64 pe,.int .i64 og,.int .i64 dl,.int .i64 co,.int .i64 ro,.int .i64 lk,.int .i64 fo,.int .i64 tt] (by simp[Act.eval,Act.put]) rfl (Vg.row_new (by simp)) (by simp[Value.oneCell']) (by unfold maxLen;omega) (by omega) (by decide) (by(simp only[World.size_alloc,World.size_drew]);omega) ?_;intro v2 W1 y2 m2 hq2 hs2 ho2;obtain⟨a2,c2,rfl⟩:=hq2.shape;have hT7:=(Vg.Touch.of_grows (t:=fun j=>(Value.slice ta k tc).ownBlock=some j) (by have q:=H_hg1.out;exact Vg.gro:Vg.Grows wr _)).trans ((Vg.Touch.of_same hs2).trans (Vg.Touch.of_grows ((Vg.Grows.refl _).plus y2 m2)));obtain⟨W7,hW7⟩:∃W7,Vg.plus W1 y2 m2=W7:=⟨_,rfl⟩;rw[hW7]at hq2 hT7 ⊢;clear hW7 hs2 ho2;have x7:=hT7.bk H_hc.out (fun hj=>by have:=(H_hqlt.out _ hj).1;omega);have l7:=Vg.lt_of x7;clear c_x1 f_x1 p_x1;obtain⟨c_x7,f_x7,p_x7,l_x7,H_x7⟩:=Vg.lay x7;clear x7;have H_hq2:=h_ hq2;have H_hT7:=h_ hT7;clear hq2 hT7
       refine hK.out _ _ (by go_split_ands <;> (try dsimp only) <;> go_simp) (fun hHeld12=>?_)
       clear hK K
       refine tk 6 ?_
       refine wpAnyH_ready (rs:=[7]) (by kernel_rfl) (by simp) ?_
       refine AllReadyH.cons (o:=_) rfl (fun K hK=>?st14) ?mo14
       case st14=>
        go_simp
        refine hK.out _ _ (by go_split_ands <;> (try dsimp only) <;> go_simp) (fun hHeld14=>?_)
        clear hK K
        refine wpAnyH_done (by kernel_rfl) ?_ _
        go_wp2_with fail
        go_roundw
        case rel=>
         have hown:∀j,j<cb+1->¬(Value.slice ta k tc).ownBlock=some j:=fun j hj h=>by have:=(H_hqlt.out _ h).1;omega
         refine⟨k+1,a2,c2,by omega,by go_num,(Vg.blk_put_other o6).trans (H_hT7.out.bk H_hr.out (hown _ (by omega))),(Vg.blk_put_other (by omega)).trans (H_hT7.out.bk H_hl.out (hown _ (by omega))),(Vg.blk_put_other (by omega)).trans (H_hT7.out.bk H_hh.out (hown _ (by omega))),Vg.blk_put_same l7,?_,?_⟩
         ·rw[H_hsn.out];exact H_hq2.out.kept fun j hj=>Vg.put_heap_other (by have:=(H_hq2.out.lt j hj).1;omega)
         ·exact(H_hT7.out.gr H_hg.out (fun j hj=>by have:=(H_hqlt.out j hj).1;omega)).put o4 _
        case measure=>simp[intOf];omega
       exact AllReadyH.nil
      exact AllReadyH.nil
     exact AllReadyH.nil
    refine AllReadyH.cons (o:=_) rfl (fun K hK=>?st15) ?mo15
    case st15=>
     go_simp
     refine hK.out _ _ (by go_split_ands <;> (try dsimp only) <;> go_simp) (fun hHeld15=>?_)
     clear hK K
     refine wpAnyH_ready (rs:=[1]) (by kernel_rfl) (by simp) ?_
     refine AllReadyH.cons (o:=_) rfl (fun K hK=>?st16) ?mo16
     case st16=>
      go_simp
      refine hK.out _ _ (by go_split_ands <;> (try dsimp only) <;> go_simp) (fun hHeld16=>?_)
      clear hK K
      refine wpAnyH_ready (rs:=[5]) (by kernel_rfl) (by simp) ?_
      refine AllReadyH.cons (o:=_) rfl (fun K hK=>?st17) ?mo17
      case st17=>
       refine Vg.step_que1 rfl (.tmp 26) (.tmp 29) 26 rfl (cb+1) 57 i0 (.agg #[.int .u8 0,.int .i64 0,.int .i64 0,.int .i64 0,.int .i64 0,.int .i64 0,.int .i64 0,.int .i64 0,.int .i64 0,.int .i64 0]) 10 80 Tryz.underlying26 hI hz0 hz1 hz2 rfl (by decide) (.slice ta k tc) k (Vg.tks ((List.range k).map Vg.fmT)) (by simp[Act.eval,Act.put]) (H_hq.out.grows (by have q:=H_hg1.out;exact Vg.gro)) ⟨w1.heap.size,0,none⟩ 1 [.int .u8 kd,.int .i64 pr,.int .i64 pe,.int .i64 og,.int .i64 dl,.int .i64 co,.int .i64 ro,.int .i64 lk,.int .i64 fo,.int .i64 tt] (by simp[Act.eval,Act.put]) rfl (Vg.row_new (by simp)) (by simp[Value.oneCell']) (by unfold maxLen;omega) (by omega) (by decide) (by(simp only[World.size_alloc,World.size_drew]);omega) ?_;intro v2 W1 y2 m2 hq2 hs2 ho2;obtain⟨a2,c2,rfl⟩:=hq2.shape;have hT7:=(Vg.Touch.of_grows (t:=fun j=>(Value.slice ta k tc).ownBlock=some j) (by have q:=H_hg1.out;exact Vg.gro:Vg.Grows wr _)).trans ((Vg.Touch.of_same hs2).trans (Vg.Touch.of_grows ((Vg.Grows.refl _).plus y2 m2)));obtain⟨W7,hW7⟩:∃W7,Vg.plus W1 y2 m2=W7:=⟨_,rfl⟩;rw[hW7]at hq2 hT7 ⊢;clear hW7 hs2 ho2;have x7:=hT7.bk H_hc.out (fun hj=>by have:=(H_hqlt.out _ hj).1;omega);have l7:=Vg.lt_of x7;clear c_x1 f_x1 p_x1;obtain⟨c_x7,f_x7,p_x7,l_x7,H_x7⟩:=Vg.lay x7;clear x7;have H_hq2:=h_ hq2;have H_hT7:=h_ hT7;clear hq2 hT7
       refine hK.out _ _ (by go_split_ands <;> (try dsimp only) <;> go_simp) (fun hHeld17=>?_)
       clear hK K
       refine tk 6 ?_
       refine wpAnyH_ready (rs:=[7]) (by kernel_rfl) (by simp) ?_
       refine AllReadyH.cons (o:=_) rfl (fun K hK=>?st19) ?mo19
       case st19=>
        go_simp
        refine hK.out _ _ (by go_split_ands <;> (try dsimp only) <;> go_simp) (fun hHeld19=>?_)
        clear hK K
        refine wpAnyH_done (by kernel_rfl) ?_ _
        go_wp2_with fail
        go_roundw
        case rel=>
         have hown:∀j,j<cb+1->¬(Value.slice ta k tc).ownBlock=some j:=fun j hj h=>by have:=(H_hqlt.out _ h).1;omega
         refine⟨k+1,a2,c2,by omega,by go_num,(Vg.blk_put_other o6).trans (H_hT7.out.bk H_hr.out (hown _ (by omega))),(Vg.blk_put_other (by omega)).trans (H_hT7.out.bk H_hl.out (hown _ (by omega))),(Vg.blk_put_other (by omega)).trans (H_hT7.out.bk H_hh.out (hown _ (by omega))),Vg.blk_put_same l7,?_,?_⟩
         ·rw[H_hsn.out];exact H_hq2.out.kept fun j hj=>Vg.put_heap_other (by have:=(H_hq2.out.lt j hj).1;omega)
         ·exact(H_hT7.out.gr H_hg.out (fun j hj=>by have:=(H_hqlt.out j hj).1;omega)).put o4 _
        case measure=>simp[intOf];omega
       exact AllReadyH.nil
      exact AllReadyH.nil
     exact AllReadyH.nil
    exact AllReadyH.nil
   exact AllReadyH.nil
  ·have hke:k=n:=by omega
   subst hke
   have hfin:∀O,CR (Vg.put wr rb O) (Vg.fmC k) ⟨ta,tc,some ⟨lb,0,none⟩,2,some ⟨hb,0,none⟩,2⟩:=fun O=>
    ⟨(hq.kept (w':=Vg.put wr rb O) fun j hj=>Vg.put_heap_other (by have:=(hq.lt j hj).1;omega)).tk (by simp[Vg.fmC]),LR.two (x:=⟨2,5,2,500⟩) (y:=⟨4,3,1,300⟩) ((Vg.blk_put_other (by omega)).trans hl),TR.two (x:=⟨50,20,500,4⟩) (y:=⟨20,10,400,2⟩) ((Vg.blk_put_other (by omega)).trans hh)⟩
   obtain⟨c_hc,f_hc,p_hc,l_hc,H_hc⟩:=Vg.lay hc;clear hc;obtain⟨c_hr,f_hr,p_hr,l_hr,H_hr⟩:=Vg.lay hr;clear hr
   have H_hl:=h_ hl;have H_hh:=h_ hh;have H_hq:=h_ hq;have H_hg:=h_ hg;have H_hfin:=h_ hfin;clear hl hh hq hg hfin
   go_wp2_with fail
   have hbz:Vg.blk (Vg.put wr rb (.cells #[.int .i64 4,.int .i64 1000,.int .i64 2,.slice ta k tc,.slice (some ⟨lb,0,none⟩) 2 2,.slice (some ⟨hb,0,none⟩) 2 2] 30)) rb=some (.cells #[.int .i64 4,.int .i64 1000,.int .i64 2,.slice ta k tc,.slice (some ⟨lb,0,none⟩) 2 2,.slice (some ⟨hb,0,none⟩) 2 2] 30):=Vg.blk_put_same (Vg.lt_of H_hr.out)
   have hcz:=Vg.cells_of hbz
   have hfz:=Vg.frozen_of hbz
   refine bodyPost_ret (by simp[results,Tryz.results6,go_sem,hcz,hfz] <;> try rfl) rfl ?_
   refine⟨⟨ta,tc,some ⟨lb,0,none⟩,2,some ⟨hb,0,none⟩,2⟩,?_,?_,?_⟩
   ·simp[cfV,Vg.fmC]
   ·exact H_hfin.out _
   ·exact H_hg.out.put (by omega) _
end Go.Proofs.YtlkdkgefjipjmaaGreatDoor
namespace Vg
open Go
theorem sm_le{f:Nat->Nat}{b:Nat}:∀n,(∀i,i<n->f i<=b)->sm f n<=n*b
 | 0,_=>by simp[sm]
 | n+1,h=>by
  simp only[sm]
  have:=sm_le n (fun i hi=>h i (by omega))
  have:=h n (by omega)
  rw[Nat.add_mul];omega
theorem rK0:∀T:List Tk,rK (T.map kt0)=0
 | []=>rfl
 | t::T=>by simp only[List.map_cons,rK,rK0 T,kt0,rJ]
theorem fm_len'(n:Nat):(fmC n).T.length=n:=by simp[fmC]
theorem fm_end {n:Nat} {A:Ad} {left:Int} (h1:1<=n) (h8:n<=8) (hT:A.T=(fmC n).T) (hmn:A.mn=(fmC n).mn) (hmx:A.mx=(fmC n).mx) (hl0:0<=left) (hl1:left<=65535) :
  AOk A 4503599627370496/\Xi A 4503599627370496 0 (ex0 (fmC n).T (4503599627370496-left))/\A.fi 4503599627370496 (ex0 (fmC n).T (4503599627370496-left)).V<=528/\(ex0 (fmC n).T (4503599627370496-left)).mu A 4503599627370496 996<=16000/\(1:Int)<=996/\996<=A.mx-A.mn:=by
 have hg:=fm_good n h1 h8
 have hok:=Vt.good_ok hg
 have hog:∀t∈(fmC n).T,t.og=0:=fun t ht=>by
  obtain⟨k,_,rfl⟩:=List.mem_map.1 ht
  rfl
 obtain⟨a1,a2,_⟩:=ex0_ok (C:=fmC n) (A:=A) (st:=4503599627370496-left) (en:=4503599627370496) hok hT hmn hmx (by omega) (by omega) (by omega) (fun t ht _=>by rw[hog t ht];omega)
 have hfi:A.fi 4503599627370496 (ex0 (fmC n).T (4503599627370496-left)).V<=528:=by
  unfold Ad.fi
  have hlen:A.T.length=n:=by rw[hT];exact fm_len' n
  have h9:=sm_le (f:=fun i:Nat=>tms 4503599627370496 (A.pe i) ((ex0 (fmC n).T (4503599627370496-left)).V i)) (b:=66) A.T.length (fun i hi=>by
   have hiT:i<(fmC n).T.length:=by rw[<-hT];exact hi
   show tms _ _ (tvx (fmC n).T (fun t=>(4503599627370496-left)+t.og) (fmC n).T.length i)<=66
   rw[tvx_at hiT hiT]
   split
   ·rw[hog _ (List.getElem_mem hiT)]
    simp only[tms]
    rw[if_pos (by omega)]
    have hp:1000<=A.pe i:=by
     unfold Ad.pe
     rw[hT,List.getElem?_eq_getElem hiT]
     obtain⟨k,_,hk⟩:=List.mem_map.1 (List.getElem_mem hiT)
     rw[<-hk]
     show(1000:Int)<=((k:Int)+1)*1000
     omega
    have h2:(4503599627370496-(4503599627370496-left+0)) / A.pe i<=65:=by
     have h3:(4503599627370496-(4503599627370496-left+0)) / A.pe i<66:=by
      apply Int.ediv_lt_of_lt_mul (by omega)
      have:66*1000<=66*A.pe i:=by omega
      omega
     omega
    omega
   ·simp[tms])
  rw[hlen]at h9 ⊢
  omega
 refine⟨a1,a2,hfi,?_,by omega,by rw[hmn,hmx];show(996:Int)<=1000-4;omega⟩
 unfold Xp.mu
 have hr:rK (ex0 (fmC n).T (4503599627370496-left)).K=0:=rK0 _
 have hl:lks 4503599627370496 996 (ex0 (fmC n).T (4503599627370496-left)).t0<=66:=by
  show((4503599627370496-(4503599627370496-left)) / 996).toNat<=66
  omega
 omega
end Vg
namespace Go.Proofs.YtlkdkgefjipjmaaGreatDoor
open Go.ChangeShapes Go.WideShapes Go.ChangeAt Go.RowKit
theorem low15(w:World):Calls Tryz.prog 17 #[.int .i64 4294967301] w fun e w'=>e=.returned (.int .u32 5)/\w=w':=by
 go_enter Tryz.func17,Tryz.ntmps17
 go_wp2
 go_ret
 exact⟨rfl,rfl⟩
theorem diff15(w:World):Calls Tryz.prog 18 #[.int .u32 3,.int .u32 5] w fun e w'=>e=.returned (.int .i64 (-2))/\w=w':=by
 go_enter Tryz.func18,Tryz.ntmps18
 go_wp2
 go_ret
 exact⟨ret_int (by kernel_rfl),rfl⟩
theorem begins15(w:World):Calls Tryz.prog 5 #[] w fun e w'=>e=.returned (.bool true)/\w=w':=by
 go_enter Tryz.func5,Tryz.ntmps5
 go_wp2_with (first|(go_at_call 17;refine(low15 _).mono ?_;rintro e w' ⟨rfl,rfl⟩)|(go_at_call 18;refine(diff15 _).mono ?_;rintro e w' ⟨rfl,rfl⟩))
 go_ret
 exact⟨rfl,rfl⟩
theorem end_out(n left more:Int)(w:World)(hn:n<1\/8<n)(hl0:0<=left)(hl1:left<=65535):
  Calls Tryz.prog 3 #[.int .i64 n,.int .u16 left,.int .i64 more] w fun e w'=>e=.returned (.bool true)/\Vg.Grows w w':=by
 have hfk:=fun wz=>fam_no n wz hn
 have hnk:=fun wz=>ex_new_no Vg.cf0 ⟨none,0,none,0,none,0⟩ (4503599627370496-left) wz ⟨⟨by simp[Vg.cf0],Nat.zero_le _,fun k hk=>by simp[Vg.cf0]at hk⟩,⟨by simp[Vg.cf0],Nat.zero_le _,fun k hk=>by simp[Vg.cf0]at hk⟩,⟨by simp[Vg.cf0],Nat.zero_le _,fun k hk=>by simp[Vg.cf0]at hk⟩⟩ (by simp[Vg.cf0]) Vg.cf0_bad
 have hV:cfV Vg.cf0 ⟨none,0,none,0,none,0⟩=.agg #[.int .i64 0,.int .i64 0,.int .i64 0,.slice none 0 0,.slice none 0 0,.slice none 0 0]:=rfl
 rw[hV]at hfk hnk
 have w1e:IntKind.i64.wrap left=left:=by rw[IntKind.wrap_i64];omega
 have w2e:IntKind.i64.wrap (4503599627370496-left)=4503599627370496-left:=by rw[IntKind.wrap_i64];omega
 have H_hfk:=h_ hfk;have H_hnk:=h_ hnk;have H_hV:=h_ hV;have H_hn:=h_ hn;clear hfk hnk hV hn
 go_enter Tryz.func3,Tryz.ntmps3
 go_wp2_with (first|(go_at_call 5;(with_reducible refine(begins15 _).mono ?_);rintro e0 w0 ⟨rfl,rfl⟩)|(go_at_call 6;(with_reducible refine(H_hfk.out _).mono ?_);rintro e1 w1 ⟨rfl,hg1⟩;obtain⟨x1,n1,rfl⟩:=hg1)|(go_at_call 7;(with_reducible refine(H_hnk.out _).mono ?_);rintro e2 w2 ⟨⟨r,rfl,hr⟩,hg2⟩;have hrb:(r != 0)=true:=(by simpa using hr);have hrb2:(r==0)=false:=(by simpa using hr);obtain⟨x2,n2,rfl⟩:=hg2;have H_hr:=h_ hr;clear hr))
 go_ret
 exact⟨by first|rfl|simp,Vg.gro⟩
theorem end_in (m:Nat) (left more:Int) (w:World) (hT:Vg.Tab w) (h1:1<=m) (h8:m<=8) (hl0:0<=left) (hl1:left<=65535) (hm0 : -9223372036854775808<=more) (hm1:more<=9223372036854775807) :
  Calls Tryz.prog 3 #[.int .i64 m,.int .u16 left,.int .i64 more] w fun e w'=>e=.returned (.bool true)/\Vg.Grows w w':=by
 have hfk:=fun wz=>fam_ok m h1 h8 wz
 have hgood:=Vg.fm_good m h1 h8
 have hnk:=fun(v:Cv) (wz:World) (hR:CR wz (Vg.fmC m) v) (hTz:Vg.Tab wz)=>ex_new (Vg.fmC m) v (4503599627370496-left) wz hR hgood hTz (by omega) (by omega) (fun t ht _=>by
  obtain⟨k,_,rfl⟩:=List.mem_map.1 ht
  show 4503599627370496-left+0<=4503599627370496
  omega)
 have hw0:0<w.heap.size:=World.block_lt_of_cell? w _ (hT 0 (by decide))
 have hlT:(Vg.fmC m).T.length=m:=Vg.fm_len' m
 have hV:∀v:Cv,cfV (Vg.fmC m) v=.agg #[.int .i64 4,.int .i64 1000,.int .i64 2,.slice v.ta m v.tc,.slice v.la 2 v.lc,.slice v.ha 2 v.hc]:=fun v=>by simp only[cfV,hlT];rfl
 simp only[hV]at hfk hnk
 have w1e:IntKind.i64.wrap left=left:=by rw[IntKind.wrap_i64];omega
 have w2e:IntKind.i64.wrap (4503599627370496-left)=4503599627370496-left:=by rw[IntKind.wrap_i64];omega
 have H_hfk:=h_ hfk;have H_hnk:=h_ hnk;have H_hV:=h_ hV;have H_hT:=h_ hT;have H_hgood:=h_ hgood;have H_hlT:=h_ hlT;clear hfk hnk hV hT hgood hlT
 go_enter Tryz.func3,Tryz.ntmps3
 go_upto_region 7 with(first|(go_at_call 5;(with_reducible refine(begins15 _).mono ?_);rintro e0 w0 ⟨rfl,rfl⟩)|(go_at_call 6;(with_reducible refine(H_hfk.out _).mono ?_);rintro e1 w1 ⟨v,rfl,hR,hg1⟩;have hTz:=H_hT.out.grows hg1;have hnk1:=fun wz (hg:Vg.Grows w1 wz)=>H_hnk.out v wz (hR.grows hg) (hTz.grows hg);have hg1s:=hg1.size;have H_hR:=h_ hR;have H_hg1:=h_ hg1;have H_hTz:=h_ hTz;have H_hnk1:=h_ hnk1;clear hR hg1 hTz hnk1)|(go_at_call 7;(with_reducible refine(H_hnk1.out _ (Vg.gro)).mono ?_);rintro e2 w2 ⟨xb,A,N,OB,rfl,hE,⟨hA1,hA2,hA3,hA4,hA5,hA6⟩,hN,hg2⟩;have hgw2:=Vg.Grows.trans (by have q:=H_hg1.out;exact Vg.gro:Vg.Grows w _) hg2;have H_hE:=h_ hE;have H_hA1:=h_ hA1;have H_hA2:=h_ hA2;have H_hA3:=h_ hA3;have H_hA4:=h_ hA4;have H_hA5:=h_ hA5;have H_hA6:=h_ hA6;have H_hN:=h_ hN;have H_hg2:=h_ hg2;have H_hgw2:=h_ hgw2;clear hE hA1 hA2 hA3 hA4 hA5 hA6 hN hg2 hgw2))
 obtain⟨st,hst⟩:∃st,(4503599627370496:Int)-left=st:=⟨_,rfl⟩
 have hEz:=H_hE.out
 obtain⟨lo,hlo⟩:∃lo,(w1.alloc (.cells #[.int .i64 4,.int .i64 1000,.int .i64 2,.slice v.ta m v.tc,.slice v.la 2 v.lc,.slice v.ha 2 v.hc] 30)).heap.size=lo:=⟨_,rfl⟩
 rw[hst,hlo]at hEz
 rw[World.size_alloc]at hlo
 have hlow:w.heap.size<=lo:=by omega
 have hlo1:1<=lo:=by omega
 have hend:=Vg.fm_end (n:=m) (A:=A) (left:=left) h1 h8 H_hA1.out H_hA2.out H_hA3.out hl0 hl1
 rw[hst]at hend
 obtain⟨hAo,hXi,hfi,hmu,hD⟩:=hend
 have ht0:(Vg.ex0 (Vg.fmC m).T st).t=st:=rfl
 have hms0:(Vg.ex0 (Vg.fmC m).T st).ms.length=0:=rfl
 obtain⟨s0,hs0⟩:∃s0,Vg.ex0 (Vg.fmC m).T st=s0:=⟨_,rfl⟩
 rw[hs0]at hEz hXi hfi hmu ht0 hms0
 have hT2:Vg.Tab w2:=H_hT.out.grows H_hgw2.out
 have hnow:∀wz,Vg.Grows w2 wz->Calls Tryz.prog 8 #[.pointer (some ⟨xb,0,none⟩)] wz fun e w'=>e=.returned (.int .i64 st)/\wz=w':=fun wz hg=>by rw[<-ht0];exact es_now_c hEz hg
 rw[hst]at w2e ⊢
 clear hs0
 have H_hEz:=h_ hEz;have H_hAo:=h_ hAo;have H_hXi:=h_ hXi;have H_hfi:=h_ hfi;have H_hmu:=h_ hmu;have H_ht0:=h_ ht0;have H_hms0:=h_ hms0;have H_hT2:=h_ hT2;have H_hnow:=h_ hnow;have H_hlo:=h_ hlo;have H_hst:=h_ hst;clear hEz hAo hXi hfi hmu ht0 hms0 hT2 hnow hlo hst
 by_cases hmore:more<=left
 ·have hmd:¬left<more:=by omega
  go_wp2_with ((go_at_call 8;(with_reducible refine(H_hnow.out _ (Vg.gro)).mono ?_);rintro e3 w3 ⟨rfl,rfl⟩))
  go_ret
  exact⟨by simp[<-H_hst.out],H_hgw2.out⟩
 ·have hml:left<more:=by omega
  have hst1:=H_hst.out
  have hadn:∀wz,Vg.Grows w2 wz->Calls Tryz.prog 9 #[.pointer (some ⟨xb,0,none⟩),.int .i64 more] wz fun e w'=>e=.returned (.tuple #[.int .i64 0,.int .i64 6])/\Vg.Grows wz w':=fun wz hg=>by
   have h9:=es_advance_no more (H_hEz.out.grows hg) (.inr (by rw[H_ht0.out];omega))
   rw[if_neg (by omega)]at h9
   exact h9
  have hmk0:∀wz,Vg.Grows w2 wz->Calls Tryz.prog 10 #[.pointer (some ⟨xb,0,none⟩)] wz fun e w'=>(∃g,e=.returned (.slice (some ⟨g,0,none⟩) 0 0))/\Vg.Grows wz w':=fun wz hg=>by
   refine(es_marks (n:=0) (H_hEz.out.grows hg) H_hms0.out (by omega) (by have:=hg.size;have:=H_hgw2.out.size;omega)).mono ?_
   rintro e w' ⟨g,rfl,_,_,hg9⟩
   exact⟨⟨g,rfl⟩,hg9⟩
  have hadv:∀wz,Vg.Grows w2 wz->Calls Tryz.prog 9 #[.pointer (some ⟨xb,0,none⟩),.int .i64 left] wz fun e w'=>∃(s':Vg.Xp) (N' k':Nat) (OB':Nat->Prop),e=.returned (.tuple #[.int .i64 left,.int .i64 0])/\ES w' xb lo A s' N' k' OB'/\s'.t=4503599627370496/\s'.ms.length<=60000/\Vg.Grows w w':=fun wz hg=>by
   have hE9:=H_hEz.out.grows hg
   refine(es_advance left (en:=4503599627370496) hE9 (H_hT2.out.grows hg) hlo1 H_hA6.out (by rw[H_hA5.out];simp[Vg.fmC]) (by rw[H_hA4.out];show(0:Int)<=2/\(2:Int)<=1099511627776;omega) hl0 (by rw[H_ht0.out];omega) (by omega) (by omega) (by have:=H_hN.out;omega) (H_hXi.out.adv H_hAo.out (by rw[H_hms0.out];omega) (by have:=H_hfi.out;omega))).mono ?_
   rintro e w' ⟨mm,F,s',rfl,hS,hmm,hH,hn⟩
   have hen:=H_hXi.out.ends H_hAo.out hD hS H_hmu.out hH
   obtain⟨q1,q2,q3,q4⟩:=H_hXi.out.steps H_hAo.out hS
   rw[H_hms0.out]at q2
   have hfi9:=H_hfi.out
   obtain⟨OB1,e1,e2,e3⟩:=hn
   have hd:s'.t-s0.t=left:=by rw[hen,H_ht0.out];omega
   rw[hd]
   exact⟨s',N+F,0+F,OB1,rfl,e1,hen,by omega,e3.gr (H_hgw2.out.trans hg) fun k hk=>Nat.le_trans hlow (hE9.own.2 k hk).1⟩
  have H_hadn:=h_ hadn;have H_hmk0:=h_ hmk0;have H_hadv:=h_ hadv;have H_hst1:=h_ hst1;clear hadn hmk0 hadv hst1
  go_upto_region 13 with(first|(go_at_call 9;(with_reducible refine(H_hadn.out _ (Vg.gro)).mono ?_);rintro e3 w3 ⟨rfl,hg3⟩;obtain⟨x3,n3,rfl⟩:=hg3)|(go_at_call 10;(with_reducible refine(H_hmk0.out _ (Vg.gro)).mono ?_);rintro e4 w4 ⟨⟨g4,rfl⟩,hg4⟩;obtain⟨x4,n4,rfl⟩:=hg4)|(go_at_call 9;(with_reducible refine(H_hadv.out _ (Vg.gro)).mono ?_);rintro e5 w5 ⟨s',N',k',OB',rfl,hE5,ht5,hm5,hg5⟩;have H_hE5:=h_ hE5;have H_ht5:=h_ ht5;have H_hm5:=h_ hm5;have H_hg5:=h_ hg5;clear hE5 ht5 hm5 hg5))
  obtain⟨q,hq⟩:∃q,s'.ms.length=q:=⟨_,rfl⟩
  have hm5:=H_hm5.out
  rw[hq]at hm5
  have hnow5:∀wz,Vg.Grows w5 wz->Calls Tryz.prog 8 #[.pointer (some ⟨xb,0,none⟩)] wz fun e w'=>e=.returned (.int .i64 4503599627370496)/\wz=w':=fun wz hg=>by
   have h9:=es_now_c H_hE5.out hg
   rw[H_ht5.out]at h9;exact h9
  have hmk5:∀wz,Vg.Grows w5 wz->Calls Tryz.prog 10 #[.pointer (some ⟨xb,0,none⟩)] wz fun e w'=>(∃g,e=.returned (.slice (some ⟨g,0,none⟩) q q))/\Vg.Grows wz w':=fun wz hg=>by
   refine(es_marks (n:=q) (H_hE5.out.grows hg) hq (by omega) (by have:=hg.size;have:=H_hg5.out.size;omega)).mono ?_
   rintro e w' ⟨g,rfl,_,_,hg9⟩
   exact⟨⟨g,rfl⟩,hg9⟩
  have had5:∀wz,Vg.Grows w5 wz->Calls Tryz.prog 9 #[.pointer (some ⟨xb,0,none⟩),.int .i64 1] wz fun e w'=>e=.returned (.tuple #[.int .i64 0,.int .i64 6])/\Vg.Grows wz w':=fun wz hg=>by
   have h9:=es_advance_no 1 (H_hE5.out.grows hg) (.inr (by rw[H_ht5.out];omega))
   rw[if_neg (by omega)]at h9
   exact h9
  have H_hq:=h_ hq;have H_hnow5:=h_ hnow5;have H_hmk5:=h_ hmk5;have H_had5:=h_ had5;clear hq hnow5 hmk5 had5
  go_wp2_with (first|(go_at_call 8;(with_reducible refine(H_hnow5.out _ (Vg.gro)).mono ?_);rintro e6 w6 ⟨rfl,rfl⟩)|(go_at_call 10;(with_reducible refine(H_hmk5.out _ (Vg.gro)).mono ?_);rintro e7 w7 ⟨⟨g7,rfl⟩,hg7⟩;obtain⟨x7,n7,rfl⟩:=hg7)|(go_at_call 9;(with_reducible refine(H_had5.out _ (Vg.gro)).mono ?_);rintro e8 w8 ⟨rfl,hg8⟩;obtain⟨x8,n8,rfl⟩:=hg8))
  go_ret
  exact⟨by first|rfl|simp,by have q:=H_hg5.out;exact Vg.gro⟩
theorem TopEnd_walk(n left more:Int)(w:World)(hT:Vg.Tab w)(hl0:0<=left)(hl1:left<=65535)(hm0 : -9223372036854775808<=more)(hm1:more<=9223372036854775807):
  Calls Tryz.prog 3 #[.int .i64 n,.int .u16 left,.int .i64 more] w fun e w'=>e=.returned (.bool true)/\Vg.Grows w w':=by
 by_cases h:n<1\/8<n
 ·exact end_out n left more w h hl0 hl1
 ·obtain⟨m,rfl⟩:∃m:Nat,n=m:=⟨n.toNat,by omega⟩
  exact end_in m left more w hT (by omega) (by omega) hl0 hl1 hm0 hm1
end Go.Proofs.YtlkdkgefjipjmaaGreatDoor
