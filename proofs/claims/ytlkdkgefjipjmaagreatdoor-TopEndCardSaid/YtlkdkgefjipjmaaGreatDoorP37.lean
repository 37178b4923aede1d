/- ItrB, VetL, ExO (put together). -/
import Derived.Test.YtlkdkgefjipjmaaGreatDoorP31
import Derived.Test.YtlkdkgefjipjmaaGreatDoorP36
import Derived.Test.YtlkdkgefjipjmaaGreatDoorP12
import Derived.Test.YtlkdkgefjipjmaaGreatDoorP20
import Derived.Test.YtlkdkgefjipjmaaGreatDoorP33
import Derived.Test.YtlkdkgefjipjmaaGreatDoorQ0
set_option linter.all false
set_option maxHeartbeats 40000000
set_option maxRecDepth 100000
namespace Vg
open Go Go.RowKit
variable {F:Fence}{n:Nat}{P:Program}
theorem wpIn_rangeGA {α:Type} {g:Operand} {ps:Array Tmp} {assign body:Code} {Q:Exit->Act->World->Prop} {a:Act} {w:World}
  (hro:F.round=none) (h1:1<=n) {gf:Nat} {bnd lb:Array Value} (hg:a.eval g=.func (.func gf) bnd lb) (hFg:F.fn gf) (eg:∀args w,(callFunc gf args).run P w=.ok (.enter gf args) w)
  {encs:α->Array Value} {t:Nat->Prop} {G S:List α->Prop} {N:Nat} {w0:World} (hseq:SeqG F (n-1) P gf bnd lb encs t G S N w0)
  (hb0:Grows w0 w) (hps:∀x,(encs x).size=ps.size) (I Ix:List α->World->Prop) (hI:OwnFrom w.heap.size I) (hIx:OwnFrom w.heap.size Ix) (hI2:∀pre A B,I pre A->Touch (fun k=>w.heap.size+2<=k) A B->I pre B) (hG:∀pre W,I pre W->G pre) (h0:I [] w) (a₁:α->World->Act) (w₁:α->World->World) (hw₁:∀x W,Grows W (w₁ x W))
  (hassign:∀(l:Nat) (x:α) (W:World) (K:Act->World->Prop),K (a₁ x W) (w₁ x W) ->
   assign.wpIn (F.inRound l) (n-1-1) P (Exit.then K (fun _ _ _=>False)) { tmps:=(ps.zip (encs x)).foldl (fun t (p,v)=>t.setIfInBounds p v) a.tmps,defers:=[] } W)
  (hbody:∀(l:Nat) (pre:List α) (x:α) (W W1:World),I pre W1->pre.length<N->W1.heap.size=(w₁ x W).heap.size->(∀b,W.heap.size<=b->W1.heap[b]? = (w₁ x W).heap[b]?)->body.wpIn (F.inRound l) (n-1-1) P (roundPost t I Ix (pre ++ [x]) W1) (a₁ x W) W1)
  (hdone:∀(D:Nat) (xs:List α) (W:World),w.heap.size<=D->S xs->I xs W->W.heap[D]? = some (.deferred (some []))->Q .normal { a with defers:={ target:=.collected D,args:=#[] } :: a.defers } W)
  (hstop:∀(D:Nat) (pre:List α) (W:World),w.heap.size<=D->Ix pre W->W.heap[D]? = some (.deferred (some []))->Code.ret.wpIn F n P Q { a with defers:={ target:=.collected D,args:=#[] } :: a.defers } W) :
  (Code.rangeFunc g ps assign body).wpIn F n P Q a w:=by
 refine wpIn_rangeFunc fun fn hfn=>?_
 rw[hro]
 -- the loop's record, and the world behind its laying: D holds what is deferred, L the loop
 let D:=w.heap.size
 let L:=w.heap.size+1
 let R:LoopState->Option Code->Obj:=fun st pe=>.loop { state:=st,pending:=pe,fn,tmps:=a.tmps,params:=ps,assign,body,defers:=w.heap.size }
 let U:=(w.alloc (.deferred (some []))).alloc (R .ready none)
 have hU:∃u,U=u:=⟨_,rfl⟩
 obtain⟨u,hu⟩:=hU
 have uL:u.heap[L]? = some (R .ready none):=by
  rw[<-hu];have:=World.alloc_heap_new (w.alloc (.deferred (some []))) (R .ready none);rwa [World.size_alloc]at this
 have uD:u.heap[D]? = some (.deferred (some [])):=by
  rw[<-hu];exact(Below.heap_alloc _ _ _ (by simp[D])).trans (World.alloc_heap_new w _)
 have uI:I [] u:=by rw[<-hu];exact hI.alloc _ (hI.alloc _ h0)
 have uB:Grows w0 u:=by rw[<-hu];exact(hb0.alloc _).alloc _
 have uS:u.heap.size=L+1:=by rw[<-hu];simp[U,L]
 have hDL:D≠L:=by simp[D,L]
 have hDL1:D+1=L:=rfl
 -- the invariant with the two facts of book-keeping
 let J:List α->World->Prop:=fun pre W=>I pre W/\W.heap[L]? = some (R .ready none)/\W.heap[D]? = some (.deferred (some []))
 let Jx:List α->World->Prop:=fun pre W=>Ix pre W/\W.heap[L]? = some (R .done (some .ret))/\W.heap[D]? = some (.deferred (some []))
 have hr2:∀{A:World} {row:Option Nat},(∀q,row=some q->u.heap.size<=q/\∃o:Obj,A.heap[q]? = some o/\o.isWalk=true)->∀q,row=some q->w.heap.size<=q/\∃o:Obj,A.heap[q]? = some o/\o.isCells=false:=fun hr q e=>by
  obtain⟨hB,o,ho,hw⟩:=hr q e
  exact⟨by omega,o,ho,Obj.not_cells_of_walk hw⟩
 have hJ:AbidesFrom u.heap.size J:=fun s A B row hs hg' hr=>
  ⟨hI s A B row hs.1 hg' (hr2 hr),(grownBy_keeps hg' (fun q e=>(hr q e).2) hs.2.1 rfl).trans hs.2.1,(grownBy_keeps hg' (fun q e=>(hr q e).2) hs.2.2 rfl).trans hs.2.2⟩
 have hJx:AbidesFrom u.heap.size Jx:=fun s A B row hs hg' hr=>
  ⟨hIx s A B row hs.1 hg' (hr2 hr),(grownBy_keeps hg' (fun q e=>(hr q e).2) hs.2.1 rfl).trans hs.2.1,(grownBy_keeps hg' (fun q e=>(hr q e).2) hs.2.2 rfl).trans hs.2.2⟩
 refine⟨L,[{ target:=.collected D,args:=#[] }],u,{ target:=.fn (.func gf) lb,args:=bnd++#[.func (.yield L) #[] #[]] },u,gf,bnd++#[.func (.yield L) #[] #[]]++lb,u,?_,?_,?_,?_,fun _=>h1,?_⟩
 ·rw[<-hu];exact run_enterLoop_outer _ _ _ _ _
 ·simp only[resolve,hg]
  simp[go_sem]
 ·intro f' hf';simp[Target.leads]at hf';subst hf';exact hFg
 ·simp[invoke,go_sem,eg]
 ·have hJ2:∀pre A B,J pre A->Touch (fun k=>u.heap.size<=k) A B->J pre B:=fun pre A B h ht=>
   ⟨hI2 pre A B h.1 (ht.mono fun k _ hk=>by omega),(ht.block L (Array.getElem?_eq_some_iff.1 h.2.1).1 (by omega)).trans h.2.1,(ht.block D (Array.getElem?_eq_some_iff.1 h.2.2).1 (by omega)).trans h.2.2⟩
  refine(hseq L J Jx u uB (by have:=hb0.size;simp[L];omega) (by omega) hJ hJx hJ2 (fun pre W h=>hG pre W h.1) ?_ ⟨uI,uL,uD⟩).mono ?_
  ·rintro pre x W ⟨hi,hl,hk⟩ hlen
   have hlt:L<W.heap.size:=(Array.getElem?_eq_some_iff.1 hl).1
   have hy:=run_yield (P:=P) (args:=encs x) hl (by exact hps x)
   have hg1:=hw₁ x W
   have hl1:(w₁ x W).heap[L]? = some (R .ready none):=(hg1.below.block L hlt).trans hl
   have hlt1:L<(w₁ x W).heap.size:=Nat.lt_of_lt_of_le hlt hg1.size
   have hkd:D<W.heap.size:=(Array.getElem?_eq_some_iff.1 hk).1
   have hk1:(w₁ x W).heap[D]? = some (.deferred (some [])):=(hg1.below.block D hkd).trans hk
   have hi1:I pre (w₁ x W):=hI2 pre _ _ hi (Touch.of_grows hg1)
   refine⟨fn,_,assign,body,hy,roundIn_of_wpIn hfn (hassign _ x W _ ⟨_,run_beginRound hl1 rfl,?_⟩)⟩
   -- the round is under way
   have hD2:w.heap.size<=L:=by simp[L]
   have bl:=World.putObj_heap_same (o:=R .busy none) hlt1
   have bd:((w₁ x W).putObj L (R .busy none)).heap[D]? = some (.deferred (some [])):=(World.putObj_heap_other hDL).trans hk1
   have bk:Round t L W ((w₁ x W).putObj L (R .busy none)):=(Touch.of_grows hg1).trans (touch_putObj _ _ _ (.inl rfl))
   refine wpIn_mono (hbody _ pre x W _ (hI.putObj _ hi1 hD2 hl1 rfl) hlen (by simp) (fun b hb=>World.putObj_heap_other (by omega))) ?_
   rintro e a3 W3 hp
   cases e with
   | normal=>
    obtain⟨hk3,hkp3,hi3⟩:=hp
    have hl3:=hk3.same _ _ bl rfl
    have hr:=run_endRound (P:=P) none hl3
    have hd3:(W3.putObj L (R .ready none)).heap[D]? = some (.deferred (some [])):=(World.putObj_heap_other hDL).trans (hk3.same _ _ bd rfl)
    exact⟨_,_,hr,.inl ⟨rfl,⟨hI.putObj _ hi3 hD2 hl3 rfl,World.putObj_heap_same (Array.getElem?_eq_some_iff.1 hl3).1,hd3⟩,(bk.trans (hkp3.mono fun k _ hh=>.inl hh)).trans (touch_putObj _ _ _ (.inl rfl))⟩⟩
   | ret=>
    obtain⟨hk3,hi3⟩:=hp
    have hl3:=hk3.same _ _ bl rfl
    have hr:=run_endRound (P:=P) (some .ret) hl3
    have hd3:(W3.putObj L (R .done (some .ret))).heap[D]? = some (.deferred (some [])):=(World.putObj_heap_other hDL).trans (hk3.same _ _ bd rfl)
    exact⟨_,_,hr,.inr ⟨rfl,hIx.putObj _ hi3 hD2 hl3 rfl,World.putObj_heap_same (Array.getElem?_eq_some_iff.1 hl3).1,hd3⟩⟩
   | exit id=>exact hp.elim
   | goto t=>exact hp.elim
   | panic ch=>exact hp.elim
   | outgrown=>exact hp.elim
  ·rintro e W2 ⟨⟨v,rfl⟩,(⟨xs,hS,hi,hl,hk⟩|⟨pre,hi,hl,hk⟩)⟩
   ·exact⟨none,_,run_endLoop (P:=P) hl (by simp),hdone _ xs _ (Nat.le_refl _) hS (hI.putObj _ hi (by simp[L]) hl rfl) ((World.putObj_heap_other hDL).trans hk)⟩
   ·exact⟨some .ret,_,run_endLoop (P:=P) hl (by simp),hstop _ pre _ (Nat.le_refl _) (hIx.putObj _ hi (by simp[L]) hl rfl) ((World.putObj_heap_other hDL).trans hk)⟩
end Vg
namespace Vg
open Go Go.RowKit
theorem blk_turned {B b:Nat} {o:Obj} {W W':World} {row:Option Nat} (hc:o.isCells=true) (h:blk W b=some o) (hg:W.grownBy W' row) (hr:∀q,row=some q->B<=q/\∃o:Obj,W.heap[q]? = some o/\o.isCells=false):blk W' b=some o:=
 blk_own (β:=Unit) (f:=fun _=>o) (fun _=>hc) () W W' row h hg hr
theorem keeps_put0{b:Nat}{W:World}{o o':Obj}(h:blk W b=some o)(hc:o.isCells=true):KeepsOthers W (put W b o'):=
 ⟨by rw[put_size];exact Nat.le_refl _,fun k u hk hu=>by
  have hne:b≠k:=fun e=>by
   subst e
   have:some o=some u:=h.symm.trans hk
   cases this
   rw[hc]at hu;cases hu
  rw[put_heap_other hne,hk]⟩
def Vt.told(C:Cf)(x:Fau):Prop:=(x.why=0/\Vt.good C)\/(x.why≠0/\¬Vt.good C)
end Vg
namespace Go.Proofs.YtlkdkgefjipjmaaGreatDoor
open Go.ChangeShapes Go.WideShapes Go.ChangeAt Go.RowKit Go.Shelf
attribute [local go_sem] Oper.semAt_some
theorem results_c2{fn:Func}{p u:Tmp}{t1 t2:TypeId}(h:fn.results=#[.cell p t1,.cell u t2])(tmps:Array Value)(P:Program)(w:World):
  (results fn tmps).run P w=((asAddr (tmps.getD p undef)).run P w).andThen fun a w₁=>((loadVar t1 a).run P w₁).andThen fun v w₂=>((asAddr (tmps.getD u undef)).run P w₂).andThen fun b w₃=>((loadVar t2 b).run P w₃).andThen fun v2 w₄=>.ok (.tuple #[v,v2]) w₄:=by
 simp only[results,h]
 simp[Sem.run_bind,Result.andThen]
abbrev faO(x:Vg.Fau):Obj:=.cells #[.int .u8 x.pt,.int .i64 x.at_,.int .i64 x.why] 112
abbrev boO(b:Bool):Obj:=.cells #[.bool b] 4
theorem results_first{tmps:Array Value}{w:World}{g1 g2:Nat}{x:Vg.Fau}{b:Bool}(hp:tmps.getD 2 undef=.pointer (some ⟨g1,0,none⟩))(hu:tmps.getD 3 undef=.pointer (some ⟨g2,0,none⟩))(c1:Vg.blk w g1=some (faO x))(c2:Vg.blk w g2=some (boO b)):
  (results Tryz.f35 tmps).run Tryz.prog w=.ok (.tuple #[faV x,.bool b]) w:=by
 rw[results_c2 rfl]
 rw[hp,hu]
 have d0:=Vg.cells_of c1 0
 have d1:=Vg.cells_of c1 1
 have d2:=Vg.cells_of c1 2
 have d3:=Vg.cells_of c2 0
 have u2:Tryz.prog.underlying 4=some .bool:=by kernel_rfl
 simp at d0 d1 d2 d3
 simp[asAddr,loadVar,go_sem,d0,d1,d2,d3,u2]
theorem first_in (C:Vg.Cf) (v:Cv) (w:World) (hR:CR w C v) (hmx : -9223372036854775808<=C.mx) :
  CallsIn Fence.wide 6 Tryz.prog 35 #[cfV C v] w fun e w'=>(∃x b,e=.returned (.tuple #[faV x,.bool b])/\Vg.Vt.told C x)/\Vg.Touch (fun _=>False) w w':=by
 have hro:Fence.wide.round=none:=rfl
 have hn1:1<=6:=by omega
 have hlk:=fun wz=>vet_looks C v wz
 obtain⟨nt,hnt⟩:∃nt,C.T.length=nt:=⟨_,rfl⟩
 obtain⟨nl,hnl⟩:∃nl,C.L.length=nl:=⟨_,rfl⟩
 obtain⟨nh,hnh⟩:∃nh,C.H.length=nh:=⟨_,rfl⟩
 obtain⟨mn,hmne⟩:∃mn,C.mn=mn:=⟨_,rfl⟩
 obtain⟨mx,hmxe⟩:∃mx,C.mx=mx:=⟨_,rfl⟩
 obtain⟨sw,hswe⟩:∃sw,C.sw=sw:=⟨_,rfl⟩
 have hCO:cfO C v=.cells #[.int .i64 mn,.int .i64 mx,.int .i64 sw,.slice v.ta nt v.tc,.slice v.la nl v.lc,.slice v.ha nh v.hc] 30:=by simp only[cfO,hmne,hmxe,hswe,hnt,hnl,hnh]
 have hCV:cfV C v=.agg #[.int .i64 mn,.int .i64 mx,.int .i64 sw,.slice v.ta nt v.tc,.slice v.la nl v.lc,.slice v.ha nh v.hc]:=by simp only[cfV,hmne,hmxe,hswe,hnt,hnl,hnh]
 rw[hCV]at hlk ⊢
 simp only[hCO]at hlk
 have H_hR:=h_ hR;have H_hlk:=h_ hlk;have H_hnt:=h_ hnt;have H_hnl:=h_ hnl;have H_hnh:=h_ hnh;have H_hmne:=h_ hmne;have H_hmxe:=h_ hmxe;have H_hswe:=h_ hswe;have H_hCO:=h_ hCO;have H_hCV:=h_ hCV;have H_hmx:=h_ hmx;clear hR hlk hnt hnl hnh hmne hmxe hswe hCO hCV hmx
 refine callsIn_of_wp_marks Tryz.func35 rfl trivial ?_ rfl
 simp only[Tryz.ntmps35,List.size_toArray,List.length_cons,List.length_nil,Nat.reduceAdd,Nat.reduceSub,Array.replicate_succ,Array.replicate_zero,List.push_toArray,List.append_toArray,List.nil_append,List.cons_append]
 gi_wp2_with ((refine⟨trivial,?_⟩;gi_at_call 72;refine(callsIn_wide.2 (H_hlk.out _)).mono ?_;rintro e w1 ⟨rfl,rfl⟩))
 obtain⟨b2,hb2⟩:∃b2,w.heap.size+1=b2:=⟨_,rfl⟩
 obtain⟨b3,hb3⟩:∃b3,w.heap.size+1+1=b3:=⟨_,rfl⟩
 obtain⟨cb,hcb⟩:∃cb,w.heap.size+1+1+1=cb:=⟨_,rfl⟩
 (try simp only[World.size_alloc])
 have gW:Vg.Grows w ((((w.alloc (.cells #[.int .i64 mn,.int .i64 mx,.int .i64 sw,.slice v.ta nt v.tc,.slice v.la nl v.lc,.slice v.ha nh v.hc] 30)).alloc (.cells #[.int .u8 0,.int .i64 0,.int .i64 0] 112)).alloc (.cells #[.bool false] 4)).alloc (.cells #[.int .i64 mn,.int .i64 mx,.int .i64 sw,.slice v.ta nt v.tc,.slice v.la nl v.lc,.slice v.ha nh v.hc] 30)):=Vg.gro
 have z2:Vg.blk ((((w.alloc (.cells #[.int .i64 mn,.int .i64 mx,.int .i64 sw,.slice v.ta nt v.tc,.slice v.la nl v.lc,.slice v.ha nh v.hc] 30)).alloc (.cells #[.int .u8 0,.int .i64 0,.int .i64 0] 112)).alloc (.cells #[.bool false] 4)).alloc (.cells #[.int .i64 mn,.int .i64 mx,.int .i64 sw,.slice v.ta nt v.tc,.slice v.la nl v.lc,.slice v.ha nh v.hc] 30)) b2=some (faO ⟨0,0,0⟩):=(Vg.alloc_heap_past (by simp only[World.size_alloc];omega)).trans ((Vg.alloc_heap_past (by simp only[World.size_alloc];omega)).trans (Vg.alloc_heap_at (by simp only[World.size_alloc];omega)))
 have z3:Vg.blk ((((w.alloc (.cells #[.int .i64 mn,.int .i64 mx,.int .i64 sw,.slice v.ta nt v.tc,.slice v.la nl v.lc,.slice v.ha nh v.hc] 30)).alloc (.cells #[.int .u8 0,.int .i64 0,.int .i64 0] 112)).alloc (.cells #[.bool false] 4)).alloc (.cells #[.int .i64 mn,.int .i64 mx,.int .i64 sw,.slice v.ta nt v.tc,.slice v.la nl v.lc,.slice v.ha nh v.hc] 30)) b3=some (boO false):=(Vg.alloc_heap_past (by simp only[World.size_alloc];omega)).trans (Vg.alloc_heap_at (by simp only[World.size_alloc];omega))
 have z4:Vg.blk ((((w.alloc (.cells #[.int .i64 mn,.int .i64 mx,.int .i64 sw,.slice v.ta nt v.tc,.slice v.la nl v.lc,.slice v.ha nh v.hc] 30)).alloc (.cells #[.int .u8 0,.int .i64 0,.int .i64 0] 112)).alloc (.cells #[.bool false] 4)).alloc (.cells #[.int .i64 mn,.int .i64 mx,.int .i64 sw,.slice v.ta nt v.tc,.slice v.la nl v.lc,.slice v.ha nh v.hc] 30)) cb=some (cfO C v):=by rw[H_hCO.out];exact Vg.alloc_heap_at (by simp only[World.size_alloc];omega)
 have zs:((((w.alloc (.cells #[.int .i64 mn,.int .i64 mx,.int .i64 sw,.slice v.ta nt v.tc,.slice v.la nl v.lc,.slice v.ha nh v.hc] 30)).alloc (.cells #[.int .u8 0,.int .i64 0,.int .i64 0] 112)).alloc (.cells #[.bool false] 4)).alloc (.cells #[.int .i64 mn,.int .i64 mx,.int .i64 sw,.slice v.ta nt v.tc,.slice v.la nl v.lc,.slice v.ha nh v.hc] 30)).heap.size=cb+1:=by simp only[World.size_alloc];omega
 obtain⟨WL,hWL⟩:∃WL,((((w.alloc (.cells #[.int .i64 mn,.int .i64 mx,.int .i64 sw,.slice v.ta nt v.tc,.slice v.la nl v.lc,.slice v.ha nh v.hc] 30)).alloc (.cells #[.int .u8 0,.int .i64 0,.int .i64 0] 112)).alloc (.cells #[.bool false] 4)).alloc (.cells #[.int .i64 mn,.int .i64 mx,.int .i64 sw,.slice v.ta nt v.tc,.slice v.la nl v.lc,.slice v.ha nh v.hc] 30))=WL:=⟨_,rfl⟩
 rw[hWL]at gW z2 z3 z4 zs ⊢
 rw[hcb,hb3,hb2]
 clear hWL
 have hne:b2≠b3:=by omega
 have hlo2:w.heap.size<=b2:=by omega
 have hlo3:w.heap.size<=b3:=by omega
 have hu3:b3<cb:=by omega
 have hu2:b2<b3:=by omega
 have H_gW:=h_ gW;have H_z2:=h_ z2;have H_z3:=h_ z3;have H_z4:=h_ z4;have H_hb2:=h_ hb2;have H_hb3:=h_ hb3;have H_hcb:=h_ hcb;clear gW z2 z3 z4 hb2 hb3 hcb
 refine Vg.wpIn_rangeGA (t:=fun _=>False) (G:=fun pre:List {x // x∈Vg.Vt.looks C}=>∀y∈pre,y.1.why=0) (α:={x // x∈Vg.Vt.looks C}) hro hn1 (gf:=129) (bnd:=#[]) (lb:=#[.pointer (some ⟨cb,0,none⟩)]) rfl trivial (enters_of Tryz.func129 (by kernel_rfl) rfl)
  (looks_seq (6-1) (by omega) C v cb WL H_z4.out (H_hR.out.grows H_gW.out) H_hmx.out (by omega)) (Vg.Grows.refl _) (fun _=>rfl)
  (fun pre W=>Vg.blk W b2=some (faO ⟨0,0,0⟩)/\(Vg.blk W b3=some (boO false)/\((∀y∈pre,y.1.why=0)/\Vg.Touch (fun _=>False) WL W)))
  (fun pre W=>∃x:{x // x∈Vg.Vt.looks C},x.1.why≠0/\Vg.blk W b2=some (faO x.1)/\Vg.blk W b3=some (boO true)/\Vg.Touch (fun j=>j=b2\/j=b3) WL W)
  (fun pre A B row hs hg hr=>⟨Vg.blk_turned rfl hs.1 hg hr,Vg.blk_turned rfl hs.2.1 hg hr,hs.2.2.1,hs.2.2.2.turnedZ hg (Nat.le_refl _) (fun r e=>(hr r e).1)⟩)
  (fun pre A B row hs hg hr=>by
   obtain⟨x,h1,h2,h3,h4⟩:=hs
   exact⟨x,h1,Vg.blk_turned rfl h2 hg hr,Vg.blk_turned rfl h3 hg hr,h4.turnedZ hg (Nat.le_refl _) (fun r e=>(hr r e).1)⟩)
  (fun pre A B hs ht=>⟨(ht.block b2 (Vg.lt_of hs.1) (by omega)).trans hs.1,(ht.block b3 (Vg.lt_of hs.2.1) (by omega)).trans hs.2.1,hs.2.2.1,hs.2.2.2.next ht fun k hk=>.inr (by omega)⟩)
  (fun pre W hs=>hs.2.2.1)
  ⟨H_z2.out,H_z3.out,by simp,Vg.Touch.refl _ _⟩ ?a1 (fun x W=>W.alloc (faO x.1)) (fun x W=>(Vg.Grows.refl W).alloc _) ?assign ?body ?done ?stop
 case assign=>
  intro l x W K hK
  simp only[faV]
  gi_wp2
  exact hK
 case body=>
  rintro l pre x W W1 ⟨h2,h3,hall,ht⟩ hlt hsz hbox
  have hbx:Vg.blk W1 W.heap.size=some (faO x.1):=(hbox _ (Nat.le_refl _)).trans (Vg.alloc_heap_at rfl)
  obtain⟨fb,hfb⟩:∃fb,W.heap.size=fb:=⟨_,rfl⟩
  have hl2:=Vg.lt_of h2
  have hl3:=Vg.lt_of h3
  have hz9:=ht.size
  rw[hfb]at hbx ⊢
  obtain⟨⟨pt,ap,wy⟩,hy⟩:∃y,x.1=y:=⟨_,rfl⟩
  rw[hy]at hbx ⊢
  simp only[faO]at hbx h2
  by_cases hw:wy=0
  ·subst hw
   obtain⟨c_hbx,f_hbx,p_hbx,l_hbx,H_hbx⟩:=Vg.lay hbx;clear hbx;obtain⟨c_h2,f_h2,p_h2,l_h2,H_h2⟩:=Vg.lay h2;clear h2;obtain⟨c_h3,f_h3,p_h3,l_h3,H_h3⟩:=Vg.lay h3;clear h3
   have H_hall:=h_ hall;have H_ht:=h_ ht;have H_hbox:=h_ hbox;have H_hy:=h_ hy;have H_hsz:=h_ hsz;have H_hfb:=h_ hfb;clear hall ht hbox hy hsz hfb
   gi_wp2
   refine⟨KeepsOthers.refl _,Vg.Touch.refl _ _,H_h2.out,H_h3.out,fun y hy9=>?_,H_ht.out⟩
   rcases List.mem_append.1 hy9 with h9|h9
   ·exact H_hall.out y h9
   ·rw[List.mem_singleton.1 h9,H_hy.out]
  ·have hwb:(wy != 0)=true:=by simpa using hw
   obtain⟨c_hbx,f_hbx,p_hbx,l_hbx,H_hbx⟩:=Vg.lay hbx;clear hbx;obtain⟨c_h2,f_h2,p_h2,l_h2,H_h2⟩:=Vg.lay h2;clear h2;obtain⟨c_h3,f_h3,p_h3,l_h3,H_h3⟩:=Vg.lay h3;clear h3
   have H_hall:=h_ hall;have H_ht:=h_ ht;have H_hbox:=h_ hbox;have H_hy:=h_ hy;have H_hsz:=h_ hsz;have H_hfb:=h_ hfb;clear hall ht hbox hy hsz hfb
   gi_wp2
   refine⟨(Vg.keeps_put0 H_h3.out rfl).trans (Vg.keeps_put0 ((Vg.blk_put_other (Ne.symm hne)).trans H_h2.out) rfl),x,(by rw[H_hy.out];exact hw),?_,?_,?_⟩
   ·rw[H_hy.out]
    exact Vg.blk_put_same (by rw[Vg.put_size];exact hl2)
   ·exact(Vg.blk_put_other hne).trans (Vg.blk_put_same hl3)
   ·exact((H_ht.out.mono (t':=fun j=>j=b2\/j=b3) fun _ _ hk=>hk.elim).put (.inr rfl) _).put (.inl rfl) _
 case done=>
  rintro D zs W hD hxs ⟨h2,h3,hall,ht⟩ hK
  have hl2:=Vg.lt_of h2
  have hl3:=Vg.lt_of h3
  have hgood:Vg.Vt.good C:=fun y hy=>by
   rw[<-hxs]at hy
   obtain⟨z,hz,rfl⟩:=List.mem_map.1 hy
   exact hall z hz
  simp only[faO]at h2
  have h2':=h2
  have h3':=h3
  obtain⟨c_h2,f_h2,p_h2,l_h2,H_h2⟩:=Vg.lay h2;clear h2;obtain⟨c_h3,f_h3,p_h3,l_h3,H_h3⟩:=Vg.lay h3;clear h3
  have H_hall:=h_ hall;have H_ht:=h_ ht;have H_hK:=h_ hK;have H_hgood:=h_ hgood;have H_h2':=h_ h2';have H_h3':=h_ h3';have H_hxs:=h_ hxs;clear hall ht hK hgood h2' h3' hxs
  gi_wp2
  have e2:Vg.blk (Vg.put (Vg.put W b3 (boO false)) b2 (faO ⟨0,0,0⟩)) b2=some (faO ⟨0,0,0⟩):=Vg.blk_put_same (by rw[Vg.put_size];exact hl2)
  have e3:Vg.blk (Vg.put (Vg.put W b3 (boO false)) b2 (faO ⟨0,0,0⟩)) b3=some (boO false):=(Vg.blk_put_other hne).trans (Vg.blk_put_same hl3)
  have eD:(Vg.put (Vg.put W b3 (boO false)) b2 (faO ⟨0,0,0⟩)).heap[D]? = some (.deferred (some [])):=by rw[Vg.put_heap_other (by omega),Vg.put_heap_other (by omega)];exact H_hK.out
  have hT:=((H_ht.out.mono (t':=fun j=>j=b2\/j=b3) fun _ _ hk=>hk.elim).put (.inr rfl) (boO false)).put (.inl rfl) (faO ⟨0,0,0⟩)
  refine⟨by simp,.inl ⟨_,_,rfl,run_takeDeferred eD,?_⟩⟩
  have k2:=(World.putObj_heap_other (o:=.deferred none) (by omega:b2≠D)).trans e2
  have k3:=(World.putObj_heap_other (o:=.deferred none) (by omega:b3≠D)).trans e3
  have hU9:=hT.turnedZ (B:=WL.heap.size) (grownBy_putObj' _ D (.deferred none)) (Nat.le_refl _) (fun r e=>by cases e;exact hD)
  exact⟨_,results_first (x:=⟨0,0,0⟩) rfl rfl k2 k3,⟨⟨0,0,0⟩,false,rfl,.inl ⟨rfl,H_hgood.out⟩⟩,(Vg.Touch.of_grows (t:=fun _=>False) H_gW.out).next hU9 (fun j hj=>.inr (by omega))⟩
 case stop=>
  rintro D pre W hD ⟨x,hx,h2,h3,ht⟩ hK
  have hbad:¬Vg.Vt.good C:=fun hg=>hx (hg x.1 x.2)
  have H_h2:=h_ h2;have H_h3:=h_ h3;have H_ht:=h_ ht;have H_hK:=h_ hK;have H_hx:=h_ hx;have H_hbad:=h_ hbad;clear h2 h3 ht hK hx hbad
  gi_wp2
  refine⟨by simp,.inl ⟨_,_,rfl,run_takeDeferred H_hK.out,?_⟩⟩
  have k2:=(World.putObj_heap_other (o:=.deferred none) (by omega:b2≠D)).trans H_h2.out
  have k3:=(World.putObj_heap_other (o:=.deferred none) (by omega:b3≠D)).trans H_h3.out
  have hU9:=H_ht.out.turnedZ (B:=WL.heap.size) (grownBy_putObj' _ D (.deferred none)) (Nat.le_refl _) (fun r e=>by cases e;exact hD)
  exact⟨_,results_first (x:=x.1) rfl rfl k2 k3,⟨x.1,true,rfl,.inr ⟨H_hx.out,H_hbad.out⟩⟩,(Vg.Touch.of_grows (t:=fun _=>False) H_gW.out).next hU9 (fun j hj=>.inr (by omega))⟩
theorem vet_first(C:Vg.Cf)(v:Cv)(w:World)(hR:CR w C v)(hmx : -9223372036854775808<=C.mx):
  Calls Tryz.prog 35 #[cfV C v] w fun e w'=>(∃x b,e=.returned (.tuple #[faV x,.bool b])/\Vg.Vt.told C x)/\Vg.Grows w w':=by
 refine((callsIn_wide (n:=6)).1 (first_in C v w hR hmx)).mono ?_
 rintro e w' ⟨h1,ht⟩
 exact⟨h1,Vg.Grows.of_below ⟨ht.os,ht.tape,ht.output,ht.size,fun k hk=>ht.block k hk fun hh=>hh⟩⟩
theorem vet_check(C:Vg.Cf)(v:Cv)(w:World)(hR:CR w C v)(hmx : -9223372036854775808<=C.mx):
  Calls Tryz.prog 12 #[cfV C v] w fun e w'=>(∃r,e=.returned (.int .i64 r)/\((r=0/\Vg.Vt.good C)\/(r≠0/\¬Vg.Vt.good C)))/\Vg.Grows w w':=by
 obtain⟨nt,hnt⟩:∃nt,C.T.length=nt:=⟨_,rfl⟩
 obtain⟨nl,hnl⟩:∃nl,C.L.length=nl:=⟨_,rfl⟩
 obtain⟨nh,hnh⟩:∃nh,C.H.length=nh:=⟨_,rfl⟩
 obtain⟨mn,hmne⟩:∃mn,C.mn=mn:=⟨_,rfl⟩
 obtain⟨mx,hmxe⟩:∃mx,C.mx=mx:=⟨_,rfl⟩
 obtain⟨sw,hswe⟩:∃sw,C.sw=sw:=⟨_,rfl⟩
 have hfk:=fun wz (hg:Vg.Grows w wz)=>vet_first C v wz (hR.grows hg) hmx
 have hCV:cfV C v=.agg #[.int .i64 mn,.int .i64 mx,.int .i64 sw,.slice v.ta nt v.tc,.slice v.la nl v.lc,.slice v.ha nh v.hc]:=by simp only[cfV,hmne,hmxe,hswe,hnt,hnl,hnh]
 rw[hCV]at hfk ⊢
 have H_hR:=h_ hR;have H_hmx:=h_ hmx;have H_hnt:=h_ hnt;have H_hnl:=h_ hnl;have H_hnh:=h_ hnh;have H_hmne:=h_ hmne;have H_hmxe:=h_ hmxe;have H_hswe:=h_ hswe;have H_hCV:=h_ hCV;have H_hfk:=h_ hfk;clear hR hmx hnt hnl hnh hmne hmxe hswe hCV hfk
 go_enter Tryz.func12,Tryz.ntmps12
 go_wp2_with ((go_at_call 35;(with_reducible refine(H_hfk.out _ (Vg.gro)).mono ?_);rintro e1 w1 ⟨⟨x,b,rfl,ht⟩,hg1⟩;obtain⟨pt,ap,wy⟩:=x;simp only[faV];have H_ht:=h_ ht;have H_hg1:=h_ hg1;clear ht hg1))
 go_ret
 exact⟨⟨wy,rfl,H_ht.out⟩,Vg.Grows.trans (Vg.gro) ((H_hg1.out).trans (Vg.gro))⟩
end Go.Proofs.YtlkdkgefjipjmaaGreatDoor
namespace Vg
open Go Go.RowKit
theorem wpList_nilC{P:Program}{w:World}{ops:Array Oper}{rest:List Oper}{o:Oper}{a:Act}{Q:Exit->Act->World->Prop}(hgd:o.guard=none)(s x:Operand)(t:TypeId)
  (ho:o.op=.call { callee:=.builtin .append,args:=#[s,x],argTypes:=#[t,t] })
  (base:Nat)(e:TypeId)(i:TypeInfo)(z:Value)(size bytes:Nat)(ht:P.underlying t=some (.slice e))(hi:P.info? e=some i)(hz:i.zero=some z)
  (hsize:i.size=size)(hby:i.bytes=bytes)(hzs:z.cells.size=size)(hsz:0<size)
  (hs:a.eval s=.slice none 0 0)(sa:Option Addr)(n c:Nat)(xs:List Value)(hx:a.eval x=.slice sa n c)(hl:xs.length=n*size)(hc:n=0 \/ ∃g off,sa=some ⟨g,off,none⟩/\∀j,(h:j<xs.length)->w.cell? ⟨g,off+j,none⟩=some xs[j])(h1:∀u∈xs,u.oneCell'=true)
  (h63:n<=maxLen)(hbytes:n*bytes<=140737488355328)(hbase:base<=w.heap.size)
  (h:∀v' W',Que W' base e size v' n xs->(∀j,v'.ownBlock=some j->w.heap.size<=j)->Grows w W'->wpList P ops Q rest (a.put o.dst v') W'):wpList P ops Q (o::rest) a w:=by
 rcases Nat.eq_zero_or_pos n with rfl|hn
 ·have hx0:xs=[]:=List.eq_nil_of_length_eq_zero (by omega)
  subst hx0
  exact wpList_nil0 hgd s x t ho e i ht hi hs sa c hx (h _ _ (Que.nil _ _ _ _) (fun j hj=>by simp[Value.ownBlock]at hj) (Grows.refl _))
 ·obtain⟨g,off,rfl,hcc⟩:=hc.resolve_left (by omega)
  refine wpList_que w hgd s x t ho base e i z size bytes ht hi hz hsize hby hzs hsz (.slice none 0 0) 0 [] hs (Que.nil _ _ _ _) ⟨g,off,none⟩ n c xs hx hl (Reads.news hcc) h1 hn (by rw[Nat.zero_add];exact h63) (by rw[Nat.zero_add];exact hbytes) hbase ?_
  intro v' W1 y k hq2 hsm ho2
  rw[Nat.zero_add,List.nil_append]at hq2
  refine h _ _ hq2 (fun j hj=>?_) ((hsm.grows (w0:=w) (Grows.refl _) (fun j hj=>by simp[Value.ownBlock]at hj)).plus y k)
  rcases ho2 with h9|h9
  ·rw[h9]at hj;simp[Value.ownBlock]at hj
  ·rw[h9]at hj;simp only[Option.some.injEq]at hj;omega
section
variable {α:Type}{f:α->List Value}{size:Nat}
theorem fm_len(hf:∀x,(f x).length=size):∀L:List α,(L.flatMap f).length=L.length*size
 | []=>by simp
 | x::L=>by rw[List.flatMap_cons,List.length_append,hf,fm_len hf L,List.length_cons,Nat.add_mul];omega
theorem fm_get(hf:∀x,(f x).length=size):∀(L:List α)(k:Nat)(h:k<L.length)(j:Nat),j<size->(L.flatMap f)[k*size+j]? = (f L[k])[j]?
 | [],k,h,_,_=>by simp at h
 | x::L,0,_,j,hj=>by
  rw[List.flatMap_cons,Nat.zero_mul,Nat.zero_add,List.getElem?_append_left (by rw[hf];exact hj)];rfl
 | x::L,k+1,h,j,hj=>by
  have:=fm_get hf L k (by simpa using h) j hj
  rw[List.flatMap_cons,List.getElem?_append_right (by rw[hf,Nat.add_mul];omega),hf,show(k+1)*size+j-size=k*size+j from by rw[Nat.add_mul];omega,this];rfl
theorem fm_cells(hf:∀x,(f x).length=size)(hs:0<size){w:World}{L:List α}{g off:Nat}(hc:∀k,(h:k<L.length)->∀j,j<size->w.cell? ⟨g,off+k*size+j,none⟩=(f L[k])[j]?):∀m,(h:m<(L.flatMap f).length)->w.cell? ⟨g,off+m,none⟩=some (L.flatMap f)[m]:=fun m h=>by
 have hl:=fm_len hf L
 have hdm:=Nat.div_add_mod m size
 have hm:=Nat.mod_lt m hs
 have hk:m/size<L.length:=by
  rw[hl]at h
  exact Nat.div_lt_of_lt_mul (by rw[Nat.mul_comm];exact h)
 have h9:=hc (m/size) hk (m%size) hm
 have h8:=fm_get hf L (m/size) hk (m%size) hm
 have e:m/size*size+m%size=m:=by rw[Nat.mul_comm];exact hdm
 rw[e]at h8
 rw[Nat.add_assoc,e]at h9
 rw[h9,<-h8,List.getElem?_eq_getElem h]
end
def tkr(t:Tk):List Value:=(List.range 10).map (tkcell t)
def tks(T:List Tk):List Value:=T.flatMap tkr
def lir(x:Lin):List Value:=[.int .i64 x.pr,.int .i64 x.top,.int .i64 x.many,.int .i64 x.wd]
def thr(x:Th):List Value:=[.int .i64 x.pr,.int .i64 x.bu,.int .i64 x.pe,.int .i64 x.dp]
theorem tkr_len(t:Tk):(tkr t).length=10:=by simp[tkr]
theorem tkr_get(t:Tk){j:Nat}(h:j<10):(tkr t)[j]? = some (tkcell t j):=by simp[tkr,h]
theorem tkr_one(t:Tk):∀u∈tkr t,u.oneCell'=true:=by
 intro u hu
 obtain⟨j,hj,rfl⟩:=List.mem_map.1 hu
 unfold tkcell
 split<;>rfl
theorem tks_one(T:List Tk):∀u∈tks T,u.oneCell'=true:=by
 intro u hu
 obtain⟨t,_,hu⟩:=List.mem_flatMap.1 hu
 exact tkr_one t u hu
theorem lir_one(L:List Lin):∀u∈L.flatMap lir,u.oneCell'=true:=by
 intro u hu
 obtain⟨t,_,hu⟩:=List.mem_flatMap.1 hu
 simp only[lir,List.mem_cons,List.not_mem_nil,or_false]at hu
 rcases hu with rfl|rfl|rfl|rfl<;>rfl
theorem thr_one(L:List Th):∀u∈L.flatMap thr,u.oneCell'=true:=by
 intro u hu
 obtain⟨t,_,hu⟩:=List.mem_flatMap.1 hu
 simp only[thr,List.mem_cons,List.not_mem_nil,or_false]at hu
 rcases hu with rfl|rfl|rfl|rfl<;>rfl
theorem TK.cells{w:World}{sa:Option Addr}{c:Nat}{T:List Tk}(h:TK w sa c T):T.length=0 \/ ∃g off,sa=some ⟨g,off,none⟩/\∀m,(hm:m<(tks T).length)->w.cell? ⟨g,off+m,none⟩=some (tks T)[m]:=by
 rcases Nat.eq_zero_or_pos T.length with h0|h0
 ·exact .inl h0
 ·right
  obtain⟨g,off,hsa,_,_⟩:=h.2.2 0 h0
  refine⟨g,off,hsa,fm_cells tkr_len (by omega) fun k hk j hj=>?_⟩
  obtain⟨g2,off2,hsa2,_,hc⟩:=h.2.2 k hk
  rw[hsa]at hsa2
  simp only[Option.some.injEq,Addr.mk.injEq]at hsa2
  obtain⟨rfl,rfl,_⟩:=hsa2
  rw[tkr_get _ hj];exact hc j hj
theorem LR.cells{w:World}{sa:Option Addr}{c:Nat}{T:List Lin}(h:LR w sa c T):T.length=0 \/ ∃g off,sa=some ⟨g,off,none⟩/\∀m,(hm:m<(T.flatMap lir).length)->w.cell? ⟨g,off+m,none⟩=some (T.flatMap lir)[m]:=by
 rcases Nat.eq_zero_or_pos T.length with h0|h0
 ·exact .inl h0
 ·right
  obtain⟨g,off,hsa,_,_⟩:=h.2.2 0 h0
  refine⟨g,off,hsa,fm_cells (size:=4) (fun x=>rfl) (by omega) fun k hk j hj=>?_⟩
  obtain⟨g2,off2,hsa2,_,c0,c1,c2,c3⟩:=h.2.2 k hk
  rw[hsa]at hsa2
  simp only[Option.some.injEq,Addr.mk.injEq]at hsa2
  obtain⟨rfl,rfl,_⟩:=hsa2
  obtain rfl|rfl|rfl|rfl:j=0\/j=1\/j=2\/j=3:=by omega
  ·exact c0
  ·exact c1
  ·exact c2
  ·exact c3
theorem TR.cells{w:World}{sa:Option Addr}{c:Nat}{T:List Th}(h:TR w sa c T):T.length=0 \/ ∃g off,sa=some ⟨g,off,none⟩/\∀m,(hm:m<(T.flatMap thr).length)->w.cell? ⟨g,off+m,none⟩=some (T.flatMap thr)[m]:=by
 rcases Nat.eq_zero_or_pos T.length with h0|h0
 ·exact .inl h0
 ·right
  obtain⟨g,off,hsa,_,_⟩:=h.2.2 0 h0
  refine⟨g,off,hsa,fm_cells (size:=4) (fun x=>rfl) (by omega) fun k hk j hj=>?_⟩
  obtain⟨g2,off2,hsa2,_,c0,c1,c2,c3⟩:=h.2.2 k hk
  rw[hsa]at hsa2
  simp only[Option.some.injEq,Addr.mk.injEq]at hsa2
  obtain⟨rfl,rfl,_⟩:=hsa2
  obtain rfl|rfl|rfl|rfl:j=0\/j=1\/j=2\/j=3:=by omega
  ·exact c0
  ·exact c1
  ·exact c2
  ·exact c3
theorem Que.tk{w:World}{B n:Nat}{e:TypeId}{a:Option Addr}{c:Nat}{T:List Tk}(h:Que w B e 10 (.slice a n c) n (tks T))(hn:T.length=n):TK w a c T:=by
 have hl:=fm_len (f:=tkr) tkr_len T
 rcases h.reads with⟨h0,h1,_⟩|⟨g,off,cap,hsv,_,hg,hcp,hcm,hcc⟩
 ·simp only[Value.slice.injEq]at h0
  obtain⟨rfl,_,rfl⟩:=h0
  exact⟨by omega,by unfold maxLen;omega,fun k hk=>by omega⟩
 ·simp only[Value.slice.injEq]at hsv
  obtain⟨rfl,_,rfl⟩:=hsv
  refine⟨by omega,hcm,fun k hk=>⟨g,off,rfl,hg,fun j hj=>?_⟩⟩
  have hm:k*10+j<(tks T).length:=by
   show k*10+j<(T.flatMap tkr).length
   rw[hl];omega
  have h9:=hcc (k*10+j) hm
  have h8:=fm_get (f:=tkr) tkr_len T k hk j hj
  have h7:(tks T)[k*10+j]? = some (tkcell T[k] j):=h8.trans (tkr_get _ hj)
  rw[List.getElem?_eq_getElem hm]at h7
  rw[Nat.add_assoc,h9,h7]
end Vg
namespace Go.Proofs.YtlkdkgefjipjmaaGreatDoor
open Go.ChangeShapes Go.WideShapes Go.ChangeAt Go.RowKit
theorem Tryz.info_etask:(Tryz.prog.info? 57).map (fun i=>(i.zero,i.size,i.bytes))=some (some (.agg #[.int .u8 0,.int .i64 0,.int .i64 0,.int .i64 0,.int .i64 0,.int .i64 0,.int .i64 0,.int .i64 0,.int .i64 0,.int .i64 0]),10,80):=by kernel_rfl
theorem Tryz.info_eline:(Tryz.prog.info? 67).map (fun i=>(i.zero,i.size,i.bytes))=some (some (.agg #[.int .i64 0,.int .i64 0,.int .i64 0,.int .i64 0]),4,32):=by kernel_rfl
theorem Tryz.info_ethread:(Tryz.prog.info? 69).map (fun i=>(i.zero,i.size,i.bytes))=some (some (.agg #[.int .i64 0,.int .i64 0,.int .i64 0,.int .i64 0]),4,32):=by kernel_rfl
theorem ex_own(C:Vg.Cf)(v:Cv)(w:World)(hR:CR w C v)(hT:C.T.length<=32)(hL:C.L.length<=64)(hH:C.H.length<=64):
  Calls Tryz.prog 21 #[cfV C v] w fun e w'=>∃u:Cv,e=.returned (cfV C u)/\Vg.TK w' u.ta u.tc C.T/\(∀j,(Value.slice u.ta C.T.length u.tc).ownBlock=some j->w.heap.size<=j/\j<w'.heap.size)/\Vg.Grows w w':=by
 obtain⟨i1,hI1,hz10,hz11,hz12⟩:=info_parts Tryz.info_etask
 obtain⟨i2,hI2,hz20,hz21,hz22⟩:=info_parts Tryz.info_eline
 obtain⟨i3,hI3,hz30,hz31,hz32⟩:=info_parts Tryz.info_ethread
 obtain⟨nt,hnt⟩:∃nt,C.T.length=nt:=⟨_,rfl⟩
 obtain⟨nl,hnl⟩:∃nl,C.L.length=nl:=⟨_,rfl⟩
 obtain⟨nh,hnh⟩:∃nh,C.H.length=nh:=⟨_,rfl⟩
 obtain⟨mn,hmne⟩:∃mn,C.mn=mn:=⟨_,rfl⟩
 obtain⟨mx,hmxe⟩:∃mx,C.mx=mx:=⟨_,rfl⟩
 obtain⟨sw,hswe⟩:∃sw,C.sw=sw:=⟨_,rfl⟩
 have hCV:∀v,cfV C v=.agg #[.int .i64 mn,.int .i64 mx,.int .i64 sw,.slice v.ta nt v.tc,.slice v.la nl v.lc,.slice v.ha nh v.hc]:=fun v=>by simp only[cfV,hmne,hmxe,hswe,hnt,hnl,hnh]
 have l1:(Vg.tks C.T).length=nt*10:=by rw[<-hnt];exact Vg.fm_len Vg.tkr_len C.T
 have l2:(C.L.flatMap Vg.lir).length=nl*4:=by rw[<-hnl];exact Vg.fm_len (f:=Vg.lir) (fun x=>rfl) C.L
 have l3:(C.H.flatMap Vg.thr).length=nh*4:=by rw[<-hnh];exact Vg.fm_len (f:=Vg.thr) (fun x=>rfl) C.H
 have k1:=fun wz (hg:Vg.Grows w wz)=>(hR.1.grows hg).cells
 have k2:=fun wz (hg:Vg.Grows w wz)=>(hR.2.1.grows hg).cells
 have k3:=fun wz (hg:Vg.Grows w wz)=>(hR.2.2.grows hg).cells
 rw[hnt]at k1 hT
 rw[hnl]at k2 hL
 rw[hnh]at k3 hH
 rw[hCV]
 have x0:Vg.blk ((w.alloc (.cells #[.int .i64 mn,.int .i64 mx,.int .i64 sw,.slice v.ta nt v.tc,.slice v.la nl v.lc,.slice v.ha nh v.hc] 30)).alloc (.cells #[.int .i64 0,.int .i64 0,.int .i64 0,.slice none 0 0,.slice none 0 0,.slice none 0 0] 30)) w.heap.size=some (.cells #[.int .i64 mn,.int .i64 mx,.int .i64 sw,.slice v.ta nt v.tc,.slice v.la nl v.lc,.slice v.ha nh v.hc] 30):=(Vg.alloc_heap_past (by simp)).trans (Vg.alloc_heap_at rfl)
 have y0:Vg.blk ((w.alloc (.cells #[.int .i64 mn,.int .i64 mx,.int .i64 sw,.slice v.ta nt v.tc,.slice v.la nl v.lc,.slice v.ha nh v.hc] 30)).alloc (.cells #[.int .i64 0,.int .i64 0,.int .i64 0,.slice none 0 0,.slice none 0 0,.slice none 0 0] 30)) (w.heap.size+1)=some (.cells #[.int .i64 0,.int .i64 0,.int .i64 0,.slice none 0 0,.slice none 0 0,.slice none 0 0] 30):=Vg.alloc_heap_at (by simp)
 have H_hR:=h_ hR;have H_hCV:=h_ hCV;have H_l1:=h_ l1;have H_l2:=h_ l2;have H_l3:=h_ l3;have H_k1:=h_ k1;have H_k2:=h_ k2;have H_k3:=h_ k3;have H_hnt:=h_ hnt;have H_hnl:=h_ hnl;have H_hnh:=h_ hnh;have H_hmne:=h_ hmne;have H_hmxe:=h_ hmxe;have H_hswe:=h_ hswe;have H_x0:=h_ x0;have H_y0:=h_ y0;clear hR hCV l1 l2 l3 k1 k2 k3 hnt hnl hnh hmne hmxe hswe x0 y0
 go_enter Tryz.func21,Tryz.ntmps21
 go_wp2_with (first|(at_builtin;(refine Vg.wpList_nilC rfl (.const (.slice none 0 0)) (.tmp 4) 26 rfl 1 57 i1 (.agg #[.int .u8 0,.int .i64 0,.int .i64 0,.int .i64 0,.int .i64 0,.int .i64 0,.int .i64 0,.int .i64 0,.int .i64 0,.int .i64 0]) 10 80 Tryz.underlying26 hI1 hz10 hz11 hz12 rfl (by decide) rfl v.ta nt v.tc (Vg.tks C.T) rfl H_l1.out (H_k1.out _ (Vg.gro)) (Vg.tks_one _) (by unfold maxLen;omega) (by omega) (by(try simp only[World.size_alloc,Vg.put_size]);omega) ?_);intro v1 w1 q1 o1 g1;obtain⟨a1,c1,rfl⟩:=q1.shape;have x1:=g1.blk H_x0.out;have y1:=g1.blk H_y0.out;have lx1:=Vg.lt_of x1;have s1:=g1.size;have r1:=g1;have g1:=Vg.Grows.trans (Vg.gro:Vg.Grows w _) g1;(try simp only[World.size_alloc,Vg.put_size]at s1 o1);obtain⟨c_x1,f_x1,p_x1,l_x1,H_x1⟩:=Vg.lay x1;clear x1;obtain⟨c_y1,f_y1,p_y1,l_y1,H_y1⟩:=Vg.lay y1;clear y1;have H_q1:=h_ q1;have H_o1:=h_ o1;have H_g1:=h_ g1;have H_r1:=h_ r1;have H_lx1:=h_ lx1;have H_s1:=h_ s1;clear q1 o1 g1 r1 lx1 s1)|(at_builtin;(refine Vg.wpList_nilC rfl (.const (.slice none 0 0)) (.tmp 8) 27 rfl 1 67 i2 (.agg #[.int .i64 0,.int .i64 0,.int .i64 0,.int .i64 0]) 4 32 Tryz.underlying27 hI2 hz20 hz21 hz22 rfl (by decide) rfl v.la nl v.lc (C.L.flatMap Vg.lir) rfl H_l2.out (H_k2.out _ (by(have q:=H_g1.out;exact Vg.gro))) (Vg.lir_one _) (by unfold maxLen;omega) (by omega) (by(try simp only[World.size_alloc,Vg.put_size]);omega) ?_);intro v2 w2 q2 o2 g2;obtain⟨a2,c2,rfl⟩:=q2.shape;have x2:=g2.blk (Vg.blk_put_same H_lx1.out);have y2:=g2.blk ((Vg.blk_put_other (by omega)).trans H_y1.out);have lx2:=Vg.lt_of x2;have s2:=g2.size;have r2:=g2;have g2:=Vg.Grows.trans (by(have q:=H_g1.out;exact Vg.gro):Vg.Grows w _) g2;(try simp only[World.size_alloc,Vg.put_size]at s2 o2);clear c_x1 f_x1 p_x1 c_y1 f_y1 p_y1;obtain⟨c_x2,f_x2,p_x2,l_x2,H_x2⟩:=Vg.lay x2;clear x2;obtain⟨c_y2,f_y2,p_y2,l_y2,H_y2⟩:=Vg.lay y2;clear y2;have H_q2:=h_ q2;have H_o2:=h_ o2;have H_g2:=h_ g2;have H_r2:=h_ r2;have H_lx2:=h_ lx2;have H_s2:=h_ s2;clear q2 o2 g2 r2 lx2 s2)|(at_builtin;(refine Vg.wpList_nilC rfl (.const (.slice none 0 0)) (.tmp 12) 28 rfl 1 69 i3 (.agg #[.int .i64 0,.int .i64 0,.int .i64 0,.int .i64 0]) 4 32 Tryz.underlying28 hI3 hz30 hz31 hz32 rfl (by decide) rfl v.ha nh v.hc (C.H.flatMap Vg.thr) rfl H_l3.out (H_k3.out _ (by(have q:=H_g2.out;exact Vg.gro))) (Vg.thr_one _) (by unfold maxLen;omega) (by omega) (by(try simp only[World.size_alloc,Vg.put_size]);omega) ?_);intro v3 w3 q3 o3 g3;obtain⟨a3,c3,rfl⟩:=q3.shape;have x3:=g3.blk (Vg.blk_put_same H_lx2.out);have y3:=g3.blk ((Vg.blk_put_other (by omega)).trans H_y2.out);have lx3:=Vg.lt_of x3;have s3:=g3.size;have r3:=g3;have g3:=Vg.Grows.trans (by(have q:=H_g2.out;exact Vg.gro):Vg.Grows w _) g3;(try simp only[World.size_alloc,Vg.put_size]at s3 o3);clear c_x2 f_x2 p_x2 c_y2 f_y2 p_y2;obtain⟨c_x3,f_x3,p_x3,l_x3,H_x3⟩:=Vg.lay x3;clear x3;obtain⟨c_y3,f_y3,p_y3,l_y3,H_y3⟩:=Vg.lay y3;clear y3;have H_q3:=h_ q3;have H_o3:=h_ o3;have H_g3:=h_ g3;have H_r3:=h_ r3;have H_lx3:=h_ lx3;have H_s3:=h_ s3;clear q3 o3 g3 r3 lx3 s3))
 have hbz:Vg.blk (Vg.put (Vg.put w3 (w.heap.size+1) (.cells #[.int .i64 mn,.int .i64 mx,.int .i64 sw,.slice a1 nt c1,.slice a2 nl c2,.slice a3 nh c3] 30)) w.heap.size (.cells #[.int .i64 mn,.int .i64 mx,.int .i64 sw,.slice a1 nt c1,.slice a2 nl c2,.slice a3 nh c3] 30)) (w.heap.size+1)=some (.cells #[.int .i64 mn,.int .i64 mx,.int .i64 sw,.slice a1 nt c1,.slice a2 nl c2,.slice a3 nh c3] 30):=(Vg.blk_put_other (by omega)).trans (Vg.blk_put_same (Vg.lt_of H_y3.out))
 have hcz:=Vg.cells_of hbz
 have hfz:=Vg.frozen_of hbz
 refine bodyPost_ret (by simp[results,Tryz.results21,go_sem,hcz,hfz]<;>try rfl) rfl ?_
 have hb1:∀j,(Value.slice a1 nt c1).ownBlock=some j->w.heap.size+2<=j/\j<w1.heap.size:=fun j hj=>⟨by have:=H_o1.out j hj;omega,(H_q1.out.lt j hj).2⟩
 have t1:=H_q1.out.kept (w':=Vg.put w1 w.heap.size (.cells #[.int .i64 mn,.int .i64 mx,.int .i64 sw,.slice a1 nt c1,.slice v.la nl v.lc,.slice v.ha nh v.hc] 30)) fun j hj=>Vg.put_heap_other (by have:=hb1 j hj;omega)
 have t2:=(t1.grows H_r2.out).kept (w':=Vg.put w2 w.heap.size (.cells #[.int .i64 mn,.int .i64 mx,.int .i64 sw,.slice a1 nt c1,.slice a2 nl c2,.slice v.ha nh v.hc] 30)) fun j hj=>Vg.put_heap_other (by have:=hb1 j hj;omega)
 have t3:=(t2.grows H_r3.out).kept (w':=Vg.put w3 (w.heap.size+1) (.cells #[.int .i64 mn,.int .i64 mx,.int .i64 sw,.slice a1 nt c1,.slice a2 nl c2,.slice a3 nh c3] 30)) fun j hj=>Vg.put_heap_other (by have:=hb1 j hj;omega)
 have t4:=t3.kept (w':=Vg.put (Vg.put w3 (w.heap.size+1) (.cells #[.int .i64 mn,.int .i64 mx,.int .i64 sw,.slice a1 nt c1,.slice a2 nl c2,.slice a3 nh c3] 30)) w.heap.size (.cells #[.int .i64 mn,.int .i64 mx,.int .i64 sw,.slice a1 nt c1,.slice a2 nl c2,.slice a3 nh c3] 30)) fun j hj=>Vg.put_heap_other (by have:=hb1 j hj;omega)
 refine⟨⟨a1,c1,a2,c2,a3,c3⟩,by rw[H_hCV.out],?_,fun j hj=>?_,?_⟩
 ·exact t4.tk H_hnt.out
 ·rw[H_hnt.out]at hj
  have:=hb1 j hj
  exact⟨by omega,(t4.lt j hj).2⟩
 ·have q:=H_g3.out
  exact Vg.gro
end Go.Proofs.YtlkdkgefjipjmaaGreatDoor
