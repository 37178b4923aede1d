/- ExG, Itr, ExH, ExI (put together). -/
import Derived.Test.YtlkdkgefjipjmaaGreatDoorP30
import Derived.Test.YtlkdkgefjipjmaaGreatDoorQ2
import Derived.Test.YtlkdkgefjipjmaaGreatDoorQ1
import Derived.RangeFuncFrom
import Derived.Test.YtlkdkgefjipjmaaGreatDoorQ0
set_option linter.all false
set_option maxHeartbeats 40000000
set_option maxRecDepth 100000
namespace Go.Proofs.YtlkdkgefjipjmaaGreatDoor
open Go.ChangeShapes Go.WideShapes Go.ChangeAt Go.RowKit
section
variable {w w' w0 w2 w3:World}{xb lo N k N' k':Nat}{A:Vg.Ad}{s s':Vg.Xp}{mv:Value}{ws:List Value}{Bs:List Vg.Bp}{ql:Int}{ow:Nat->Nat}{OB:Nat->Prop}
theorem es_refill(now:Int)(h:ES w xb lo A s N k OB):Calls Tryz.prog 65 #[.pointer (some ⟨A.tb,0,none⟩),.int .i64 now] w fun e w'=>(∃r,e=.returned (.int .i64 r))/\ESn w w' xb lo A s N k OB:=by
 obtain⟨mv,ws,Bs,ql,ow,h1,h2,h3⟩:=h
 obtain⟨⟨Bs',r⟩,hx⟩:∃p,Vg.Bo.refill Bs now=p:=⟨_,rfl⟩
 refine(bs_refill now h1.bs h1.bi hx).mono ?_
 rintro e w' ⟨rfl,hn⟩
 have hI:=h1.bi.refill now
 rw[hx]at hI
 obtain⟨ow',e1,e2,e3⟩:=h1.bot hn hI
 exact⟨⟨_,rfl⟩,ESn.of h2 e1 e2 e3⟩
theorem es_unmask(h:ES w xb lo A s N k OB)(hT:Vg.Tab w)(hlo:1<=lo):Calls Tryz.prog 66 #[.pointer (some ⟨A.qb,0,none⟩),.int .i64 s.t] w fun e w'=>e=.returned (.tuple #[.slice none 0 0,.int .i64 0])/\ESn w w' xb lo A s N k OB:=by
 have hr:=h.rng.1
 obtain⟨mv,ws,Bs,ql,ow,h1,h2,h3⟩:=h
 have hb:A.qb≠0:=fun e=>by
  have h8:ow A.qb=4:=h1.qz.own.1
  have:=(h1.hw A.qb (by rw[h8];omega)).1
  omega
 refine(qz_unmask s.t h1.qz hT hb h1.ql hr.2.2).mono ?_
 rintro e w' ⟨rfl,hn⟩
 obtain⟨e1,e3⟩:=h1.irq hn (Int.le_refl _)
 exact⟨rfl,ESn.of h2 e1 (fun j hj=>.inl hj) e3⟩
theorem es_take(h:ES w xb lo A s N k OB)(hT:Vg.Tab w)(hlo:1<=lo):Calls Tryz.prog 68 #[.pointer (some ⟨A.qb,0,none⟩),.int .i64 s.t] w fun e w'=>e=.returned (.tuple #[.int .i64 0,.bool false,.int .i64 0])/\ESn w w' xb lo A s N k OB:=by
 have hr:=h.rng.1
 obtain⟨mv,ws,Bs,ql,ow,h1,h2,h3⟩:=h
 have hb:A.qb≠0:=fun e=>by
  have h8:ow A.qb=4:=h1.qz.own.1
  have:=(h1.hw A.qb (by rw[h8];omega)).1
  omega
 refine(qz_take s.t h1.qz hT hb h1.ql hr.2.2).mono ?_
 rintro e w' ⟨rfl,hn⟩
 obtain⟨e1,e3⟩:=h1.irq hn (Int.le_refl _)
 exact⟨rfl,ESn.of h2 e1 (fun j hj=>.inl hj) e3⟩
theorem ES.no0(h:ES w xb lo A s N k OB)(hlo:1<=lo):¬OB 0:=fun hh=>by have:=(h.own.2 0 hh).1;omega
theorem ES.last (a b:Int) (h:ES w xb lo A s N k OB):∃ma mc,Vg.blk w xb=some (exC A s (.slice ma s.ms.length mc))/\ESn w (Vg.put w xb (exC A { s with rk:=a,rn:=b } (.slice ma s.ms.length mc))) xb lo A { s with rk:=a,rn:=b } N k OB:=by
 obtain⟨mv,ws,Bs,ql,ow,h1,h2,h3⟩:=h
 obtain⟨ma,mc,rfl⟩:=h1.mq.shape
 obtain⟨e1,e2⟩:=h1.own (rk:=a) (rn:=b) (id:=s.idle)
 exact⟨ma,mc,h1.tab,ESn.of h2 e1 (fun j hj=>.inl hj) e2⟩
theorem es_settle(h:ES w xb lo A s N k OB)(hT:Vg.Tab w)(hlo:1<=lo)(hQ:Vg.Idle A.Q)(hnl:A.nl<=64)(hlen:s.ms.length<65536):
  Calls Tryz.prog 32 #[.pointer (some ⟨xb,0,none⟩)] w fun e w'=>e=.returned (.tuple #[])/\ESn w w' xb lo A s.settle N k OB:=by
 obtain⟨⟨a,b⟩,hrun⟩:∃p,s.run=p:=⟨_,rfl⟩
 have hset:s.settle=if(a,b)=(s.rk,s.rn)then s else{ s with rk:=a,rn:=b,ms:=s.ms ++ [⟨s.t,11,b,a⟩] }:=by unfold Vg.Xp.settle;rw[hrun]
 have hno:=h.no0 hlo
 have hnw:=es_now h
 have hrf:=es_refill s.t h
 obtain⟨ma,mc,x0⟩:=h.tab
 simp only[exC]at x0
 have ha0:IntKind.i64.wrap a=a:=by
  unfold Vg.Xp.run at hrun
  split at hrun
  ·simp only[Prod.mk.injEq]at hrun;obtain⟨rfl,_⟩:=hrun;rfl
  ·simp only[Prod.mk.injEq]at hrun;obtain⟨rfl,_⟩:=hrun;rfl
 obtain⟨c_x0,f_x0,p_x0,l_x0,H_x0⟩:=Vg.lay x0;clear x0
 have H_h:=h_ h;have H_hrun:=h_ hrun;have H_hset:=h_ hset;have H_hno:=h_ hno;have H_hnw:=h_ hnw;have H_hrf:=h_ hrf;have H_hT:=h_ hT;have H_hQ:=h_ hQ;clear h hrun hset hno hnw hrf hT hQ
 go_enter Tryz.func32,Tryz.ntmps32
 go_wp2_with (first|(go_at_call 8;(with_reducible refine(H_hnw.out).mono ?_);rintro e1 w1 ⟨rfl,rfl⟩)|(go_at_call 65;(with_reducible refine(H_hrf.out).mono ?_);rintro e1 w1 ⟨⟨r1,rfl⟩,hs1⟩;obtain⟨OB1,hE1,hO1,ht1⟩:=id hs1;obtain⟨ma1,mc1,x1⟩:=hE1.tab;have hum:=es_unmask hE1 (hs1.tab0 H_hT.out H_hno.out) hlo;simp only[exC]at x1;clear c_x0 f_x0 p_x0;obtain⟨c_x1,f_x1,p_x1,l_x1,H_x1⟩:=Vg.lay x1;clear x1;have H_hs1:=h_ hs1;have H_hE1:=h_ hE1;have H_hO1:=h_ hO1;have H_ht1:=h_ ht1;have H_hum:=h_ hum;clear hs1 hE1 hO1 ht1 hum)|(go_at_call 66;(with_reducible refine(H_hum.out).mono ?_);rintro e2 w2 ⟨rfl,hs2'⟩;have hs2:=ESn.next H_hO1.out H_ht1.out hs2';obtain⟨OB2,hE2,hO2,ht2⟩:=id hs2;obtain⟨ma2,mc2,x2⟩:=hE2.tab;have htk:=es_take hE2 (hs2.tab0 H_hT.out H_hno.out) hlo;simp only[exC]at x2;clear c_x1 f_x1 p_x1;obtain⟨c_x2,f_x2,p_x2,l_x2,H_x2⟩:=Vg.lay x2;clear x2;clear hs2';have H_hs2:=h_ hs2;have H_hE2:=h_ hE2;have H_hO2:=h_ hO2;have H_ht2:=h_ ht2;have H_htk:=h_ htk;clear hs2 hE2 hO2 ht2 htk))
 go_loopw [30] (fun i wr=>i=.int .i64 0/\w2=wr) (fun _ _=>0)
 case atStart=>exact⟨rfl,rfl⟩
 case round=>
  obtain⟨rfl,hwr⟩:=hrel
  subst hwr
  go_wp2
  go_loopw [] (fun wr=>w2=wr) (fun _=>0)
  case atStart=>rfl
  case round=>
   have hwr:=hrel
   subst hwr
   go_wp2_with (first|(go_at_call 68;(with_reducible refine(H_htk.out).mono ?_);rintro e3 w3 ⟨rfl,hs3'⟩;have hs3:=ESn.next H_hO2.out H_ht2.out hs3';obtain⟨OB3,hE3,hO3,ht3⟩:=id hs3;have hmk:=es_mask hE3 hnl;clear c_x2 f_x2 p_x2;clear hs3';have H_hs3:=h_ hs3;have H_hE3:=h_ hE3;have H_hO3:=h_ hO3;have H_ht3:=h_ ht3;have H_hmk:=h_ hmk;clear hs3 hE3 hO3 ht3 hmk)|(go_at_call 69;(with_reducible refine(H_hmk.out).mono ?_);rintro e4 w4 ⟨rfl,hs4'⟩;have hs4:=ESn.next H_hO3.out H_ht3.out hs4';obtain⟨OB4,hE4,hO4,ht4⟩:=id hs4;have hrn:=es_runs hE4 H_hQ.out H_hrun.out;obtain⟨ma4,mc4,x4,hlast⟩:=hE4.last a b;simp only[exC]at x4 hlast;obtain⟨c_x4,f_x4,p_x4,l_x4,H_x4⟩:=Vg.lay x4;clear x4;clear hs4';have H_hs4:=h_ hs4;have H_hE4:=h_ hE4;have H_hO4:=h_ hO4;have H_ht4:=h_ ht4;have H_hrn:=h_ hrn;have H_hlast:=h_ hlast;clear hs4 hE4 hO4 ht4 hrn hlast)|(go_at_call 70;(with_reducible refine(H_hrn.out).mono ?_);rintro e5 w5 ⟨rfl,x5,n5,rfl⟩))
   by_cases hc:a=s.rk/\b=s.rn
   ·obtain⟨ha9,hb9⟩:=hc
    have hset9:s.settle=s:=by rw[H_hset.out,if_pos (by rw[ha9,hb9])]
    subst ha9 hb9
    have H_hset9:=h_ hset9;clear hset9
    go_region
    all_goals go_wp2
    all_goals(first|go_end0|go_returns|refine bodyPost_ret (results_none rfl _ _ _) rfl ?_)
    all_goals exact⟨rfl,by rw[H_hset9.out];exact H_hs4.out.grows (Vg.gro)⟩
   ·have hset9:s.settle={ s with rk:=a,rn:=b,ms:=s.ms ++ [⟨s.t,11,b,a⟩] }:=by
     rw[H_hset.out,if_neg (fun e=>hc (by simpa using e))]
    obtain⟨OB5,hE5,hO5,ht5⟩:=H_hlast.out
    have hnt:=fun wz (hg:Vg.Grows (Vg.put w4 xb (exC A { s with rk:=a,rn:=b } (.slice ma4 s.ms.length mc4))) wz)=>es_note 11 b a (hE5.grows hg) hlo hlen
    simp only[exC]at hnt
    have H_hset9:=h_ hset9;have H_hE5:=h_ hE5;have H_hO5:=h_ hO5;have H_ht5:=h_ ht5;have H_hnt:=h_ hnt;clear hset9 hE5 hO5 ht5 hnt
    by_cases h9:a=s.rk
    ·have h8:¬b=s.rn:=fun e=>hc ⟨h9,e⟩
     subst h9
     go_region
     all_goals go_wp2_with ((go_at_call 67;(with_reducible refine(H_hnt.out _ (Vg.gro)).mono ?_);rintro e6 w6 ⟨rfl,hs6⟩;have H_hs6:=h_ hs6;clear hs6))
     all_goals(first|go_end0|go_returns|refine bodyPost_ret (results_none rfl _ _ _) rfl ?_)
     all_goals exact⟨rfl,by rw[H_hset9.out];exact ESn.next H_hO4.out H_ht4.out (ESn.next H_hO5.out H_ht5.out (ESn.pre (Vg.gro) H_hs6.out))⟩
    ·go_region
     all_goals go_wp2_with ((go_at_call 67;(with_reducible refine(H_hnt.out _ (Vg.gro)).mono ?_);rintro e6 w6 ⟨rfl,hs6⟩;have H_hs6:=h_ hs6;clear hs6))
     all_goals(first|go_end0|go_returns|refine bodyPost_ret (results_none rfl _ _ _) rfl ?_)
     all_goals exact⟨rfl,by rw[H_hset9.out];exact ESn.next H_hO4.out H_ht4.out (ESn.next H_hO5.out H_ht5.out (ESn.pre (Vg.gro) H_hs6.out))⟩
end
end Go.Proofs.YtlkdkgefjipjmaaGreatDoor
namespace Vg
open Go Go.RowKit
abbrev Round(t:Nat->Prop)(l:Nat)(A B:World):Prop:=Touch (fun k=>t k\/k=l\/k+1=l) A B
def SeqG{α:Type}(F:Fence)(n:Nat)(P:Program)(g:Nat)(bnd lb:Array Value)(encs:α->Array Value)(t:Nat->Prop)(G S:List α->Prop)(N:Nat)(w:World):Prop:=
 ∀(l:Nat)(J Jx:List α->World->Prop)(W:World),Grows w W->w.heap.size<l->l<W.heap.size->AbidesFrom W.heap.size J->AbidesFrom W.heap.size Jx->(∀pre A B,J pre A->Touch (fun k=>W.heap.size<=k) A B->J pre B) ->
  (∀pre W1,J pre W1->G pre) ->
  (∀pre x W1,J pre W1->pre.length<N->YieldAt F (n-1) P l (encs x) W1 fun e W'=>(e=.returned (.bool true)/\J (pre ++ [x]) W'/\Round t l W1 W')\/(e=.returned (.bool false)/\Jx (pre ++ [x]) W')) ->
  J [] W->CallsIn F n P g (bnd++#[.func (.yield l) #[] #[]]++lb) W fun e W'=>(∃v,e=.returned v)/\((∃xs,S xs/\J xs W')\/(∃pre,Jx pre W'))
variable {F:Fence}{n:Nat}{P:Program}
theorem touch_putObj{t:Nat->Prop}{l:Nat}(W:World)(k:Nat)(o:Obj)(hk:k=l\/k+1=l):Round t l W (W.putObj k o):=
 ⟨rfl,rfl,rfl,by simp,fun j _ hj=>World.putObj_heap_other fun e=>hj (.inr (by subst e;exact hk))⟩
def roundPost{α:Type}(t:Nat->Prop)(I Ix:List α->World->Prop)(xs:List α)(W:World):Exit->Act->World->Prop
 | .normal,_,W'=>KeepsOthers W W'/\Touch t W W'/\I xs W'
 | .ret,_,W'=>KeepsOthers W W'/\Ix xs W'
 | _,_,_=>False
theorem wpIn_rangeG {α:Type} {g:Operand} {ps:Array Tmp} {assign body:Code} {Q:Exit->Act->World->Prop} {a:Act} {w:World}
  (hro:F.round=none) (h1:1<=n) {gf:Nat} {bnd lb:Array Value} (hg:a.eval g=.func (.func gf) bnd lb) (hFg:F.fn gf) (eg:∀args w,(callFunc gf args).run P w=.ok (.enter gf args) w)
  {encs:α->Array Value} {t:Nat->Prop} {G S:List α->Prop} {N:Nat} {w0:World} (hseq:SeqG F (n-1) P gf bnd lb encs t G S N w0)
  (hb0:Grows w0 w) (hps:∀x,(encs x).size=ps.size) (I Ix:List α->World->Prop) (hI:OwnFrom w.heap.size I) (hIx:OwnFrom w.heap.size Ix) (hI2:∀pre A B,I pre A->Touch (fun k=>w.heap.size+2<=k) A B->I pre B) (hG:∀pre W,I pre W->G pre) (h0:I [] w) (a₁:α->Act)
  (hassign:∀(l:Nat) (x:α) (W:World) (K:Act->World->Prop),K (a₁ x) W ->
   assign.wpIn (F.inRound l) (n-1-1) P (Exit.then K (fun _ _ _=>False)) { tmps:=(ps.zip (encs x)).foldl (fun t (p,v)=>t.setIfInBounds p v) a.tmps,defers:=[] } W)
  (hbody:∀(l:Nat) (pre:List α) (x:α) (W:World),I pre W->pre.length<N->body.wpIn (F.inRound l) (n-1-1) P (roundPost t I Ix (pre ++ [x]) W) (a₁ x) W)
  (hdone:∀(D:Nat) (xs:List α) (W:World),w.heap.size<=D->S xs->I xs W->W.heap[D]? = some (.deferred (some []))->Q .normal { a with defers:={ target:=.collected D,args:=#[] } :: a.defers } W)
  (hstop:∀(D:Nat) (pre:List α) (W:World),w.heap.size<=D->Ix pre W->W.heap[D]? = some (.deferred (some []))->Code.ret.wpIn F n P Q { a with defers:={ target:=.collected D,args:=#[] } :: a.defers } W) :
  (Code.rangeFunc g ps assign body).wpIn F n P Q a w:=by
 refine wpIn_rangeFunc fun fn hfn=>?_
 rw[hro]
 -- the loop's record, and the world behind its laying: D holds what is deferred, L the loop
 let D:=w.heap.size
 let L:=w.heap.size+1
 let R:LoopState->Option Code->Obj:=fun st pe=>.loop { state:=st,pending:=pe,fn,tmps:=a.tmps,params:=ps,assign,body,defers:=w.heap.size }
 let U:=(w.alloc (.deferred (some []))).alloc (R .ready none)
 have hU:∃u,U=u:=⟨_,rfl⟩
 obtain⟨u,hu⟩:=hU
 have uL:u.heap[L]? = some (R .ready none):=by
  rw[<-hu];have:=World.alloc_heap_new (w.alloc (.deferred (some []))) (R .ready none);rwa [World.size_alloc]at this
 have uD:u.heap[D]? = some (.deferred (some [])):=by
  rw[<-hu];exact(Below.heap_alloc _ _ _ (by simp[D])).trans (World.alloc_heap_new w _)
 have uI:I [] u:=by rw[<-hu];exact hI.alloc _ (hI.alloc _ h0)
 have uB:Grows w0 u:=by rw[<-hu];exact(hb0.alloc _).alloc _
 have uS:u.heap.size=L+1:=by rw[<-hu];simp[U,L]
 have hDL:D≠L:=by simp[D,L]
 have hDL1:D+1=L:=rfl
 -- the invariant with the two facts of book-keeping
 let J:List α->World->Prop:=fun pre W=>I pre W/\W.heap[L]? = some (R .ready none)/\W.heap[D]? = some (.deferred (some []))
 let Jx:List α->World->Prop:=fun pre W=>Ix pre W/\W.heap[L]? = some (R .done (some .ret))/\W.heap[D]? = some (.deferred (some []))
 have hr2:∀{A:World} {row:Option Nat},(∀q,row=some q->u.heap.size<=q/\∃o:Obj,A.heap[q]? = some o/\o.isWalk=true)->∀q,row=some q->w.heap.size<=q/\∃o:Obj,A.heap[q]? = some o/\o.isCells=false:=fun hr q e=>by
  obtain⟨hB,o,ho,hw⟩:=hr q e
  exact⟨by omega,o,ho,Obj.not_cells_of_walk hw⟩
 have hJ:AbidesFrom u.heap.size J:=fun s A B row hs hg' hr=>
  ⟨hI s A B row hs.1 hg' (hr2 hr),(grownBy_keeps hg' (fun q e=>(hr q e).2) hs.2.1 rfl).trans hs.2.1,(grownBy_keeps hg' (fun q e=>(hr q e).2) hs.2.2 rfl).trans hs.2.2⟩
 have hJx:AbidesFrom u.heap.size Jx:=fun s A B row hs hg' hr=>
  ⟨hIx s A B row hs.1 hg' (hr2 hr),(grownBy_keeps hg' (fun q e=>(hr q e).2) hs.2.1 rfl).trans hs.2.1,(grownBy_keeps hg' (fun q e=>(hr q e).2) hs.2.2 rfl).trans hs.2.2⟩
 refine⟨L,[{ target:=.collected D,args:=#[] }],u,{ target:=.fn (.func gf) lb,args:=bnd++#[.func (.yield L) #[] #[]] },u,gf,bnd++#[.func (.yield L) #[] #[]]++lb,u,?_,?_,?_,?_,fun _=>h1,?_⟩
 ·rw[<-hu];exact run_enterLoop_outer _ _ _ _ _
 ·simp only[resolve,hg]
  simp[go_sem]
 ·intro f' hf';simp[Target.leads]at hf';subst hf';exact hFg
 ·simp[invoke,go_sem,eg]
 ·have hJ2:∀pre A B,J pre A->Touch (fun k=>u.heap.size<=k) A B->J pre B:=fun pre A B h ht=>
   ⟨hI2 pre A B h.1 (ht.mono fun k _ hk=>by omega),(ht.block L (Array.getElem?_eq_some_iff.1 h.2.1).1 (by omega)).trans h.2.1,(ht.block D (Array.getElem?_eq_some_iff.1 h.2.2).1 (by omega)).trans h.2.2⟩
  refine(hseq L J Jx u uB (by have:=hb0.size;simp[L];omega) (by omega) hJ hJx hJ2 (fun pre W h=>hG pre W h.1) ?_ ⟨uI,uL,uD⟩).mono ?_
  ·rintro pre x W ⟨hi,hl,hk⟩ hlen
   have hlt:L<W.heap.size:=(Array.getElem?_eq_some_iff.1 hl).1
   have hy:=run_yield (P:=P) (args:=encs x) hl (by exact hps x)
   refine⟨fn,_,assign,body,hy,roundIn_of_wpIn hfn (hassign _ x W _ ⟨_,run_beginRound hl rfl,?_⟩)⟩
   -- the round is under way
   have hD2:w.heap.size<=L:=by simp[L]
   have bl:=World.putObj_heap_same (o:=R .busy none) hlt
   have bd:(W.putObj L (R .busy none)).heap[D]? = some (.deferred (some [])):=(World.putObj_heap_other hDL).trans hk
   have bk:Round t L W (W.putObj L (R .busy none)):=touch_putObj _ _ _ (.inl rfl)
   refine wpIn_mono (hbody _ pre x _ (hI.putObj _ hi hD2 hl rfl) hlen) ?_
   rintro e a3 W3 hp
   cases e with
   | normal=>
    obtain⟨hk3,hkp3,hi3⟩:=hp
    have hl3:=hk3.same _ _ bl rfl
    have hr:=run_endRound (P:=P) none hl3
    have hd3:(W3.putObj L (R .ready none)).heap[D]? = some (.deferred (some [])):=(World.putObj_heap_other hDL).trans (hk3.same _ _ bd rfl)
    exact⟨_,_,hr,.inl ⟨rfl,⟨hI.putObj _ hi3 hD2 hl3 rfl,World.putObj_heap_same (Array.getElem?_eq_some_iff.1 hl3).1,hd3⟩,(bk.trans (hkp3.mono fun k _ hh=>.inl hh)).trans (touch_putObj _ _ _ (.inl rfl))⟩⟩
   | ret=>
    obtain⟨hk3,hi3⟩:=hp
    have hl3:=hk3.same _ _ bl rfl
    have hr:=run_endRound (P:=P) (some .ret) hl3
    have hd3:(W3.putObj L (R .done (some .ret))).heap[D]? = some (.deferred (some [])):=(World.putObj_heap_other hDL).trans (hk3.same _ _ bd rfl)
    exact⟨_,_,hr,.inr ⟨rfl,hIx.putObj _ hi3 hD2 hl3 rfl,World.putObj_heap_same (Array.getElem?_eq_some_iff.1 hl3).1,hd3⟩⟩
   | exit id=>exact hp.elim
   | goto t=>exact hp.elim
   | panic ch=>exact hp.elim
   | outgrown=>exact hp.elim
  ·rintro e W2 ⟨⟨v,rfl⟩,(⟨xs,hS,hi,hl,hk⟩|⟨pre,hi,hl,hk⟩)⟩
   ·exact⟨none,_,run_endLoop (P:=P) hl (by simp),hdone _ xs _ (Nat.le_refl _) hS (hI.putObj _ hi (by simp[L]) hl rfl) ((World.putObj_heap_other hDL).trans hk)⟩
   ·exact⟨some .ret,_,run_endLoop (P:=P) hl (by simp),hstop _ pre _ (Nat.le_refl _) (hIx.putObj _ hi (by simp[L]) hl rfl) ((World.putObj_heap_other hDL).trans hk)⟩
end Vg
namespace Vg
open Go
theorem Touch.toGrows{w w':World}(h:Touch (fun _=>False) w w'):Grows w w':=Grows.of_below ⟨h.os,h.tape,h.output,h.size,fun k hk=>h.block k hk fun hh=>hh⟩
def Xp.left(s:Xp):Int:=if s.rk=1 then Kn.left s.K s.M else 0
def Xp.evs(s:Xp)(a:Int)(is:Bool):List Int:=(if is=true then [max a s.t]else [])++(if s.rk=0 then []else [s.t+s.left])
end Vg
namespace Go.Proofs.YtlkdkgefjipjmaaGreatDoor
open Go.ChangeShapes Go.WideShapes Go.ChangeAt Go.RowKit Go.Shelf
attribute [local go_sem] Oper.semAt_some
section
variable {w w' w0 w2 w3:World}{xb lo N k N' k':Nat}{A:Vg.Ad}{s s':Vg.Xp}{mv:Value}{ws:List Value}{Bs:List Vg.Bp}{ql:Int}{ow:Nat->Nat}{OB:Nat->Prop}
theorem es_kleft(h:ES w xb lo A s N k OB){x:Int}(hx:Vg.Kn.left s.K s.M=x):Calls Tryz.prog 157 #[.pointer (some ⟨A.kb,0,none⟩)] w fun e w'=>e=.returned (.int .i64 x)/\Vg.Grows w w':=by
 obtain⟨mv,ws,Bs,ql,ow,h1,h2,h3⟩:=h
 exact kq_left h1.kq h1.ki hx
theorem es_left(h:ES w xb lo A s N k OB)(h01:s.rk=0\/s.rk=1):Calls Tryz.prog 93 #[.pointer (some ⟨xb,0,none⟩)] w fun e w'=>e=.returned (.int .i64 s.left)/\Vg.Grows w w':=by
 obtain⟨ma,mc,x0⟩:=h.tab
 obtain⟨x,hx⟩:∃x,Vg.Kn.left s.K s.M=x:=⟨_,rfl⟩
 have hk:=fun wz (hg:Vg.Grows w wz)=>es_kleft (h.grows hg) hx
 have hl:s.left=if s.rk=1 then x else 0:=by unfold Vg.Xp.left;rw[hx]
 rw[hl]
 simp only[exC]at x0
 obtain⟨rk,hrk⟩:∃rk,s.rk=rk:=⟨_,rfl⟩
 rw[hrk]at x0 h01 ⊢
 clear hl
 rcases h01 with rfl|rfl
 ·obtain⟨c_x0,f_x0,p_x0,l_x0,H_x0⟩:=Vg.lay x0;clear x0
  have H_h:=h_ h;have H_hx:=h_ hx;have H_hk:=h_ hk;have H_hrk:=h_ hrk;clear h hx hk hrk
  go_enter Tryz.func93,Tryz.ntmps93
  go_wp2
  go_ret
  exact⟨rfl,Vg.gro⟩
 ·obtain⟨c_x0,f_x0,p_x0,l_x0,H_x0⟩:=Vg.lay x0;clear x0
  have H_h:=h_ h;have H_hx:=h_ hx;have H_hk:=h_ hk;have H_hrk:=h_ hrk;clear h hx hk hrk
  go_enter Tryz.func93,Tryz.ntmps93
  go_wp2_with ((go_at_call 157;(with_reducible refine(H_hk.out _ (Vg.gro)).mono ?_);rintro e1 w1 ⟨rfl,hg1⟩;have H_hg1:=h_ hg1;clear hg1))
  go_ret
  exact⟨rfl,Vg.Grows.trans (Vg.gro) H_hg1.out⟩
theorem es_wake(h:ES w xb lo A s N k OB){nx:Int}{is:Bool}{a:Int}(hn:Vg.NxV s.V nx is)(ha:(if is=true then Vg.wkA A.mn A.mx s.t0 nx else 0)=a):
  Calls Tryz.prog 27 #[.pointer (some ⟨A.sb,0,none⟩)] w fun e w'=>e=.returned (.tuple #[.int .i64 a,.bool is])/\Vg.Grows w w':=by
 obtain⟨Y,fr,hY,hs⟩:=h.svc
 exact sx_wake hs hn ha
theorem es_bnext(h:ES w xb lo A s N k OB)(hQ:Vg.Idle A.Q):Calls Tryz.prog 91 #[.pointer (some ⟨A.tb,0,none⟩)] w fun e w'=>e=.returned (.tuple #[.int .i64 0,.bool false])/\Vg.Grows w w':=by
 obtain⟨mv,ws,Bs,ql,ow,h1,h2,h3⟩:=h
 exact bs_next h1.bs h1.bi.le (hQ.next Bs)
theorem es_inext(h:ES w xb lo A s N k OB)(hT:Vg.Tab w):Calls Tryz.prog 92 #[.pointer (some ⟨A.qb,0,none⟩)] w fun e w'=>e=.returned (.tuple #[.int .i64 0,.bool false])/\Vg.Grows w w':=by
 obtain⟨mv,ws,Bs,ql,ow,h1,h2,h3⟩:=h
 refine(qz_next h1.qz hT).mono ?_
 rintro e w' ⟨rfl,ht⟩
 exact⟨rfl,ht.toGrows⟩
theorem es_events (kk:Nat) (hkk:1<=kk) (h:ES w xb lo A s N k OB) (hT:Vg.Tab w) (hlo:1<=lo) (hQ:Vg.Idle A.Q) (h01:s.rk=0\/s.rk=1) {nx:Int} {is:Bool} {a:Int} (hn:Vg.NxV s.V nx is) (ha:(if is=true then Vg.wkA A.mn A.mx s.t0 nx else 0)=a) (t:Nat->Prop) (ht:∀j,OB j->¬t j) (ht0:¬t 0) (hlf:0<=s.left/\s.left<=1099511627776) :
  Vg.SeqG Fence.wide kk Tryz.prog 54 #[.pointer (some ⟨xb,0,none⟩)] #[] (fun x:Int=>#[.int .i64 x]) t (fun _=>True) (fun ys=>ys=s.evs a is) 2 w:=fun l J Jx W hW hl1 hl2 hJ hJx hJ2 hG hY hJ0=>by
 have hE:=h.grows hW
 have hlt:=h.own.2
 have hno:=h.no0 hlo
 have hTW:=hT.grows hW
 have hrng:=h.rng.1
 have hna:is=true->¬a<s.t:=fun e=>by
  subst e
  obtain⟨Y,fr,hY9,hs⟩:=h.svc
  have:=hs.le hn
  simp only[if_true]at ha
  omega
 obtain⟨lf,hlfe⟩:∃lf,s.left=lf:=⟨_,rfl⟩
 rw[hlfe]at hlf
 obtain⟨tt,htt⟩:∃tt,s.t=tt:=⟨_,rfl⟩
 rw[htt]at hrng hna
 -- what a later world still holds
 have hkeep:∀(W1 W2:World),ES W1 xb lo A s N k OB/\Vg.Tab W1->Vg.Round t l W1 W2->ES W2 xb lo A s N k OB/\Vg.Tab W2:=fun W1 W2 h1 h2=>⟨h1.1.touch h2 fun j hj hh=>by
  rcases hh with hh|hh|hh
  ·exact ht j hj hh
  ·have:=(hlt j hj).2;omega
  ·have:=(hlt j hj).2;omega,h2.tabS h1.2 fun hh=>by
  have h0:=World.block_lt_of_cell? w _ (hT 0 (by decide))
  simp only at h0
  rcases hh with hh|hh|hh
  ·exact ht0 hh
  ·omega
  ·omega⟩
 have hgw:∀(W1 W2:World),ES W1 xb lo A s N k OB/\Vg.Tab W1->Vg.Grows W1 W2->ES W2 xb lo A s N k OB/\Vg.Tab W2:=fun W1 W2 h1 h2=>⟨h1.1.grows h2,h1.2.grows h2⟩
 have hwk:=fun(W1:World) (h1:ES W1 xb lo A s N k OB/\Vg.Tab W1)=>es_wake h1.1 hn ha
 have hnw:=fun(W1:World) (h1:ES W1 xb lo A s N k OB/\Vg.Tab W1)=>es_now h1.1
 have hbn:=fun(W1:World) (h1:ES W1 xb lo A s N k OB/\Vg.Tab W1)=>es_bnext h1.1 hQ
 have hin:=fun(W1:World) (h1:ES W1 xb lo A s N k OB/\Vg.Tab W1)=>es_inext h1.1 h1.2
 have hlk:=fun(W1:World) (h1:ES W1 xb lo A s N k OB/\Vg.Tab W1)=>es_left h1.1 h01
 have htb:=fun(W1:World) (h1:ES W1 xb lo A s N k OB/\Vg.Tab W1)=>h1.1.tab
 rw[hlfe]at hlk
 rw[htt]at hnw
 have hb:=And.intro hE hTW
 obtain⟨ma,mc,x0⟩:=hE.tab
 obtain⟨rk,hrk⟩:∃rk,s.rk=rk:=⟨_,rfl⟩
 have hev:s.evs a is=(if is=true then [a]else [])++(if rk=0 then []else [tt+lf]):=by
  unfold Vg.Xp.evs;rw[htt,hlfe,hrk]
  cases is with
  | false=>rfl
  | true=>have:=hna rfl;rw[if_pos rfl,if_pos rfl,show max a tt=a by omega]
 have hwr:IntKind.i64.wrap (tt+lf)=tt+lf:=by rw[IntKind.wrap_i64];omega
 simp only[exC]at x0 htb
 simp only[hrk]at x0 h01 htb
 obtain⟨c_x0,f_x0,p_x0,l_x0,H_x0⟩:=Vg.lay x0;clear x0
 have H_hna:=h_ hna;have H_h:=h_ h;have H_hE:=h_ hE;have H_hT:=h_ hT;have H_hTW:=h_ hTW;have H_hlt:=h_ hlt;have H_hno:=h_ hno;have H_hkeep:=h_ hkeep;have H_hgw:=h_ hgw;have H_hwk:=h_ hwk;have H_hnw:=h_ hnw;have H_hbn:=h_ hbn;have H_hin:=h_ hin;have H_hlk:=h_ hlk;have H_htb:=h_ htb;have H_hb:=h_ hb;have H_hev:=h_ hev;have H_hrk:=h_ hrk;have H_hlfe:=h_ hlfe;have H_htt:=h_ htt;have H_hn:=h_ hn;have H_ha:=h_ ha;have H_ht:=h_ ht;clear hna h hE hT hTW hlt hno hkeep hgw hwk hnw hbn hin hlk htb hb hev hrk hlfe htt hn ha ht
 refine callsIn_of_wp Tryz.func54 rfl trivial ?_ rfl
 simp only[Tryz.ntmps54,List.size_toArray,List.length_cons,List.length_nil,Nat.reduceAdd,Nat.reduceSub,Array.replicate_succ,Array.replicate_zero,List.push_toArray,List.append_toArray,List.nil_append,List.cons_append]
 cases is with
 | false=>
  gi_wp2_with (refine⟨trivial,?_⟩;gi_at_call 27;refine(callsIn_wide.2 (H_hwk.out _ H_hb.out)).mono ?_;rintro e w1 ⟨rfl,hg1⟩;have hb1:=H_hgw.out _ _ H_hb.out hg1;have hJ1:=Vg.abides_grows hJ hJ0 hg1;obtain⟨ma1,mc1,x1⟩:=H_htb.out _ hb1;clear c_x0 f_x0 p_x0;obtain⟨c_x1,f_x1,p_x1,l_x1,H_x1⟩:=Vg.lay x1;clear x1;have H_hb1:=h_ hb1;have H_hJ1:=h_ hJ1;have H_hg1:=h_ hg1;clear hb1 hJ1 hg1)
  refine⟨trivial,?_⟩
  gi_wp2_with fail
  (first|refine⟨(fun(f:FuncId) (h:none=some f)=>by cases h),?_⟩|skip)
  gi_wp2_with (refine⟨trivial,?_⟩;gi_at_call 91;refine(callsIn_wide.2 (H_hbn.out _ H_hb1.out)).mono ?_;rintro e w2 ⟨rfl,hg2⟩;have hb2:=H_hgw.out _ _ H_hb1.out hg2;have hJ2:=Vg.abides_grows hJ H_hJ1.out hg2;obtain⟨ma2,mc2,x2⟩:=H_htb.out _ hb2;clear c_x1 f_x1 p_x1;obtain⟨c_x2,f_x2,p_x2,l_x2,H_x2⟩:=Vg.lay x2;clear x2;have H_hb2:=h_ hb2;have H_hJ2:=h_ hJ2;have H_hg2:=h_ hg2;clear hb2 hJ2 hg2)
  (first|refine⟨(fun(f:FuncId) (h:none=some f)=>by cases h),?_⟩|skip)
  first|((refine⟨trivial,?_⟩;gi_at_call 92;refine(callsIn_wide.2 (H_hin.out _ H_hb2.out)).mono ?_;rintro e w3 ⟨rfl,hg3⟩;have hb3:=H_hgw.out _ _ H_hb2.out hg3;have hJ3:=Vg.abides_grows hJ H_hJ2.out hg3;obtain⟨ma3,mc3,x3⟩:=H_htb.out _ hb3;clear c_x2 f_x2 p_x2;obtain⟨c_x3,f_x3,p_x3,l_x3,H_x3⟩:=Vg.lay x3;clear x3;have H_hb3:=h_ hb3;have H_hJ3:=h_ hJ3;have H_hg3:=h_ hg3;clear hb3 hJ3 hg3);gi_wp2_with fail)|gi_wp2_with (refine⟨trivial,?_⟩;gi_at_call 92;refine(callsIn_wide.2 (H_hin.out _ H_hb2.out)).mono ?_;rintro e w3 ⟨rfl,hg3⟩;have hb3:=H_hgw.out _ _ H_hb2.out hg3;have hJ3:=Vg.abides_grows hJ H_hJ2.out hg3;obtain⟨ma3,mc3,x3⟩:=H_htb.out _ hb3;clear c_x2 f_x2 p_x2;obtain⟨c_x3,f_x3,p_x3,l_x3,H_x3⟩:=Vg.lay x3;clear x3;have H_hb3:=h_ hb3;have H_hJ3:=h_ hJ3;have H_hg3:=h_ hg3;clear hb3 hJ3 hg3)
  (first|refine⟨(fun(f:FuncId) (h:none=some f)=>by cases h),?_⟩|skip)
  rcases h01 with rfl|rfl
  ·gi_wp2_with fail
   (first|go_end0|refine bodyPost_ret (results_none rfl _ _ _) rfl ?_)
   exact⟨⟨_,rfl⟩,.inl (by rw[H_hev.out];simpa using H_hJ3.out)⟩
  ·gi_wp2_with (first|(refine⟨trivial,?_⟩;gi_at_call 8;refine(callsIn_wide.2 (H_hnw.out _ H_hb3.out)).mono ?_;rintro e w4 ⟨rfl,rfl⟩)|(refine⟨trivial,?_⟩;gi_at_call 93;refine(callsIn_wide.2 (H_hlk.out _ H_hb3.out)).mono ?_;rintro e w5 ⟨rfl,hg5⟩;have hJ5:=Vg.abides_grows hJ H_hJ3.out hg5;obtain⟨fn9,tmps9,assign9,body9,hy9,hR9⟩:=hY [] (tt+lf) w5 hJ5 (by simp);have H_hg5:=h_ hg5;have H_hJ5:=h_ hJ5;clear hg5 hJ5))
   refine hR9.mono ?_
   rintro e W9 (⟨rfl,hJ9,hk9⟩|⟨rfl,hJx9⟩)
   ·gi_wp2
    (first|go_end0|refine bodyPost_ret (results_none rfl _ _ _) rfl ?_)
    exact⟨⟨_,rfl⟩,.inl (by rw[H_hev.out];simpa using hJ9)⟩
   ·gi_wp2
    (first|go_end0|refine bodyPost_ret (results_none rfl _ _ _) rfl ?_)
    exact⟨⟨_,rfl⟩,.inr ⟨_,hJx9⟩⟩
 | true=>
  have hna:¬a<tt:=H_hna.out rfl
  gi_wp2_with (first|(refine⟨trivial,?_⟩;gi_at_call 27;refine(callsIn_wide.2 (H_hwk.out _ H_hb.out)).mono ?_;rintro e w1 ⟨rfl,hg1⟩;have hb1:=H_hgw.out _ _ H_hb.out hg1;have hJ1:=Vg.abides_grows hJ hJ0 hg1;obtain⟨ma1,mc1,x1⟩:=H_htb.out _ hb1;clear c_x0 f_x0 p_x0;obtain⟨c_x1,f_x1,p_x1,l_x1,H_x1⟩:=Vg.lay x1;clear x1;have H_hb1:=h_ hb1;have H_hJ1:=h_ hJ1;have H_hg1:=h_ hg1;clear hb1 hJ1 hg1)|(refine⟨trivial,?_⟩;gi_at_call 8;refine(callsIn_wide.2 (H_hnw.out _ H_hb1.out)).mono ?_;rintro e w2 ⟨rfl,rfl⟩;obtain⟨fn8,tmps8,assign8,body8,hy8,hR8⟩:=hY [] a _ H_hJ1.out (by simp)))
  refine hR8.mono ?_
  rintro e W8 (⟨rfl,hJ8,hk8⟩|⟨rfl,hJx8⟩)
  ·have hb8:=H_hkeep.out _ _ H_hb1.out hk8
   obtain⟨ma8,mc8,x8⟩:=H_htb.out _ hb8
   clear c_x1 f_x1 p_x1
   obtain⟨c_x8,f_x8,p_x8,l_x8,H_x8⟩:=Vg.lay x8;clear x8
   have H_hb8:=h_ hb8;have H_hJ8:=h_ hJ8;have H_hk8:=h_ hk8;clear hb8 hJ8 hk8
   gi_wp2_with (refine⟨trivial,?_⟩;gi_at_call 91;refine(callsIn_wide.2 (H_hbn.out _ H_hb8.out)).mono ?_;rintro e w9 ⟨rfl,hg9⟩;have hb9:=H_hgw.out _ _ H_hb8.out hg9;have hJ9:=Vg.abides_grows hJ H_hJ8.out hg9;obtain⟨ma9,mc9,x9⟩:=H_htb.out _ hb9;clear c_x8 f_x8 p_x8;obtain⟨c_x9,f_x9,p_x9,l_x9,H_x9⟩:=Vg.lay x9;clear x9;have H_hb9:=h_ hb9;have H_hJ9:=h_ hJ9;have H_hg9:=h_ hg9;clear hb9 hJ9 hg9)
   (first|refine⟨(fun(f:FuncId) (h:none=some f)=>by cases h),?_⟩|skip)
   first|((refine⟨trivial,?_⟩;gi_at_call 92;refine(callsIn_wide.2 (H_hin.out _ H_hb9.out)).mono ?_;rintro e w10 ⟨rfl,hg10⟩;have hb10:=H_hgw.out _ _ H_hb9.out hg10;have hJ10:=Vg.abides_grows hJ H_hJ9.out hg10;obtain⟨ma10,mc10,x10⟩:=H_htb.out _ hb10;clear c_x9 f_x9 p_x9;obtain⟨c_x10,f_x10,p_x10,l_x10,H_x10⟩:=Vg.lay x10;clear x10;have H_hb10:=h_ hb10;have H_hJ10:=h_ hJ10;have H_hg10:=h_ hg10;clear hb10 hJ10 hg10);gi_wp2_with fail)|gi_wp2_with (refine⟨trivial,?_⟩;gi_at_call 92;refine(callsIn_wide.2 (H_hin.out _ H_hb9.out)).mono ?_;rintro e w10 ⟨rfl,hg10⟩;have hb10:=H_hgw.out _ _ H_hb9.out hg10;have hJ10:=Vg.abides_grows hJ H_hJ9.out hg10;obtain⟨ma10,mc10,x10⟩:=H_htb.out _ hb10;clear c_x9 f_x9 p_x9;obtain⟨c_x10,f_x10,p_x10,l_x10,H_x10⟩:=Vg.lay x10;clear x10;have H_hb10:=h_ hb10;have H_hJ10:=h_ hJ10;have H_hg10:=h_ hg10;clear hb10 hJ10 hg10)
   (first|refine⟨(fun(f:FuncId) (h:none=some f)=>by cases h),?_⟩|skip)
   rcases h01 with rfl|rfl
   ·gi_wp2_with fail
    (first|go_end0|refine bodyPost_ret (results_none rfl _ _ _) rfl ?_)
    exact⟨⟨_,rfl⟩,.inl (by rw[H_hev.out];simpa using H_hJ10.out)⟩
   ·gi_wp2_with (first|(refine⟨trivial,?_⟩;gi_at_call 8;refine(callsIn_wide.2 (H_hnw.out _ H_hb10.out)).mono ?_;rintro e w11 ⟨rfl,rfl⟩)|(refine⟨trivial,?_⟩;gi_at_call 93;refine(callsIn_wide.2 (H_hlk.out _ H_hb10.out)).mono ?_;rintro e w12 ⟨rfl,hg12⟩;have hJ12:=Vg.abides_grows hJ H_hJ10.out hg12;obtain⟨fn9,tmps9,assign9,body9,hy9,hR9⟩:=hY [a] (tt+lf) w12 hJ12 (by simp);have H_hg12:=h_ hg12;have H_hJ12:=h_ hJ12;clear hg12 hJ12))
    refine hR9.mono ?_
    rintro e W9 (⟨rfl,hJ9,hk9⟩|⟨rfl,hJx9⟩)
    ·gi_wp2
     (first|go_end0|refine bodyPost_ret (results_none rfl _ _ _) rfl ?_)
     exact⟨⟨_,rfl⟩,.inl (by rw[H_hev.out];simpa using hJ9)⟩
    ·gi_wp2
     (first|go_end0|refine bodyPost_ret (results_none rfl _ _ _) rfl ?_)
     exact⟨⟨_,rfl⟩,.inr ⟨_,hJx9⟩⟩
  ·gi_wp2
   (first|go_end0|refine bodyPost_ret (results_none rfl _ _ _) rfl ?_)
   exact⟨⟨_,rfl⟩,.inr ⟨_,hJx8⟩⟩
end
end Go.Proofs.YtlkdkgefjipjmaaGreatDoor
namespace Vg
open Go Go.RowKit
theorem touch_cell{b:Nat}(W:World)(v:Value):Touch (fun j=>j=b) W (W.setCell ⟨b,0,none⟩ v):=
 have h:=(Below.refl b W).setCell (p:=⟨b,0,none⟩) (Nat.le_refl _) v
 ⟨h.os,h.tape,h.output,h.size,fun z hz hne=>Below.heap_setCell _ _ _ z hne⟩
def Xp.nxt(s:Xp)(a:Int)(is:Bool)(en:Int):Int:=(s.evs a is).foldl min en
end Vg
namespace Go.Proofs.YtlkdkgefjipjmaaGreatDoor
open Go.ChangeShapes Go.WideShapes Go.ChangeAt Go.RowKit Go.Shelf
attribute [local go_sem] Oper.semAt_some
section
variable {w w' w0 w3:World}{xb lo N k N' k':Nat}{A:Vg.Ad}{s s':Vg.Xp}{OB:Nat->Prop}
theorem exnext_in (h:ES w xb lo A s N k OB) (hT:Vg.Tab w) (hlo:1<=lo) (hQ:Vg.Idle A.Q) (h01:s.rk=0\/s.rk=1) {nx:Int} {is:Bool} {a:Int} (hn:Vg.NxV s.V nx is) (ha:(if is=true then Vg.wkA A.mn A.mx s.t0 nx else 0)=a) (hlf:0<=s.left/\s.left<=1099511627776) (en:Int) :
  CallsIn Fence.wide 4 Tryz.prog 28 #[.pointer (some ⟨xb,0,none⟩),.int .i64 en] w fun e w'=>e=.returned (.int .i64 (s.nxt a is en))/\Vg.Touch (fun _=>False) w w':=by
 have hro:Fence.wide.round=none:=rfl
 have hn1:1<=4:=by omega
 have hlt:=h.own.2
 have h0l:0<w.heap.size:=World.block_lt_of_cell? w _ (hT 0 (by decide))
 have hxb:=(hlt xb h.own.1).2
 have H_h:=h_ h;have H_hT:=h_ hT;have H_hn:=h_ hn;have H_ha:=h_ ha;have H_hlf:=h_ hlf;have H_hlt:=h_ hlt;clear h hT hn ha hlf hlt
 refine callsIn_of_wp_marks Tryz.func28 rfl trivial ?_ rfl
 simp only[Tryz.ntmps28,List.size_toArray,List.length_cons,List.length_nil,Nat.reduceAdd,Nat.reduceSub,Array.replicate_succ,Array.replicate_zero,List.push_toArray,List.append_toArray,List.nil_append,List.cons_append]
 gi_wp2
 obtain⟨b3,hb3⟩:∃b3,w.heap.size=b3:=⟨_,rfl⟩
 obtain⟨WL,hWL⟩:∃WL,w.alloc (.cells #[.int .i64 en] 2)=WL:=⟨_,rfl⟩
 have hgL:Vg.Grows w WL:=by rw[<-hWL];exact Vg.gro
 have hsL:WL.heap.size=b3+1:=by rw[<-hWL,<-hb3];simp
 have hB:Boxed WL b3 2 (.int .i64 en):=by rw[<-hWL,<-hb3];exact Boxed.new w _ _
 rw[hWL,hb3]
 have H_hWL:=h_ hWL;have H_hgL:=h_ hgL;have H_hB:=h_ hB;clear hWL hgL hB
 refine Vg.wpIn_rangeG (t:=fun j=>j=b3) (G:=fun _=>True) (α:=Int) hro hn1 (gf:=54) (bnd:=#[.pointer (some ⟨xb,0,none⟩)]) (lb:=#[]) rfl trivial (enters_of Tryz.func54 (by kernel_rfl) rfl)
  (es_events (4-1) (by omega) (H_h.out.grows H_hgL.out) (H_hT.out.grows H_hgL.out) hlo hQ h01 H_hn.out H_ha.out (fun j=>j=b3) (fun j hj e=>by have:=(H_hlt.out j hj).2;omega) (by omega) H_hlf.out) (Vg.Grows.refl _) (fun _=>rfl)
  (fun pre W=>Boxed W b3 2 (.int .i64 (pre.foldl min en))/\Vg.Touch (fun j=>j=b3) WL W)
  (fun _ _=>False)
  (OwnFrom.and (Own.from (boxed_own _ _ _) _) (fun pre B C row hs hg hr=>hs.turnedZ hg (Nat.le_refl _) (fun r e=>(hr r e).1)))
  (fun _ _ _ _ hs _ _=>hs) (fun pre A B hs ht=>⟨(ht.block b3 (Boxed.lt hs.1) (by omega)).trans hs.1,hs.2.next ht fun k hk=>.inr (by omega)⟩) (fun _ _ _=>trivial)
  ⟨H_hB.out,Vg.Touch.refl _ _⟩ ?a1 ?assign ?body ?done ?stop
 case assign=>
  intro l x W K hK
  gi_wp2
  exact hK
 case body=>
  rintro l pre x W ⟨hb,ht⟩ hlt2
  obtain⟨v,hv⟩:∃v,pre.foldl min en=v:=⟨_,rfl⟩
  have hsn:(pre ++ [x]).foldl min en=min v x:=by rw[List.foldl_append,hv];rfl
  rw[hv]at hb
  have hc:=hb.cell
  have hf:=hb.frozen
  have hl:=hb.lt
  by_cases hvx:v<=x
  ·have e9:min v x=v:=by omega
   rw[e9]at hsn
   have H_hb:=h_ hb;have H_ht:=h_ ht;have H_hsn:=h_ hsn;have H_hv:=h_ hv;clear hb ht hsn hv
   gi_wp2
   refine⟨KeepsOthers.setCell _ _ _,?_,?_,?_⟩
   ·exact Vg.touch_cell _ _
   ·rw[H_hsn.out];exact H_hb.out.set _
   ·exact H_ht.out.trans (Vg.touch_cell _ _)
  ·have e9:min v x=x:=by omega
   rw[e9]at hsn
   have H_hb:=h_ hb;have H_ht:=h_ ht;have H_hsn:=h_ hsn;have H_hv:=h_ hv;clear hb ht hsn hv
   gi_wp2
   refine⟨KeepsOthers.setCell _ _ _,?_,?_,?_⟩
   ·exact Vg.touch_cell _ _
   ·rw[H_hsn.out];exact H_hb.out.set _
   ·exact H_ht.out.trans (Vg.touch_cell _ _)
 case done=>
  rintro D zs W hD rfl ⟨hb,ht⟩ hK
  have hc:=hb.cell
  have hnx:(s.evs a is).foldl min en=s.nxt a is en:=rfl
  rw[hnx]at hc
  have H_hb:=h_ hb;have H_ht:=h_ ht;have H_hK:=h_ hK;clear hb ht hK
  gi_wp2
  refine⟨by simp,.inl ⟨_,_,rfl,run_takeDeferred H_hK.out,?_⟩⟩
  have hU9:=H_ht.out.turnedZ (B:=WL.heap.size) (grownBy_putObj' W D (.deferred none)) (Nat.le_refl _) (fun r e=>by cases e;exact hD)
  exact⟨_,results_tmp rfl _ _ _,rfl,(Vg.Touch.of_grows (t:=fun _=>False) H_hgL.out).next hU9 (fun j hj=>by rw[hj];omega)⟩
 case stop=>
  rintro D pre W _ h _
  exact h.elim
theorem es_next(h:ES w xb lo A s N k OB)(hT:Vg.Tab w)(hlo:1<=lo)(hQ:Vg.Idle A.Q)(h01:s.rk=0\/s.rk=1){nx:Int}{is:Bool}{a:Int}(hn:Vg.NxV s.V nx is)(ha:(if is=true then Vg.wkA A.mn A.mx s.t0 nx else 0)=a)(hlf:0<=s.left/\s.left<=1099511627776)(en:Int):
  Calls Tryz.prog 28 #[.pointer (some ⟨xb,0,none⟩),.int .i64 en] w fun e w'=>e=.returned (.int .i64 (s.nxt a is en))/\Vg.Grows w w':=by
 refine((callsIn_wide (n:=4)).1 (exnext_in h hT hlo hQ h01 hn ha hlf en)).mono ?_
 rintro e w' ⟨rfl,ht⟩
 exact⟨rfl,ht.toGrows⟩
end
end Go.Proofs.YtlkdkgefjipjmaaGreatDoor
