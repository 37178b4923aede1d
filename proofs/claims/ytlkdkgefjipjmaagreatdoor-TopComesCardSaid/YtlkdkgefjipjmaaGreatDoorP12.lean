/- Step, StepA, ClockG, Svc (put together). -/
import Derived.Test.YtlkdkgefjipjmaaGreatDoorP11
import Derived.Test.YtlkdkgefjipjmaaGreatDoorQ0
import Derived.Test.YtlkdkgefjipjmaaGreatDoorP10
set_option linter.all false
set_option maxHeartbeats 40000000
set_option maxRecDepth 100000
namespace Vg
open Go Go.RowKit
structure Ck where
 c:Int
 n:Int
 a:Bool
 l:Bool
 t:Int
def ckRound(k:Ck)(x:Int):Ck:=
 if(ckNow (advance ⟨k.c,k.n,k.a,k.l⟩ x).1.count k.t).2=0 then⟨(advance ⟨k.c,k.n,k.a,k.l⟩ x).1.count,(advance ⟨k.c,k.n,k.a,k.l⟩ x).1.compare,(advance ⟨k.c,k.n,k.a,k.l⟩ x).1.armed,(advance ⟨k.c,k.n,k.a,k.l⟩ x).1.latch,(ckNow (advance ⟨k.c,k.n,k.a,k.l⟩ x).1.count k.t).1⟩else⟨0,0,false,false,0⟩
def ckGo(k:Ck):List Part->Ck
 | []=>k
 | x::l=>ckGo (ckRound k x.1) l
theorem ckGo_snoc:∀(l:List Part)(k:Ck)(x:Part),ckGo k (l ++ [x])=ckRound (ckGo k l) x.1
 | [],k,x=>rfl
 | y::l,k,x=>ckGo_snoc l (ckRound k y.1) x
theorem adv_count{h:Hw}{x:Int}(hc:0<=h.count/\h.count<=4294967295):0<=(advance h x).1.count/\(advance h x).1.count<=4294967295:=by
 unfold advance
 split
 ·exact hc
 ·split
  ·show 0<=(h.count+x)%4294967296/\(h.count+x)%4294967296<=4294967295;omega
  ·show 0<=(h.count+x)%4294967296/\(h.count+x)%4294967296<=4294967295;omega
theorem ckRound_bd{k:Ck}{x:Int}(h:0<=k.c/\k.c<=4294967295):0<=(ckRound k x).c/\(ckRound k x).c<=4294967295:=by
 unfold ckRound
 split
 ·exact adv_count h
 ·show(0:Int)<=0/\(0:Int)<=4294967295;omega
theorem ckGo_bd:∀{l:List Part}{k:Ck},0<=k.c/\k.c<=4294967295->0<=(ckGo k l).c/\(ckGo k l).c<=4294967295
 | [],k,h=>h
 | x::l,k,h=>ckGo_bd (l:=l) (ckRound_bd h)
def ckOf(h:Hw)(t:Int):Ck:=⟨h.count,h.compare,h.armed,h.latch,t⟩
theorem ckNow_add{c t k:Int}(ht:0<=t)(hk:0<=k/\k<=1073741824)(hm:t+k<=4503599627370496)(hc:c=(low t+k)%4294967296):ckNow c t=(t+k,0):=by
 have e:extend t c=(t+k,0):=by
  have a:timeB t=true:=timeB_true.2 ⟨by omega,by omega⟩
  have b:timeB (t+k)=true:=timeB_true.2 ⟨by omega,by omega⟩
  have e1:t+(c-low t)%4294967296=t+k:=by unfold low at hc ⊢;omega
  unfold extend
  rw[a,e1,b]
  rfl
 unfold ckNow
 rw[e,if_neg (by simp;omega)]
theorem ckRound_go(h:Hw){t k:Int}(ht:0<=t)(hk:0<=k/\k<=1073741824)(hm:t+k<=4503599627370496)(hc:h.count=low t):ckRound (ckOf h t) k=ckOf (go h k) (t+k):=by
 have e:=ckNow_add (c:=(h.count+k)%4294967296) ht hk hm (by rw[hc])
 have ha:=advance_ok h k hk.1 (by omega)
 show(if(ckNow (advance h k).1.count t).2=0 then(⟨(advance h k).1.count,(advance h k).1.compare,(advance h k).1.armed,(advance h k).1.latch,(ckNow (advance h k).1.count t).1⟩:Ck)else⟨0,0,false,false,0⟩)=_
 rw[ha]
 show(if(ckNow ((h.count+k)%4294967296) t).2=0 then(⟨(go h k).count,(go h k).compare,(go h k).armed,(go h k).latch,(ckNow ((h.count+k)%4294967296) t).1⟩:Ck)else⟨0,0,false,false,0⟩)=_
 rw[e,if_pos rfl]
 rfl
theorem psum_nn:∀l:List Part,0<=psum l
 | []=>by unfold psum;omega
 | x::l=>by have:=psum_nn l;have:=x.2;unfold psum;omega
theorem ckGo_go:∀(l:List Part)(h:Hw){t:Int},0<=t->t+psum l<=4503599627370496->h.count=low t->(0<=h.count/\h.count<=4294967295)->ckGo (ckOf h t) l=ckOf (go h (psum l)) (t+psum l)
 | [],h,t,ht,hm,hc,hb=>by
  simp only[ckGo,psum]
  rw[go_zero h hb.1 hb.2,Int.add_zero]
 | x::l,h,t,ht,hm,hc,hb=>by
  have hl:=psum_nn l
  have hx:=x.2
  simp only[psum]at hm
  show ckGo (ckRound (ckOf h t) x.1) l=_
  rw[ckRound_go h ht ⟨by omega,by omega⟩ (by omega) hc,ckGo_go l (go h x.1) (by omega) (by omega) ?_ (go_count_bd h x.1),go_go h x.1 (psum l) (by omega) hl]
  ·simp only[psum];rw[Int.add_assoc]
  ·simp only[go_def];rw[hc];unfold low;omega
theorem below_put{n b:Nat}{W:World}(o:Obj)(x:Array Obj)(m:Nat)(hb:n<=b)(hn:n<=W.heap.size):Below n W (plus (put W b o) x m):=
 ⟨rfl,rfl,rfl,by rw[plus_size,put_size];omega,fun k hk=>by
  rw[plus_heap (by rw[put_size];omega),put_heap_other (by omega)]⟩
theorem below_put0{n b:Nat}{W:World}(o:Obj)(hb:n<=b)(hn:n<=W.heap.size):Below n W (put W b o):=
 ⟨rfl,rfl,rfl,by rw[put_size];omega,fun k hk=>by rw[put_heap_other (by omega)]⟩
theorem keeps_put{b:Nat}{W:World}{o o':Obj}(x:Array Obj)(m:Nat)(h:blk W b=some o)(hc:o.isCells=true):KeepsOthers W (plus (put W b o') x m):=
 ⟨by rw[plus_size,put_size];omega,fun k u hk hu=>by
  have hl:k<W.heap.size:=(Array.getElem?_eq_some_iff.1 hk).1
  have hne:b≠k:=fun e=>by
   subst e
   have:some o=some u:=h.symm.trans hk
   cases this
   rw[hc]at hu;cases hu
  rw[plus_heap (by rw[put_size];exact hl),put_heap_other hne,hk]⟩
theorem blk_own{β:Type}{B b:Nat}{f:β->Obj}(hf:∀s,(f s).isCells=true):OwnFrom B (fun(s:β) W=>blk W b=some (f s)):=fun s A C row hs hg hr=>by
 have hl:=lt_of hs
 refine(hg.block b hl (fun e=>?_)).trans hs
 obtain⟨_,o,ho,hcc⟩:=hr b e.symm
 have:some (f s)=some o:=hs.symm.trans ho
 cases this
 rw[hf s]at hcc;cases hcc
end Vg
namespace Go.Proofs.YtlkdkgefjipjmaaGreatDoor
open Go.ChangeShapes Go.WideShapes Go.ChangeAt Go.RowKit Go.Shelf
attribute [local go_sem] Oper.semAt_some
abbrev ckO(k:Vg.Ck):Obj:=.cells #[.int .u32 k.c,.int .u32 k.n,.bool k.a,.bool k.l,.int .i64 k.t] 128
theorem step_in (c n:Int) (ar la:Bool) (last m t:Int) (w:World) (hc:0<=c/\c<=4294967295) (hx:Vg.ckNow c last=(t,0)) (h0:0<=m) (h1:m<=4503599627370496-t) (ht:0<=t/\t<=4503599627370496) :
  CallsIn Fence.wide 3 Tryz.prog 61 #[ckV c n ar la last,.int .i64 m] w fun e w'=>∃xs:List Vg.Part,Vg.psum xs=m/\e=.returned (.tuple #[ckV (Vg.ckGo ⟨c,n,ar,la,t⟩ xs).c (Vg.ckGo ⟨c,n,ar,la,t⟩ xs).n (Vg.ckGo ⟨c,n,ar,la,t⟩ xs).a (Vg.ckGo ⟨c,n,ar,la,t⟩ xs).l (Vg.ckGo ⟨c,n,ar,la,t⟩ xs).t,.int .i64 0])/\Vg.Grows w w':=by
 have HX:=h_ hx
 clear hx
 have hro:Fence.wide.round=none:=rfl
 refine callsIn_of_wp_marks Tryz.func61 rfl trivial ?_ rfl
 simp only[Tryz.ntmps61,List.size_toArray,List.length_cons,List.length_nil,Nat.reduceAdd,Nat.reduceSub,Array.replicate_succ,Array.replicate_zero,List.push_toArray,List.append_toArray,List.nil_append,List.cons_append]
 gi_wp2_with (first|(refine⟨trivial,?_⟩;gi_at_call 106;refine(callsIn_wide.2 (clock_now c n ar la last _ hc)).mono ?_;rintro e w1 ⟨rfl,x1,n1,rfl⟩;rw[HX.out])|(refine⟨trivial,?_⟩;gi_at_call 107;refine(callsIn_wide.2 (clock_parts m _)).mono ?_;rintro e w1 ⟨rfl,rfl⟩))
 obtain⟨bc,hbc⟩:∃b,w.heap.size=b:=⟨_,rfl⟩
 obtain⟨br,hbr⟩:∃b,w.heap.size+1=b:=⟨_,rfl⟩
 obtain⟨bm,hbm⟩:∃b,w.heap.size+1+1+Vg.sz x1=b:=⟨_,rfl⟩
 obtain⟨W0,hW0⟩:∃W0,(Vg.plus ((w.alloc (.cells #[.int .u32 c,.int .u32 n,.bool ar,.bool la,.int .i64 t] 128)).alloc (.cells #[.int .u32 0,.int .u32 0,.bool false,.bool false,.int .i64 0] 128)) x1 n1).alloc (.cells #[.int .i64 m] 2)=W0:=⟨_,rfl⟩
 have b1:Vg.blk W0 bc=some (ckO ⟨c,n,ar,la,t⟩):=by rw[<-hW0,<-hbc];simp[go_sem]
 have b2:Vg.blk W0 br=some (ckO ⟨0,0,false,false,0⟩):=by rw[<-hW0,<-hbr];simp[go_sem]
 have b3:Vg.blk W0 bm=some (.cells #[.int .i64 m] 2):=by rw[<-hW0,<-hbm];simp[go_sem]
 have hgr:Vg.Grows w W0:=by rw[<-hW0];exact Vg.gro
 have hB0:=hgr.below
 have n1':w.heap.size<=bc/\w.heap.size<=br:=by omega
 have n2':bc≠br:=by omega
 have n3':br≠bc:=by omega
 rw[hW0,hbm,hbr,hbc]
 have cm:=Vg.cells_of b3 0
 have lm:=Vg.lt_of b3
 have HB0:=h_ hB0
 have H_hbc:=h_ hbc;have H_hbr:=h_ hbr;have H_hbm:=h_ hbm;have H_hW0:=h_ hW0;have H_b1:=h_ b1;have H_b2:=h_ b2;have H_b3:=h_ b3;clear hbc hbr hbm hW0 b1 b2 b3
 clear hB0
 refine wpIn_rangeFunc_ownF hro (by omega) (gf:=172) (lb:=#[.pointer (some ⟨bm,0,none⟩)]) rfl trivial (enters_of Tryz.func172 (by kernel_rfl) rfl)
  (parts_stops w.heap.size (3-1) (by omega) bm m h0 (by omega) W0 lm (by simpa using cm)) belowK_t (belowK_b hgr.size) (Below.refl _ _) (fun _=>rfl)
  (fun pre W=>(Vg.blk W bc=some (ckO (Vg.ckGo ⟨c,n,ar,la,t⟩ pre))/\Vg.blk W br=some (ckO ⟨0,0,false,false,0⟩))/\Below w.heap.size w W)
  (fun _ _ _=>False)
  (OwnFrom.and (OwnFrom.and (Vg.blk_own (fun _=>rfl)) (Vg.blk_own (f:=fun _=>ckO ⟨0,0,false,false,0⟩) (fun _=>rfl))) (ownFrom_below (Nat.le_refl _) hgr.size))
  (fun _ _ _ _ _ hs _ _=>hs)
  ⟨⟨H_b1.out,H_b2.out⟩,HB0.out⟩
  (fun x=>{ tmps:=#[ckV c n ar la last,.int .i64 m,.pointer (some ⟨bc,0,none⟩),undef,.pointer (some ⟨br,0,none⟩),.int .i64 0,.int .i64 t,.int .i64 0,.int .u32 x.1,.tuple #[.int .i64 t,.int .i64 0],.agg #[.int .u32 c,.int .u32 n,.bool ar,.bool la,.int .i64 last],.tuple #[.int .i64 t,.int .i64 0],.int .i64 t,.int .i64 0,.bool false,.int .i64 0,.bool false,undef,undef,.bool (decide (m<0)),.int .i64 m,.bool (decide (m<0)),undef,.bool (decide (4503599627370496-t<m)),.int .i64 m,.int .i64 t,.int .i64 (4503599627370496-t),.bool (decide (4503599627370496-t<m)),undef,.int .i64 t,.pointer (some ⟨bc,4,none⟩),.int .i64 m,.func (.func 172) #[] #[.pointer (some ⟨bm,0,none⟩)],.int .u32 x.1,undef,undef,undef,undef,undef,undef,undef,undef,undef,undef,undef,undef,undef,undef,undef],defers:=[] }) ?assign ?body ?done ?stop
 case assign=>
  intro l x W K hK
  gi_wp2
  exact hK
 case body=>
  rintro l pre x W ⟨⟨d1,d2⟩,hB⟩ _
  have hkb:=Vg.ckGo_bd (l:=pre) (k:=⟨c,n,ar,la,t⟩) hc
  have hsn:=Vg.ckGo_snoc pre ⟨c,n,ar,la,t⟩ x
  generalize Vg.ckGo ⟨c,n,ar,la,t⟩ pre=k at d1 hkb hsn
  obtain⟨kc,kn,ka,kl,kt⟩:=k
  obtain⟨⟨⟨c1,m1,a1,l1⟩,no⟩,hadv⟩:∃p,Vg.advance ⟨kc,kn,ka,kl⟩ x.1=p:=⟨_,rfl⟩
  have hcb:=Vg.adv_count (h:=⟨kc,kn,ka,kl⟩) (x:=x.1) hkb
  unfold Vg.ckRound at hsn
  rw[hadv]at hcb hsn
  simp only[]at hcb hsn
  have hB1:=hB
  have hsz:=hB.size
  by_cases hrd:(Vg.ckNow c1 kt).2=0
  ·rw[if_pos hrd]at hsn
   have hre:(if(Vg.ckNow c1 kt).2=0 then Value.tuple #[ckV c1 m1 a1 l1 (Vg.ckNow c1 kt).1,.int .i64 (Vg.ckNow c1 kt).1,.int .i64 0]else .tuple #[ckV 0 0 false false 0,.int .i64 0,.int .i64 2])=.tuple #[ckV c1 m1 a1 l1 (Vg.ckNow c1 kt).1,.int .i64 (Vg.ckNow c1 kt).1,.int .i64 0]:=if_pos hrd
   obtain⟨c_d1,f_d1,p_d1,l_d1,H_d1⟩:=Vg.lay d1;clear d1;obtain⟨c_d2,f_d2,p_d2,l_d2,H_d2⟩:=Vg.lay d2;clear d2
   have H_hadv:=h_ hadv;have H_hsn:=h_ hsn;have H_hre:=h_ hre;have H_hB1:=h_ hB1;clear hadv hsn hre hB1
   clear hB hrd
   gi_wp2_with (first|(refine⟨trivial,?_⟩;gi_at_call 108;refine(CallsIn.inRound l (callsIn_wide.2 (hw_advance kc kn ka kl x.1 _))).mono ?_;rintro e w1 ⟨rfl,xa,na,rfl⟩;rw[H_hadv.out])|(refine⟨trivial,?_⟩;gi_at_call 109;refine(CallsIn.inRound l (callsIn_wide.2 (clock_read c1 m1 a1 l1 kt _ hcb))).mono ?_;rintro e w1 ⟨rfl,xb,nb,rfl⟩;rw[H_hre.out]))
   refine⟨Vg.keeps_put _ _ H_d1.out rfl,Vg.below_put _ _ _ n1'.1 hsz,⟨?_,?_⟩,H_hB1.out.trans (Vg.below_put _ _ _ n1'.1 hsz)⟩
   ·rw[H_hsn.out];go_simp
   ·go_simp;exact H_d2.out
  ·rw[if_neg hrd]at hsn
   have hre:(if(Vg.ckNow c1 kt).2=0 then Value.tuple #[ckV c1 m1 a1 l1 (Vg.ckNow c1 kt).1,.int .i64 (Vg.ckNow c1 kt).1,.int .i64 0]else .tuple #[ckV 0 0 false false 0,.int .i64 0,.int .i64 2])=.tuple #[ckV 0 0 false false 0,.int .i64 0,.int .i64 2]:=if_neg hrd
   obtain⟨c_d1,f_d1,p_d1,l_d1,H_d1⟩:=Vg.lay d1;clear d1;obtain⟨c_d2,f_d2,p_d2,l_d2,H_d2⟩:=Vg.lay d2;clear d2
   have H_hadv:=h_ hadv;have H_hsn:=h_ hsn;have H_hre:=h_ hre;have H_hB1:=h_ hB1;clear hadv hsn hre hB1
   clear hB hrd
   gi_wp2_with (first|(refine⟨trivial,?_⟩;gi_at_call 108;refine(CallsIn.inRound l (callsIn_wide.2 (hw_advance kc kn ka kl x.1 _))).mono ?_;rintro e w1 ⟨rfl,xa,na,rfl⟩;rw[H_hadv.out])|(refine⟨trivial,?_⟩;gi_at_call 109;refine(CallsIn.inRound l (callsIn_wide.2 (clock_read c1 m1 a1 l1 kt _ hcb))).mono ?_;rintro e w1 ⟨rfl,xb,nb,rfl⟩;rw[H_hre.out]))
   refine⟨Vg.keeps_put _ _ H_d1.out rfl,Vg.below_put _ _ _ n1'.1 hsz,⟨?_,?_⟩,H_hB1.out.trans (Vg.below_put _ _ _ n1'.1 hsz)⟩
   ·rw[H_hsn.out];go_simp
   ·go_simp;exact H_d2.out
 case done=>
  rintro D ys W hD hys ⟨⟨d1,d2⟩,hB⟩ hK
  have hsz:=hB.size
  have hbrD:br≠D:=fun e=>by
   subst e
   have:some _=some _:=d2.symm.trans hK
   cases this
  have HYS:=h_ hys
  clear hys
  generalize hk:Vg.ckGo ⟨c,n,ar,la,t⟩ ys=k at d1
  have HK:=h_ hk
  clear hk
  obtain⟨kc,kn,ka,kl,kt⟩:=k
  have HKK:=h_ hK
  have hB1:=hB
  clear hK hB
  obtain⟨c_d1,f_d1,p_d1,l_d1,H_d1⟩:=Vg.lay d1;clear d1;obtain⟨c_d2,f_d2,p_d2,l_d2,H_d2⟩:=Vg.lay d2;clear d2
  have H_hB1:=h_ hB1;clear hB1
  gi_wp2
  have hK':(Vg.put W br (ckO ⟨kc,kn,ka,kl,kt⟩)).heap[D]? = some (.deferred (some [])):=(Vg.put_heap_other hbrD).trans HKK.out
  refine⟨by simp,.inl ⟨_,_,rfl,run_takeDeferred hK',?_⟩⟩
  have hputb:Vg.blk (Vg.put W br (ckO ⟨kc,kn,ka,kl,kt⟩)) br=some (ckO ⟨kc,kn,ka,kl,kt⟩):=Vg.blk_put_same (Vg.lt_of H_d2.out)
  have hD':w.heap.size<=D:=by have:=hgr.size;omega
  have hfin:Vg.blk ((Vg.put W br (ckO ⟨kc,kn,ka,kl,kt⟩)).putObj D (.deferred none)) br=some (ckO ⟨kc,kn,ka,kl,kt⟩):=OwnFrom.putObj (Vg.blk_own (β:=Unit) (f:=fun _=>ckO ⟨kc,kn,ka,kl,kt⟩) (fun _=>rfl)) (.deferred none) (s:=()) hputb hD' hK' rfl
  refine⟨.tuple #[ckV kc kn ka kl kt,.int .i64 0],?_,ys,HYS.out,by rw[HK.out],?_⟩
  ·obtain⟨WW,hWW⟩:∃WW,(Vg.put W br (ckO ⟨kc,kn,ka,kl,kt⟩)).putObj D (.deferred none)=WW:=⟨_,rfl⟩
   rw[hWW]at hfin
   simp only[hWW]
   have h0':=Vg.cells_of hfin 0
   have h1':=Vg.cells_of hfin 1
   have h2':=Vg.cells_of hfin 2
   have h3':=Vg.cells_of hfin 3
   have h4':=Vg.cells_of hfin 4
   simp at h0' h1' h2' h3' h4'
   simp[results,Tryz.f61,go_sem,h0',h1',h2',h3',h4']
  ·refine Vg.Grows.of_below (H_hB1.out.trans ((Vg.below_put0 _ n1'.2 hsz).trans (belowK_b (w:=w) (Nat.le_refl _) _ D _ _ hD' hK' rfl rfl)))
 case stop=>
  rintro D cc pre W _ _ h _
  exact h.elim
end Go.Proofs.YtlkdkgefjipjmaaGreatDoor
namespace Vg
open Go Go.RowKit
def ckStep(k:Ck)(m:Int):Ck×Int:=
 if(ckNow k.c k.t).2≠0 then(⟨0,0,false,false,0⟩,2)else
 if m<0 then(k,1)else
 if 4503599627370496-(ckNow k.c k.t).1<m then(k,6)else(ckOf (go ⟨k.c,k.n,k.a,k.l⟩ m) ((ckNow k.c k.t).1+m),0)
theorem ckNow_low{c last t:Int}(hc:0<=c/\c<=4294967295)(h:ckNow c last=(t,0)):c=low t:=by
 have:=ckNow_ok h
 unfold low at *
 omega
end Vg
namespace Go.Proofs.YtlkdkgefjipjmaaGreatDoor
open Go.ChangeShapes Go.WideShapes Go.ChangeAt Go.RowKit Go.Shelf
abbrev ckVk(k:Vg.Ck):Value:=ckV k.c k.n k.a k.l k.t
theorem clock_step (c n:Int) (ar la:Bool) (last m:Int) (w:World) (hc:0<=c/\c<=4294967295) :
  Calls Tryz.prog 61 #[ckV c n ar la last,.int .i64 m] w fun e w'=>e=.returned (.tuple #[ckVk (Vg.ckStep ⟨c,n,ar,la,last⟩ m).1,.int .i64 (Vg.ckStep ⟨c,n,ar,la,last⟩ m).2])/\Vg.Grows w w':=by
 obtain⟨⟨t,no⟩,hx⟩:∃p,Vg.ckNow c last=p:=⟨_,rfl⟩
 by_cases h:no=0
 ·subst h
  obtain⟨_,ht0,ht1,_⟩:=Vg.ckNow_ok hx
  have hlow:=Vg.ckNow_low hc hx
  by_cases h1:m<0
  ·have hv:Vg.ckStep ⟨c,n,ar,la,last⟩ m=(⟨c,n,ar,la,last⟩,1):=by unfold Vg.ckStep;rw[hx];simp[h1]
   rw[hv]
   have H_hx:=h_ hx;have H_hv:=h_ hv;have H_hlow:=h_ hlow;clear hx hv hlow
   go_enter Tryz.func61,Tryz.ntmps61
   go_wp2_with ((go_at_call 106;refine(clock_now c n ar la last _ hc).mono ?_;rintro e w1 ⟨rfl,xa,na,rfl⟩;rw[H_hx.out]))
   go_returns
   exact⟨rfl,Vg.gro⟩
  ·by_cases h2:4503599627370496-t<m
   ·have hv:Vg.ckStep ⟨c,n,ar,la,last⟩ m=(⟨c,n,ar,la,last⟩,6):=by unfold Vg.ckStep;rw[hx];simp[h1,h2]
    rw[hv]
    have H_hx:=h_ hx;have H_hv:=h_ hv;have H_hlow:=h_ hlow;clear hx hv hlow
    go_enter Tryz.func61,Tryz.ntmps61
    go_wp2_with ((go_at_call 106;refine(clock_now c n ar la last _ hc).mono ?_;rintro e w1 ⟨rfl,xa,na,rfl⟩;rw[H_hx.out]))
    go_returns
    exact⟨rfl,Vg.gro⟩
   ·have hv:Vg.ckStep ⟨c,n,ar,la,last⟩ m=(Vg.ckOf (Vg.go ⟨c,n,ar,la⟩ m) (t+m),0):=by unfold Vg.ckStep;rw[hx];simp[h1,h2]
    rw[hv]
    refine((callsIn_wide (n:=3)).1 (step_in c n ar la last m t w hc hx (by omega) (by omega) ⟨ht0,ht1⟩)).mono ?_
    rintro e w' ⟨xs,hs,rfl,hg⟩
    have hgo:=Vg.ckGo_go xs ⟨c,n,ar,la⟩ (t:=t) ht0 (by omega) hlow hc
    rw[show Vg.ckGo ⟨c,n,ar,la,t⟩ xs=_ from hgo,hs]
    exact⟨rfl,hg⟩
 ·have hx2:=Vg.ckNow_no (c:=c) (last:=last) (by rw[hx];exact h)
  have hv:Vg.ckStep ⟨c,n,ar,la,last⟩ m=(⟨0,0,false,false,0⟩,2):=by unfold Vg.ckStep;rw[hx2];simp
  rw[hv]
  clear hx h
  have H_hx2:=h_ hx2;have H_hv:=h_ hv;clear hx2 hv
  go_enter Tryz.func61,Tryz.ntmps61
  go_wp2_with ((go_at_call 106;refine(clock_now c n ar la last _ hc).mono ?_;rintro e w1 ⟨rfl,xa,na,rfl⟩;rw[H_hx2.out]))
  go_returns
  exact⟨rfl,Vg.gro⟩
end Go.Proofs.YtlkdkgefjipjmaaGreatDoor
namespace Vg
theorem ckStep_over{k:Ck}{m t:Int}(h:ckNow k.c k.t=(t,0))(h0:0<=m)(h1:4503599627370496-t<m):ckStep k m=(k,6):=by
 unfold ckStep;rw[h,if_neg (by simp),if_neg (by omega),if_pos h1]
theorem ckStep_ok{k:Ck}{m t:Int}(h:ckNow k.c k.t=(t,0))(h0:0<=m)(h1:m<=4503599627370496-t):ckStep k m=(ckOf (go ⟨k.c,k.n,k.a,k.l⟩ m) (t+m),0):=by
 unfold ckStep;rw[h,if_neg (by simp),if_neg (by omega),if_neg (by show ¬4503599627370496-t<m;omega)]
end Vg
namespace Vg
open Go
structure Sv where
 h:Hw
 t:Int
 ar:Bool
 goal:Int
 past:Bool
def wk0(mn mx t dl:Int):Int:=if dl-t<mn then t+mn else if dl-t<=mx then dl else min (t+mx) (dl-mn)
def restS(s:Sv):Sv:=⟨⟨s.h.count,s.h.compare,false,s.h.latch⟩,s.t,false,s.goal,false⟩
def armS(mn mx:Int)(s:Sv)(dl:Int):Sv:=
 if dl<=s.t then⟨⟨s.h.count,s.h.compare,false,s.h.latch⟩,s.t,true,dl,true⟩
 else if wk0 mn mx s.t dl<=4503599627370496 then⟨⟨s.h.count,low (wk0 mn mx s.t dl),true,s.h.latch⟩,s.t,true,dl,false⟩
 else⟨⟨s.h.count,0,true,s.h.latch⟩,s.t,true,dl,decide (s.t=4503599627370496)⟩
def lookS(mn mx:Int)(s:Sv)(next:Int)(is:Bool):Sv:=
 if is=false then restS s else if s.ar=true/\s.goal=next then s else armS mn mx s next
def wakeV(s:Sv):Int×Bool:=if s.ar=false then(0,false)else if s.past=true then(s.t,true)else if s.h.armed=true then(s.t+left s.h,true)else(s.t,true)
theorem wk0_rng{mn mx t dl:Int}(h:1<=mn/\mx<2147483648/\2*mn<=mx)(hd:t<dl):t<wk0 mn mx t dl/\wk0 mn mx t dl<=t+2147483647/\wk0 mn mx t dl<dl+mn:=by
 unfold wk0;(repeat' split)<;>omega
theorem Touch.tabS{t:Nat->Prop}{w w':World}(h:Touch t w w')(hT:Tab w)(h0:¬t 0):Tab w':=fun j hj=>
 (World.cell?_of_block (w:=w) (h.block 0 (World.block_lt_of_cell? w _ (hT 0 (by decide))) h0)).trans (hT j hj)
end Vg
namespace Go.Proofs.YtlkdkgefjipjmaaGreatDoor
open Go.ChangeShapes Go.WideShapes Go.ChangeAt Go.RowKit
abbrev svcC(mn mx:Int)(s:Vg.Sv)(tb:Nat):Obj:=.cells #[.int .i64 mn,.int .i64 mx,.int .u32 s.h.count,.int .u32 s.h.compare,.bool s.h.armed,.bool s.h.latch,.int .i64 s.t,.pointer (some ⟨tb,0,none⟩),.bool s.ar,.int .i64 s.goal,.bool s.past] 132
section
variable {c n last mn mx dl:Int}{ar la:Bool}
theorem arm_past (w:World) (hm:1<=mn/\mx<2147483648/\2*mn<=mx) (hc:c=Vg.low last) (ht:0<=last/\last<=4503599627370496) (hd:0<=dl/\dl<=4503599627370496) (h:dl<=last) :
  Calls Tryz.prog 147 #[ckV c n ar la last,tmV mn mx,.int .i64 dl] w fun e w'=>e=.returned (.tuple #[ckV c n false la last,.int .u8 1,.int .i64 0])/\Vg.Grows w w':=by
 have hnow:Vg.ckNow c last=(last,0):=by have:=Vg.ckNow_add (c:=c) (t:=last) (k:=0) ht.1 (by omega) (by omega) (by rw[hc];unfold Vg.low;omega);rwa [Int.add_zero]at this
 have hp:Vg.plan mn mx last dl=(1,last,0):=by
  rw[Vg.plan_ok (Vg.tmB_true.2 hm) (Vg.timeB_true.2 ht) (Vg.timeB_true.2 hd)]
  have ha:Vg.aim mn mx last dl=(1,last):=by unfold Vg.aim;rw[if_pos (by omega)]
  rw[ha,if_pos (Vg.timeB_true.2 ht)]
 have hv:armV c n ar la last mn mx dl=.tuple #[ckV c n false la last,.int .u8 1,.int .i64 0]:=by unfold armV;rw[hnow];simp only[if_true];rw[hp];simp
 have h9:=shot_arm c n ar la last mn mx dl w (by rw[hc];unfold Vg.low;omega) (by omega)
 rwa [hv]at h9
theorem arm_at (w:World) (hm:1<=mn/\mx<2147483648/\2*mn<=mx) (hc:c=Vg.low last) (ht:0<=last/\last<=4503599627370496) (hd:0<=dl/\dl<=4503599627370496) (h:last<dl) (hw:Vg.wk0 mn mx last dl<=4503599627370496) :
  ∃k,2<=k/\k<=4/\Calls Tryz.prog 147 #[ckV c n ar la last,tmV mn mx,.int .i64 dl] w fun e w'=>e=.returned (.tuple #[ckV c (Vg.low (Vg.wk0 mn mx last dl)) true la last,.int .u8 k,.int .i64 0])/\Vg.Grows w w':=by
 have hnow:Vg.ckNow c last=(last,0):=by have:=Vg.ckNow_add (c:=c) (t:=last) (k:=0) ht.1 (by omega) (by omega) (by rw[hc];unfold Vg.low;omega);rwa [Int.add_zero]at this
 obtain⟨k,hk2,hk4,ha⟩:∃k,2<=k/\k<=4/\Vg.aim mn mx last dl=(k,Vg.wk0 mn mx last dl):=by
  unfold Vg.aim Vg.wk0
  rw[if_neg (by omega)]
  by_cases h1:dl-last<mn
  ·exact⟨2,by omega,by omega,by rw[if_pos h1,if_pos h1]⟩
  ·by_cases h2:dl-last<=mx
   ·exact⟨3,by omega,by omega,by rw[if_neg h1,if_neg h1,if_pos h2,if_pos h2]⟩
   ·exact⟨4,by omega,by omega,by rw[if_neg h1,if_neg h1,if_neg h2,if_neg h2]⟩
 have h0:=(Vg.wk0_rng hm h).1
 have hp:Vg.plan mn mx last dl=(k,Vg.wk0 mn mx last dl,0):=by
  rw[Vg.plan_ok (Vg.tmB_true.2 hm) (Vg.timeB_true.2 ht) (Vg.timeB_true.2 hd),ha,if_pos (Vg.timeB_true.2 ⟨by show 0<=Vg.wk0 _ _ _ _;omega,hw⟩)]
 have hv:armV c n ar la last mn mx dl=.tuple #[ckV c (Vg.low (Vg.wk0 mn mx last dl)) true la last,.int .u8 k,.int .i64 0]:=by
  unfold armV;rw[hnow];simp only[if_true];rw[hp]
  simp only[if_true]
  rw[if_neg (by omega)]
 have h9:=shot_arm c n ar la last mn mx dl w (by rw[hc];unfold Vg.low;omega) (by omega)
 rw[hv]at h9
 exact⟨k,hk2,hk4,h9⟩
theorem arm_end (w:World) (hm:1<=mn/\mx<2147483648/\2*mn<=mx) (hc:c=Vg.low last) (ht:0<=last/\last<=4503599627370496) (hd:0<=dl/\dl<=4503599627370496) (h:last<dl) (hw:4503599627370496<Vg.wk0 mn mx last dl) :
  Calls Tryz.prog 147 #[ckV c n ar la last,tmV mn mx,.int .i64 dl] w fun e w'=>e=.returned (.tuple #[ckV 0 0 false false 0,.int .u8 0,.int .i64 6])/\Vg.Grows w w':=by
 have hnow:Vg.ckNow c last=(last,0):=by have:=Vg.ckNow_add (c:=c) (t:=last) (k:=0) ht.1 (by omega) (by omega) (by rw[hc];unfold Vg.low;omega);rwa [Int.add_zero]at this
 obtain⟨k,ha⟩:∃k,Vg.aim mn mx last dl=(k,Vg.wk0 mn mx last dl):=by
  unfold Vg.aim Vg.wk0
  rw[if_neg (by omega)]
  by_cases h1:dl-last<mn
  ·exact⟨2,by rw[if_pos h1,if_pos h1]⟩
  ·by_cases h2:dl-last<=mx
   ·exact⟨3,by rw[if_neg h1,if_neg h1,if_pos h2,if_pos h2]⟩
   ·exact⟨4,by rw[if_neg h1,if_neg h1,if_neg h2,if_neg h2]⟩
 have hp:Vg.plan mn mx last dl=(0,0,6):=by
  rw[Vg.plan_ok (Vg.tmB_true.2 hm) (Vg.timeB_true.2 ht) (Vg.timeB_true.2 hd),ha,if_neg (by intro h9;have:=(Vg.timeB_true.1 h9).2;omega)]
 have hv:armV c n ar la last mn mx dl=.tuple #[ckV 0 0 false false 0,.int .u8 0,.int .i64 6]:=by
  unfold armV;rw[hnow];simp only[if_true];rw[hp]
  simp
 have h9:=shot_arm c n ar la last mn mx dl w (by rw[hc];unfold Vg.low;omega) (by omega)
 rwa [hv]at h9
end
section
variable {w w0 w':World}{sb tb:Nat}{s:Vg.Sv}{mn mx:Int}
theorem svc_now(h:Vg.blk w sb=some (svcC mn mx s tb)):Calls Tryz.prog 26 #[.pointer (some ⟨sb,0,none⟩)] w fun e w'=>e=.returned (.int .i64 s.t)/\w=w':=by
 obtain⟨c_h,f_h,p_h,l_h,H_h⟩:=Vg.lay h;clear h
 go_enter Tryz.func26,Tryz.ntmps26
 go_wp2
 go_ret
 exact⟨rfl,rfl⟩
theorem svc_now_c{t:Int}(c6:w.cell? ⟨sb,6,none⟩=some (.int .i64 t)):Calls Tryz.prog 26 #[.pointer (some ⟨sb,0,none⟩)] w fun e w'=>e=.returned (.int .i64 t)/\w=w':=by
 go_enter Tryz.func26,Tryz.ntmps26
 go_wp2
 go_ret
 exact⟨rfl,rfl⟩
theorem svc_last(w:World):Calls Tryz.prog 149 #[] w fun e w'=>e=.returned (.int .u32 0)/\w=w':=by
 go_enter Tryz.func149,Tryz.ntmps149
 go_wp2
 go_ret
 exact⟨rfl,rfl⟩
theorem svc_wake(h:Vg.blk w sb=some (svcC mn mx s tb))(ht:0<=s.t/\s.t<=4503599627370496){a:Int}{is:Bool}(hr:Vg.wakeV s=(a,is)):
  Calls Tryz.prog 27 #[.pointer (some ⟨sb,0,none⟩)] w fun e w'=>e=.returned (.tuple #[.int .i64 a,.bool is])/\Vg.Grows w w':=by
 have hnk:∀wz,Vg.Grows w wz->Calls Tryz.prog 26 #[.pointer (some ⟨sb,0,none⟩)] wz fun e w'=>e=.returned (.int .i64 s.t)/\wz=w':=fun wz hg=>svc_now (hg.blk h)
 have hb:=Vg.ahead_bd s.h
 obtain⟨⟨c,n,ha,la⟩,t,ar,goal,past⟩:=s
 obtain⟨ht0,ht1⟩:=ht
 unfold Vg.wakeV at hr
 simp only at hr ht0 ht1 h hnk
 have hlk:=hw_left c n ha la w
 cases ar with
 | false=>
  simp only[if_true,Prod.mk.injEq]at hr
  obtain⟨rfl,rfl⟩:=hr
  obtain⟨c_h,f_h,p_h,l_h,H_h⟩:=Vg.lay h;clear h
  have H_hnk:=h_ hnk;have H_hlk:=h_ hlk;clear hnk hlk
  go_enter Tryz.func27,Tryz.ntmps27
  go_wp2_with ((go_at_call 53;(with_reducible refine(H_hlk.out).mono ?_);rintro e w1 ⟨rfl,x1,n1,rfl⟩))
  go_ret2
  exact⟨rfl,Vg.gro⟩
 | true=>
  simp only[Bool.true_eq_false,if_false]at hr
  cases past with
  | true=>
   simp only[if_true,Prod.mk.injEq]at hr
   obtain⟨rfl,rfl⟩:=hr
   obtain⟨c_h,f_h,p_h,l_h,H_h⟩:=Vg.lay h;clear h
   have H_hnk:=h_ hnk;have H_hlk:=h_ hlk;clear hnk hlk
   go_enter Tryz.func27,Tryz.ntmps27
   go_wp2_with (first|(go_at_call 53;(with_reducible refine(H_hlk.out).mono ?_);rintro e w1 ⟨rfl,x1,n1,rfl⟩)|(go_at_call 26;(with_reducible refine(H_hnk.out _ (Vg.gro)).mono ?_);rintro e w2 ⟨rfl,rfl⟩))
   go_ret2
   exact⟨rfl,Vg.gro⟩
  | false=>
   simp only[Bool.false_eq_true,if_false]at hr
   cases ha with
   | true=>
    simp only[if_true,Prod.mk.injEq]at hr
    obtain⟨rfl,rfl⟩:=hr
    have hlv:Vg.left ⟨c,n,true,la⟩=Vg.ahead ⟨c,n,true,la⟩+1:=by unfold Vg.left;simp
    obtain⟨v,hv⟩:∃v,Vg.left ⟨c,n,true,la⟩=v:=⟨_,rfl⟩
    rw[hv]at hlk hlv ⊢
    obtain⟨hb20,hb21⟩:0<=v/\v<=4294967296:=by simp only at hb;omega
    clear hlv
    have hw9:IntKind.i64.wrap (t+v)=t+v:=by rw[IntKind.wrap_i64];omega
    obtain⟨c_h,f_h,p_h,l_h,H_h⟩:=Vg.lay h;clear h
    have H_hnk:=h_ hnk;have H_hlk:=h_ hlk;have H_hv:=h_ hv;clear hnk hlk hv
    go_enter Tryz.func27,Tryz.ntmps27
    go_wp2_with (first|(go_at_call 53;(with_reducible refine(H_hlk.out).mono ?_);rintro e w1 ⟨rfl,x1,n1,rfl⟩)|(go_at_call 26;(with_reducible refine(H_hnk.out _ (Vg.gro)).mono ?_);rintro e w2 ⟨rfl,rfl⟩))
    go_ret2
    exact⟨rfl,Vg.gro⟩
   | false=>
    simp only[Bool.false_eq_true,if_false,Prod.mk.injEq]at hr
    obtain⟨rfl,rfl⟩:=hr
    obtain⟨c_h,f_h,p_h,l_h,H_h⟩:=Vg.lay h;clear h
    have H_hnk:=h_ hnk;have H_hlk:=h_ hlk;clear hnk hlk
    go_enter Tryz.func27,Tryz.ntmps27
    go_wp2_with (first|(go_at_call 53;(with_reducible refine(H_hlk.out).mono ?_);rintro e w1 ⟨rfl,x1,n1,rfl⟩)|(go_at_call 26;(with_reducible refine(H_hnk.out _ (Vg.gro)).mono ?_);rintro e w2 ⟨rfl,rfl⟩))
    go_ret2
    exact⟨rfl,Vg.gro⟩
def SW(w w':World)(sb:Nat)(o:Obj):Prop:=Vg.blk w' sb=some o/\Vg.Touch (fun k=>k=sb) w w'
theorem SW.mk0{o:Obj}(hb:sb<w.heap.size):SW w (Vg.put w sb o) sb o:=⟨Vg.blk_put_same hb,Vg.Touch.put (t:=fun k=>k=sb) (Vg.Touch.refl _ w) rfl _⟩
theorem SW.grows{o:Obj}(h:SW w0 w sb o)(hg:Vg.Grows w w'):SW w0 w' sb o:=⟨hg.blk h.1,h.2.trans (Vg.Touch.of_grows hg)⟩
theorem SW.trans{w2:World}{o o':Obj}(h:SW w0 w sb o)(h2:SW w w2 sb o'):SW w0 w2 sb o':=⟨h2.1,h.2.trans h2.2⟩
theorem SW.pre{o:Obj}(hg:Vg.Grows w0 w)(h:SW w w' sb o):SW w0 w' sb o:=⟨h.1,(Vg.Touch.of_grows hg).trans h.2⟩
theorem svc_rest(h:Vg.blk w sb=some (svcC mn mx s tb)):
  Calls Tryz.prog 112 #[.pointer (some ⟨sb,0,none⟩)] w fun e w'=>e=.returned (.tuple #[])/\SW w w' sb (svcC mn mx (Vg.restS s) tb):=by
 obtain⟨⟨c,n,ha,la⟩,t,ar,goal,past⟩:=s
 have hdk:=hw_disarm c n ha la
 obtain⟨c_h,f_h,p_h,l_h,H_h⟩:=Vg.lay h;clear h
 have H_hdk:=h_ hdk;clear hdk
 go_enter Tryz.func112,Tryz.ntmps112
 go_wp2_with ((go_at_call 176;(with_reducible refine(H_hdk.out _).mono ?_);rintro e w1 ⟨rfl,x1,n1,rfl⟩))
 go_returns
 exact⟨rfl,SW.grows (w:=Vg.put w sb (svcC mn mx (Vg.restS ⟨⟨c,n,ha,la⟩,t,ar,goal,past⟩) tb)) (SW.mk0 l_h) ((Vg.Grows.refl _).plus x1 n1)⟩
end
end Go.Proofs.YtlkdkgefjipjmaaGreatDoor
