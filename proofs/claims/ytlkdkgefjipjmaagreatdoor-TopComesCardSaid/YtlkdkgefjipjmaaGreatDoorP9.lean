/- WheelO, WheelV, WheelW (put together). -/
import Derived.Test.YtlkdkgefjipjmaaGreatDoorP7
import Derived.Test.YtlkdkgefjipjmaaGreatDoorP8
import Derived.Laws.ResultCell
import Derived.BigRegionIn
import Derived.Test.YtlkdkgefjipjmaaGreatDoorQ0
set_option linter.all false
set_option maxHeartbeats 40000000
set_option maxRecDepth 100000
namespace Vg
open Go
theorem ownFrom_ex{β γ:Type}{B:Nat}{I:γ->β->World->Prop}(h:∀g,OwnFrom B (I g)):OwnFrom B (fun s W=>∃g,I g s W):=fun s W W' row ⟨g,hs⟩ hg hr=>⟨g,h g s W W' row hs hg hr⟩
theorem ownFrom_blk{β:Type}{B k:Nat}(o:Obj)(hk:k<B):OwnFrom (β:=β) B (fun _ W=>Vg.blk W k=some o):=fun s W W' row hs hg hr=>(hg.block k (Vg.lt_of hs) (fun e=>by have:=(hr k e.symm).1;omega)).trans hs
end Vg
namespace Vg
open Go Go.RowKit
def isM{n:Nat}(f:Nat)(pre:List (En n))(m:Nat):Prop:=m=f\/m∈pre.map (·.1)
theorem ownFrom_constW{β:Type}{B:Nat}(p:β->Prop):OwnFrom B (fun s _=>p s):=fun s W W' row hs _ _=>hs
theorem Touch.grownW{t:Nat->Prop}{w w' w'':World}{D:Nat}(h:Touch t w w')(hg:w'.grownBy w'' (some D))(hD:t D):Touch t w w'':=
 ⟨hg.os.trans h.os,hg.tape.trans h.tape,hg.output.trans h.output,Nat.le_trans h.size hg.size,fun k hk ht=>(hg.block k (Nat.lt_of_lt_of_le hk h.size) (fun e=>by cases e;exact ht hD)).trans (h.block k hk ht)⟩
theorem Touch.setC{t:Nat->Prop}{w w':World}(h:Touch t w w'){b i:Nat}(hb:t b)(v:Value):Touch t w (w'.setCell ⟨b,i,none⟩ v):=
 ⟨h.os,h.tape,h.output,by rw[World.size_setCell];exact h.size,fun k hk ht=>(Below.heap_setCell _ _ _ k (fun e=>ht (e ▸ hb))).trans (h.block k hk ht)⟩
theorem keeps_touchW{t:Nat->Prop}{B:Nat}{W W':World}(ht:Vg.Touch t W W')(hb:∀k,t k->k<B):KeepsFrom B W W':=
 ⟨ht.size,fun k o hk ho _=>(ht.block k (Array.getElem?_eq_some_iff.1 ho).1 (fun hh=>by have:=hb k hh;omega)).trans ho⟩
theorem kept_touchW{t S:Nat->Prop}{W W':World}(ht:Vg.Touch t W W')(hS:∀k,S k->k<W.heap.size/\¬t k):Vg.Kept S W W':=
 ⟨ht.size,fun k hk=>ht.block k (hS k hk).1 (hS k hk).2⟩
theorem Touch.nextW{w w2 w3:World}{t t':Nat->Prop}(h1:Touch t w w2)(h2:Touch t' w2 w3)(hn:∀k,t' k->t k\/w.heap.size<=k):Touch t w w3:=
 ⟨h2.os.trans h1.os,h2.tape.trans h1.tape,h2.output.trans h1.output,Nat.le_trans h1.size h2.size,fun k hk ht=>(h2.block k (Nat.lt_of_lt_of_le hk h1.size) fun hh=>by
  rcases hn k hh with h|h
  ·exact ht h
  ·omega).trans (h1.block k hk ht)⟩
end Vg
namespace Go.Proofs.YtlkdkgefjipjmaaGreatDoor
open Go.ChangeShapes Go.WideShapes Go.ChangeAt Go.RowKit Go.Shelf
attribute [local go_sem] Oper.semAt_some
theorem results_pop{tmps:Array Value}{w:World}{g:Nat}{x y:Int}{v:Value}(hp:tmps.getD 2 undef=.pointer (some ⟨g,0,none⟩))(hv:tmps.getD 3 undef=v)(c:Vg.blk w g=some (.cells #[.int .i64 x,.int .i64 y] 302)):
  (results Tryz.f174 tmps).run Tryz.prog w=.ok (.tuple #[.agg #[.int .i64 x,.int .i64 y],v]) w:=by
 rw[results_cell_tmp rfl]
 rw[hp,hv]
 have c1:=Vg.cells_of c 0
 have c2:=Vg.cells_of c 1
 have f1:=Vg.frozen_of c
 simp at c1 c2
 simp[asAddr,loadVar,go_sem,c1,c2,f1]
theorem wh_pop_no {w:World} {b pb p1 p2 gt gm n:Nat} {s:Vg.Wl} {L:Nat->List Nat} {F:List Nat} (h:WO w b pb p1 p2 gt gm n s L F) (hd:L 257=[]) :
  Calls Tryz.prog 174 #[.pointer (some ⟨b,0,none⟩)] w fun e w'=>e=.returned (.tuple #[.agg #[.int .i64 0,.int .i64 0],.bool false])/\Vg.Grows w w':=by
 have x1:=h.tab
 have hfk:∀wz,Vg.Grows w wz->Calls Tryz.prog 180 #[.pointer (some ⟨pb,0,none⟩),.int .i64 257] wz fun e w'=>e=.returned (.tuple #[.int .i64 0,.bool false])/\wz=w':=fun wz hg=>pool_first 257 (h.pl.grows hg) (by omega) (by rw[hd];rfl) (by rw[hd];rfl)
 obtain⟨c_x1,f_x1,p_x1,l_x1,H_x1⟩:=Vg.lay x1;clear x1
 have H_h:=h_ h;have H_hfk:=h_ hfk;have H_hd:=h_ hd;clear h hfk hd
 go_enter Tryz.func174,Tryz.ntmps174
 go_wp2_with ((go_at_call 180;(with_reducible refine(H_hfk.out _ (Vg.gro)).mono ?_);rintro e w1 ⟨rfl,rfl⟩))
 refine bodyPost_ret (results_pop (x:=0) (y:=0) (by rfl) (by rfl) (by go_simp)) rfl ?_
 exact⟨rfl,Vg.gro⟩
theorem pop_in (b pb p1 p2 gt gm n:Nat) (s:Vg.Wl) (L:Nat->List Nat) (F:List Nat) (LS:List (Vg.En n)) (hLS:LS.map (·.1)=L 257) (w:World) (h:WO w b pb p1 p2 gt gm n s L F) (f:Nat) (hf:(L 257).headD 0=f) (hne:L 257 ≠ [])
  (hidw:∀i,i<n->(Lit.int .i64 (s.T.getD (i*3) 0)).wf=true) (hu:∀k,s.U k<18446744073709551616) :
  CallsIn Fence.wide 4 Tryz.prog 174 #[.pointer (some ⟨b,0,none⟩)] w fun e w'=>∃i A B,L 257=A++i :: B/\e=.returned (.tuple #[.agg #[.int .i64 (s.T.getD (i*3) 0),.int .i64 (s.T.getD (i*3+1) 0)],.bool true]) /\
   WOn w w' b pb p1 p2 gt gm n { s with ids:=(fun z=>if z=s.T.getD (i*3) 0 then none else s.ids z) } (Vg.upd L 257 (A++B)) (i :: F):=by
 have hlt9:=h.lt
 have hro:Fence.wide.round=none:=rfl
 have hn1:1<=4:=by omega
 have hn4:n<=4096:=by obtain⟨q,q1,q2⟩:=h.pl;exact q1.nn
 have x1:=h.tab
 have hfL:f∈L 257:=by rw[<-hf];cases hq:L 257 with|nil=>exact absurd hq hne|cons a l=>simp
 have his:(!(L 257).isEmpty)=true:=by cases hq:L 257 with|nil=>exact absurd hq hne|cons a l=>rfl
 have hfk:∀wz,Vg.Grows w wz->Calls Tryz.prog 180 #[.pointer (some ⟨pb,0,none⟩),.int .i64 257] wz fun e w'=>e=.returned (.tuple #[.int .i64 f,.bool true])/\wz=w':=fun wz hg=>pool_first 257 (h.pl.grows hg) (by omega) hf his
 have hSS:∀k,(wown b pb p1 p2 gt gm k\/k=w.heap.size\/k=w.heap.size+3\/k=w.heap.size+4)->k<w.heap.size+5/\k≠w.heap.size+2:=by
  rintro k (hk|rfl|rfl|rfl)
  ·have:=hlt9 k hk;omega
  all_goals omega
 have HSS:=h_ hSS
 clear hSS
 obtain⟨c_x1,f_x1,p_x1,l_x1,H_x1⟩:=Vg.lay x1;clear x1
 have H_h:=h_ h;have H_hLS:=h_ hLS;have H_hf:=h_ hf;have H_hfL:=h_ hfL;have H_hne:=h_ hne;have H_hfk:=h_ hfk;have H_hidw:=h_ hidw;have H_hu:=h_ hu;clear h hLS hf hfL hne hfk hidw hu
 refine callsIn_of_wp_marks Tryz.func174 rfl trivial ?_ rfl
 simp only[Tryz.ntmps174,List.size_toArray,List.length_cons,List.length_nil,Nat.reduceAdd,Nat.reduceSub,Array.replicate_succ,Array.replicate_zero,List.push_toArray,List.append_toArray,List.nil_append,List.cons_append]
 gi_wp2_with (first|(refine⟨trivial,?_⟩;gi_at_call 180;refine(callsIn_wide.2 (H_hfk.out _ (Vg.gro))).mono ?_;rintro e w1 ⟨rfl,rfl⟩)|(refine⟨trivial,?_⟩;gi_at_call 207;refine(callsIn_wide.2 (pool_each pb 257 _)).mono ?_;rintro e w1 ⟨rfl,rfl⟩))
 obtain⟨bz,hbz⟩:∃bz,w.heap.size=bz:=⟨_,rfl⟩
 obtain⟨W0,hW0⟩:∃W0,(((((w.alloc (.cells #[.pointer (some ⟨b,0,none⟩)] 188)).alloc (.cells #[.int .i64 0,.int .i64 0] 302)).alloc (.cells #[.int .i64 f] 3)).alloc (.cells #[.pointer (some ⟨pb,0,none⟩)] 265)).alloc (.cells #[.int .i64 257] 3))=W0:=⟨_,rfl⟩
 have z0:Boxed W0 bz 188 (.pointer (some ⟨b,0,none⟩)):=by
  rw[<-hW0,<-hbz];exact((((Boxed.new w 188 (.pointer (some ⟨b,0,none⟩))).alloc _).alloc _).alloc _).alloc _
 have z1:Vg.blk W0 (bz+1)=some (.cells #[.int .i64 0,.int .i64 0] 302):=by rw[<-hW0,<-hbz];clear hW0;go_simp
 have z2:Boxed W0 (bz+2) 3 (.int .i64 f):=by
  have:=((Boxed.new ((w.alloc (.cells #[.pointer (some ⟨b,0,none⟩)] 188)).alloc (.cells #[.int .i64 0,.int .i64 0] 302)) 3 (.int .i64 f)).alloc (.cells #[.pointer (some ⟨pb,0,none⟩)] 265)).alloc (.cells #[.int .i64 257] 3)
  rw[World.size_alloc,World.size_alloc]at this
  rw[<-hW0,<-hbz];exact this
 have z3:Vg.blk W0 (bz+3)=some (.cells #[.pointer (some ⟨pb,0,none⟩)] 265):=by rw[<-hW0,<-hbz];clear hW0;go_simp
 have z4:Vg.blk W0 (bz+4)=some (.cells #[.int .i64 257] 3):=by rw[<-hW0,<-hbz];clear hW0;go_simp
 have zs:W0.heap.size=bz+5:=by rw[<-hW0,<-hbz];simp
 have hB0:Below bz w W0:=by
  rw[<-hW0,<-hbz]
  exact(((((Below.refl _ w).alloc (Nat.le_refl _) _).alloc (by simp) _).alloc (by simp <;> omega) _).alloc (by simp <;> omega) _).alloc (by simp <;> omega) _
 have hg0:Vg.Grows w W0:=by rw[<-hW0];exact Vg.gro
 rw[hbz]at HSS hlt9 ⊢
 rw[hW0]
 clear hW0
 have hS2:∀k,(wown b pb p1 p2 gt gm k\/k=bz\/k=bz+3\/k=bz+4)->k<W0.heap.size:=fun k hk=>by
  have:=(HSS.out k hk).1
  rw[zs];exact this
 refine wpIn_rangeFunc_ownG hro hn1 (gf:=221) (lb:=#[.pointer (some ⟨bz+1+1+1,0,none⟩),.pointer (some ⟨bz+1+1+1+1,0,none⟩)]) rfl trivial (enters_of Tryz.func221 (by kernel_rfl) rfl)
  (pool_stops (4-1) (by omega) (fun k=>wown b pb p1 p2 gt gm k\/k=bz\/k=bz+3\/k=bz+4) (bz+1+1+1) (bz+1+1+1+1) pb p1 p2 n 258 257 L F (by omega) LS H_hLS.out _ (fun j hj=>.inl (.inr (.inr (.inr hj)))) (.inr (.inr (.inl rfl))) (.inr (.inr (.inr rfl))) hS2 z3 z4 (H_h.out.pl.grows hg0)) Vg.Kept.trans
  (Vg.Kept.putObj hS2) (Below.refl _ _) (fun _=>rfl)
  (fun pre W=>∃m:Nat,Vg.isM f pre m/\(Boxed W (bz+2) 3 (.int .i64 m)/\(Boxed W bz 188 (.pointer (some ⟨b,0,none⟩))/\(Vg.blk W (bz+1)=some (.cells #[.int .i64 0,.int .i64 0] 302)/\(bz+5<=W.heap.size/\Below bz w W)))))
  (fun _ _ _=>False)
  (Vg.ownFrom_ex fun m=>OwnFrom.and (Vg.ownFrom_constW _) (OwnFrom.and (Own.from (boxed_own _ _ _) _) (OwnFrom.and (Own.from (boxed_own _ _ _) _) (OwnFrom.and (Vg.ownFrom_blk _ (by omega)) (OwnFrom.and (Vg.ownFrom_size _ _) (ownFrom_below (by omega) (by omega)))))))
  (fun _ _ _ _ _ hs _ _=>hs)
  ⟨f,.inl rfl,z2,z0,z1,by omega,hB0⟩
  (fun x=>{ tmps:=#[.pointer (some ⟨b,0,none⟩),.pointer (some ⟨bz,0,none⟩),.pointer (some ⟨bz+1,0,none⟩),.bool false,.pointer (some ⟨bz+1+1,0,none⟩),.bool true,.int .i64 (x.1:Nat),undef,.tuple #[.int .i64 f,.bool true],.pointer (some ⟨b,0,none⟩),.pointer (some ⟨b,0,none⟩),.pointer (some ⟨b,2,none⟩),.pointer (some ⟨pb,0,none⟩),.tuple #[.int .i64 f,.bool true],.int .i64 f,.bool true,.bool true,.bool false,undef,.pointer (some ⟨b,0,none⟩),.pointer (some ⟨b,0,none⟩),.pointer (some ⟨b,2,none⟩),.pointer (some ⟨pb,0,none⟩),.func (.func 221) #[] #[.pointer (some ⟨bz+1+1+1,0,none⟩),.pointer (some ⟨bz+1+1+1+1,0,none⟩)],.int .i64 (x.1:Nat),undef,undef,undef,undef,undef,undef,undef,undef,undef,undef,undef,undef,undef,undef,undef,undef,undef,undef,undef,undef,undef,undef,undef,undef,undef,undef,undef,undef,undef],defers:=[] }) ?assign ?body ?done ?stop
 case assign=>
  intro l x W K hK
  gi_wp2
  exact hK
 case body=>
  rintro l pre x W ⟨m,hm,hv,hu2,hr,hsz,hB⟩ hlt
  have e2:=hv.cell
  have e0:=hu2.cell
  have hf1:=hv.frozen
  have hW:=H_h.out.kept (w':=W) (fun k hk=>hB.block k (hlt9 k hk))
  have x2:=x.2
  have hmn:m<n:=by
   rcases hm with rfl|hm
   ·obtain⟨q,q1,q2⟩:=hW.pl;exact q2.rng 257 (by omega) _ H_hfL.out
   ·obtain⟨y,_,rfl⟩:=List.mem_map.1 hm
    exact y.2
  have hfI:((x.1:Nat):Int)<n:=by omega
  have hfM:(m:Int)<n:=by omega
  have hnn:n<=n:=Nat.le_refl _
  have htl:s.T.length=n*3:=hW.tl
  have cX0:=Vg.rowP_cell hW.tim (List.getElem?_eq_getElem (show x.1*3<s.T.length by omega))
  have cX1:=Vg.rowP_cell hW.tim (List.getElem?_eq_getElem (show x.1*3+1<s.T.length by omega))
  have cX2:=Vg.rowP_cell hW.tim (List.getElem?_eq_getElem (show x.1*3+2<s.T.length by omega))
  have cM0:=Vg.rowP_cell hW.tim (List.getElem?_eq_getElem (show m*3<s.T.length by omega))
  have cM1:=Vg.rowP_cell hW.tim (List.getElem?_eq_getElem (show m*3+1<s.T.length by omega))
  have cM2:=Vg.rowP_cell hW.tim (List.getElem?_eq_getElem (show m*3+2<s.T.length by omega))
  have fT:=Vg.frozen_of hW.tim
  have lT:=Vg.lt_of hW.tim
  obtain⟨a0,ha0⟩:∃v,s.T[x.1*3]=v:=⟨_,rfl⟩
  obtain⟨a1,ha1⟩:∃v,s.T[x.1*3+1]=v:=⟨_,rfl⟩
  obtain⟨a2,ha2⟩:∃v,s.T[x.1*3+2]=v:=⟨_,rfl⟩
  obtain⟨m0,hm0⟩:∃v,s.T[m*3]=v:=⟨_,rfl⟩
  obtain⟨m1,hm1⟩:∃v,s.T[m*3+1]=v:=⟨_,rfl⟩
  obtain⟨m2,hm2⟩:∃v,s.T[m*3+2]=v:=⟨_,rfl⟩
  rw[ha0]at cX0
  rw[ha1]at cX1
  rw[ha2]at cX2
  rw[hm0]at cM0
  rw[hm1]at cM1
  rw[hm2]at cM2
  have e3:=Vg.cells_of hW.tab 3
  simp at e3
  have lb:=Vg.lt_of hW.tab
  have l0:bz<W.heap.size:=by omega
  have l2:bz+2<W.heap.size:=by omega
  clear ha0 ha1 ha2 hm0 hm1 hm2
  have H_hW:=h_ hW;have H_hu2:=h_ hu2;have H_hr:=h_ hr;have H_hB:=h_ hB;have H_hv:=h_ hv;have H_hm:=h_ hm;clear hW hu2 hr hB hv hm
  gi_wp2
  rename_i K4 a4
  refine Vg.wpIn_region_held_drew (S:=fun w'=>bz<w'.heap.size/\bz+2<w'.heap.size/\b<w'.heap.size/\gt<w'.heap.size/\w'.cell? ⟨bz,0,none⟩=some (.pointer (some ⟨b,0,none⟩))/\w'.cell? ⟨bz+2,0,none⟩=some (.int .i64 m)/\w'.cell? ⟨b,3,none⟩=some (.slice (some ⟨gt,0,none⟩) n n)/\w'.cell? ⟨gt,x.1*3,none⟩=some (.int .i64 a0)/\w'.cell? ⟨gt,x.1*3+1,none⟩=some (.int .i64 a1)/\w'.cell? ⟨gt,x.1*3+2,none⟩=some (.int .i64 a2)/\w'.cell? ⟨gt,m*3,none⟩=some (.int .i64 m0)/\w'.cell? ⟨gt,m*3+1,none⟩=some (.int .i64 m1)/\w'.cell? ⟨gt,m*3+2,none⟩=some (.int .i64 m2)) (by kernel_rfl) (Vg.noDefer_of (by kernel_rfl)) _ (fun _ _ h=>h) (by go_split_ands <;> (try dsimp only) <;> go_simp) (fun hHeld=>?_)
  refine tk 0 ?_
  refine tk 1 ?_
  refine tk 2 ?_
  refine tk 3 ?_
  refine tk 4 ?_
  refine tk 5 ?_
  refine tk 6 ?_
  refine tk 7 ?_
  refine tk 8 ?_
  refine tk 9 ?_
  refine tk 10 ?_
  refine tk 11 ?_
  refine tk 12 ?_
  refine tk 13 ?_
  refine wpAnyH_ready (rs:=[14]) (by kernel_rfl) (by simp) ?_
  refine AllReadyH.cons (o:=_) rfl (fun K hK=>?st15) ?mo15
  case st15=>
   go_simp
   ((go_at_call 208;(with_reducible refine(wh_before a0 a1 a2 m0 m1 m2 _).mono ?_);rintro e7 w7 ⟨⟨r7,rfl⟩,x7,n7,rfl⟩))
   all_goals(try go_wp2_with fail)
   refine hK.out _ _ (by go_split_ands <;> (try dsimp only) <;> go_simp) (fun hHeld15=>?_)
   clear hK K
   refine tk 15 ?_
   refine wpAnyH_done (by kernel_rfl) ?_ _
   refine a4 _ _ ?_
   by_cases hr7:r7<0
   ·gi_wp2
    refine⟨Vg.keeps_touchW (t:=fun k=>k=bz+2) ((Vg.Touch.setC (t:=fun k=>k=bz+2) (b:=bz+2) (i:=0) (Vg.Touch.refl _ W) rfl (.int .i64 (x.1:Nat))).trans (Vg.Touch.of_grows (Vg.gro))) (fun k hk=>by rw[hk,zs];omega),Vg.kept_touchW (t:=fun k=>k=bz+2) ((Vg.Touch.setC (t:=fun k=>k=bz+2) (b:=bz+2) (i:=0) (Vg.Touch.refl _ W) rfl (.int .i64 (x.1:Nat))).trans (Vg.Touch.of_grows (Vg.gro))) (fun k hk=>by have h9:=HSS.out k hk;exact⟨by omega,h9.2⟩),x.1,.inr (by simp),?_,?_,?_,?_,?_⟩
    ·exact Vg.Grows.blk (Vg.gro:Vg.Grows (W.setCell ⟨bz+2,0,none⟩ _) _) ((show Boxed W (bz+2) 3 (.int .i64 m)from H_hv.out).set (.int .i64 (x.1:Nat)))
    ·exact Vg.Grows.blk (Vg.gro:Vg.Grows (W.setCell ⟨bz+2,0,none⟩ (.int .i64 (x.1:Nat))) _) ((Below.heap_setCell _ _ _ bz (by show bz≠bz+2;omega)).trans H_hu2.out)
    ·exact Vg.Grows.blk (Vg.gro:Vg.Grows (W.setCell ⟨bz+2,0,none⟩ (.int .i64 (x.1:Nat))) _) ((Below.heap_setCell _ _ _ (bz+1) (by show bz+1≠bz+2;omega)).trans H_hr.out)
    ·have h9:=Vg.Grows.size (Vg.gro:Vg.Grows (W.setCell ⟨bz+2,0,none⟩ (.int .i64 (x.1:Nat))) (Vg.plus (W.setCell ⟨bz+2,0,none⟩ (.int .i64 (x.1:Nat))) x7 n7))
     rw[World.size_setCell]at h9
     exact Nat.le_trans hsz h9
    ·exact(H_hB.out.trans ((Below.refl _ W).setCell (p:=⟨bz+2,0,none⟩) (show bz<=bz+2 by omega) _)).trans (Below.mono (Vg.Grows.below (Vg.gro:Vg.Grows (W.setCell ⟨bz+2,0,none⟩ (.int .i64 (x.1:Nat))) _)) (by rw[World.size_setCell];omega))
   ·gi_wp2
    refine⟨Vg.keeps_touchW (t:=fun k=>False) (Vg.Touch.of_grows (Vg.gro)) (fun k hk=>hk.elim),Vg.kept_touchW (t:=fun k=>False) (Vg.Touch.of_grows (Vg.gro)) (fun k hk=>by have h9:=HSS.out k hk;exact⟨by omega,fun h=>h⟩),m,?_,?_,?_,?_,?_,?_⟩
    ·rcases H_hm.out with h9|h9
     ·exact .inl h9
     ·exact .inr (by rw[List.map_append];exact List.mem_append_left _ h9)
    ·exact Vg.Grows.blk (Vg.gro:Vg.Grows W _) H_hv.out
    ·exact Vg.Grows.blk (Vg.gro:Vg.Grows W _) H_hu2.out
    ·exact Vg.Grows.blk (Vg.gro:Vg.Grows W _) H_hr.out
    ·have h9:=Vg.Grows.size (Vg.gro:Vg.Grows W (Vg.plus W x7 n7));exact Nat.le_trans hsz h9
    ·exact H_hB.out.trans (Below.mono (Vg.Grows.below (Vg.gro:Vg.Grows W _)) (by omega))
  exact AllReadyH.nil
 case done=>
  rintro D ys W hD rfl ⟨m,hm,hv,hu2,hr,hsz,hB⟩ hK
  have hmL:m∈L 257:=by
   rcases hm with rfl|hm
   ·exact H_hfL.out
   ·rw[<-H_hLS.out];exact hm
  have c2:W.cell? ⟨bz+1+1,0,none⟩=some (.int .i64 m):=hv.cell
  have c0:=hu2.cell
  have f2:=hv.frozen
  have l0:bz<W.heap.size:=by omega
  have l2:bz+1+1<W.heap.size:=by omega
  have l3:bz+1<W.heap.size:=by omega
  have hg9:Vg.Grows w W:=Vg.Grows.of_below (by rw[hbz];exact hB)
  have hW:=H_h.out.grows hg9
  have y1:=hW.tab
  have hmn:m<n:=by obtain⟨q,q1,q2⟩:=hW.pl;exact q2.rng 257 (by omega) m hmL
  have hfM:(m:Int)<n:=by omega
  have hnn:n<=n:=Nat.le_refl _
  have htl:s.T.length=n*3:=hW.tl
  have cM0:=Vg.rowP_cell hW.tim (List.getElem?_eq_getElem (show m*3<s.T.length by omega))
  have cM1:=Vg.rowP_cell hW.tim (List.getElem?_eq_getElem (show m*3+1<s.T.length by omega))
  have fT:=Vg.frozen_of hW.tim
  have lT:=Vg.lt_of hW.tim
  obtain⟨m0,hm0⟩:∃v,s.T.getD (m*3) 0=v:=⟨_,rfl⟩
  obtain⟨m1,hm1⟩:∃v,s.T.getD (m*3+1) 0=v:=⟨_,rfl⟩
  have hm0':s.T[m*3]=m0:=by rw[<-hm0,List.getD_eq_getElem?_getD,List.getElem?_eq_getElem (show m*3<s.T.length by omega),Option.getD_some]
  have hm1':s.T[m*3+1]=m1:=by rw[<-hm1,List.getD_eq_getElem?_getD,List.getElem?_eq_getElem (show m*3+1<s.T.length by omega),Option.getD_some]
  rw[hm0']at cM0
  rw[hm1']at cM1
  obtain⟨A,B,hAB⟩:=List.append_of_mem hmL
  have hdk:∀w9,Vg.Grows W w9->Calls Tryz.prog 209 #[.pointer (some ⟨b,0,none⟩),.int .i64 m] w9 fun e w'=>e=.returned (.tuple #[])/\WOn w9 w' b pb p1 p2 gt gm n { s with ids:=(fun z=>if z=m0 then none else s.ids z) } (Vg.upd L 257 (A++B)) (m :: F):=fun w9 h9=>
   wh_drop m 257 m0 (hW.grows h9) (by omega) hAB hmn (by rw[List.getElem?_eq_getElem (show m*3<s.T.length by omega),hm0']) (by rw[<-hm0];exact H_hidw.out m hmn) H_hu.out (by unfold Vg.noteU;rw[if_pos (by omega)])
  have hn8:∀k,bz<=k->¬wown b pb p1 p2 gt gm k:=fun k hk hh=>by have:=hlt9 k hh;omega
  obtain⟨c_y1,f_y1,p_y1,l_y1,H_y1⟩:=Vg.lay y1;clear y1;obtain⟨c_hr,f_hr,p_hr,l_hr,H_hr⟩:=Vg.lay hr;clear hr
  have H_hv:=h_ hv;have H_hu2:=h_ hu2;have H_hB:=h_ hB;have H_hg9:=h_ hg9;have H_hW:=h_ hW;have H_hdk:=h_ hdk;have H_hAB:=h_ hAB;have H_hm0:=h_ hm0;have H_hm1:=h_ hm1;clear hv hu2 hB hg9 hW hdk hAB hm0 hm1
  gi_wp2
  gi_region
  gi_wp2_with (first|(refine⟨trivial,?_⟩;gi_at_call 209;refine(callsIn_wide.2 (H_hdk.out _ (Vg.gro))).mono ?_;rintro e w8 ⟨rfl,hw8⟩;have y8:=(hw8.2.block W.heap.size (by simp) (hn8 _ (by omega))).trans (show Vg.blk _ W.heap.size=some (.cells #[.int .i64 m0,.int .i64 m1] 302)from by go_simp);have y9:=(hw8.2.block (bz+1) (by simp <;> omega) (hn8 _ (by omega))).trans (show Vg.blk _ (bz+1)=some (.cells #[.int .i64 0,.int .i64 0] 302)from(by go_simp <;> exact H_hr.out));obtain⟨c_y8,f_y8,p_y8,l_y8,H_y8⟩:=Vg.lay y8;clear y8;obtain⟨c_y9,f_y9,p_y9,l_y9,H_y9⟩:=Vg.lay y9;clear y9;have H_hw8:=h_ hw8;clear hw8))
  obtain⟨w9,hw9⟩:∃w9,WOn w9 w8 b pb p1 p2 gt gm n { s with ids:=(fun z=>if z=m0 then none else s.ids z) } (Vg.upd L 257 (A++B)) (m :: F)/\Vg.Grows W w9:=⟨_,H_hw8.out,Vg.gro⟩
  obtain⟨hw9,hg8⟩:=hw9
  rw[zs]at hD
  have hDW:D<W.heap.size:=(Array.getElem?_eq_some_iff.1 hK).1
  have hs9:=hg8.size
  have hs8:=hw9.2.size
  have hKF:(Vg.put w8 (bz+1) (.cells #[.int .i64 m0,.int .i64 m1] 302)).heap[D]? = some (.deferred (some [])):=by
   rw[Vg.put_heap_other (by omega)]
   exact(hw9.2.block D (by omega) (hn8 D (by omega))).trans ((hg8.below.block D hDW).trans hK)
  have hgD:=grownBy_putObj' (Vg.put w8 (bz+1) (.cells #[.int .i64 m0,.int .i64 m1] 302)) D (.deferred none)
  have ht2:Vg.Touch (fun k=>k=bz+1\/k=D) w8 ((Vg.put w8 (bz+1) (.cells #[.int .i64 m0,.int .i64 m1] 302)).putObj D (.deferred none)):=((Vg.Touch.refl _ w8).put (.inl rfl) _).grownW hgD (.inr rfl)
  have hall:=((WOn.refl H_h.out).grows (H_hg9.out.trans hg8)).trans hw9
  refine⟨by simp,.inl ⟨_,_,rfl,run_takeDeferred hKF,?_⟩⟩
  refine⟨_,results_pop (x:=m0) (y:=m1) (v:=.bool true) (by rfl) (by rfl) ?_,m,A,B,H_hAB.out,by rw[H_hm0.out,H_hm1.out],?_⟩
  ·exact(hgD.block (bz+1) (by rw[Vg.put_size];omega) (by simp;omega)).trans (Vg.blk_put_same (by omega))
  ·rw[H_hm0.out]
   exact⟨hall.1.touch ht2 (fun k hk hh=>hn8 k (by omega) hk),Vg.Touch.nextW hall.2 ht2 (fun k hk=>.inr (by omega))⟩
 case stop=>
  rintro D c pre W _ _ h _
  exact h.elim
theorem wh_pop {w:World} {b pb p1 p2 gt gm n:Nat} {s:Vg.Wl} {L:Nat->List Nat} {F:List Nat} (h:WO w b pb p1 p2 gt gm n s L F) (hne:L 257 ≠ [])
  (hidw:∀i,i<n->(Lit.int .i64 (s.T.getD (i*3) 0)).wf=true) (hu:∀k,s.U k<18446744073709551616) :
  Calls Tryz.prog 174 #[.pointer (some ⟨b,0,none⟩)] w fun e w'=>∃i A B,L 257=A++i :: B/\e=.returned (.tuple #[.agg #[.int .i64 (s.T.getD (i*3) 0),.int .i64 (s.T.getD (i*3+1) 0)],.bool true]) /\
   WOn w w' b pb p1 p2 gt gm n { s with ids:=(fun z=>if z=s.T.getD (i*3) 0 then none else s.ids z) } (Vg.upd L 257 (A++B)) (i :: F):=by
 obtain⟨q,q1,q2⟩:=h.pl
 obtain⟨LS,hLS⟩:∃LS:List (Vg.En n),LS.map (·.1)=L 257:=⟨(L 257).attach.map fun x=>⟨x.1,q2.rng 257 (by omega) x.1 x.2⟩,by simp[List.map_map,Function.comp_def]⟩
 exact(callsIn_wide (n:=4)).1 (pop_in b pb p1 p2 gt gm n s L F LS hLS w h _ rfl hne hidw hu)
end Go.Proofs.YtlkdkgefjipjmaaGreatDoor
namespace Vg
open Go
def idT(T:List Int)(i:Nat):Int:=T.getD (i*3) 0
structure WD(n:Nat)(s:Wl)(L:Nat->List Nat):Prop where
 d1:∀l,l<258->∀i∈L l,s.ids (idT s.T i)=some (i:Int)
 d2:∀z j,s.ids z=some j->∃i:Nat,j=i/\inL L i/\idT s.T i=z
 d3:∀i,i<n->(Lit.int .i64 (idT s.T i)).wf=true
def Vw(s:Wl)(V:Int->Option Int):Prop:=∀z,V z=(s.ids z).map fun j=>atT s.T j.toNat
def NxV(V:Int->Option Int)(t:Int)(is:Bool):Prop:=(is=false/\t=0/\∀z,V z=none)\/(is=true/\(∃z,V z=some t)/\∀z t',V z=some t'->t<=t')
section
variable {n:Nat}{s:Wl}{L:Nat->List Nat}{V:Int->Option Int}
theorem WD.at(h:WD n s L)(hv:Vw s V){l i:Nat}(hl:l<258)(hi:i∈L l):V (idT s.T i)=some (atT s.T i):=by
 rw[hv,h.d1 l hl i hi]
 simp
theorem WD.of(h:WD n s L)(hv:Vw s V){z t:Int}(hz:V z=some t):∃l i,l<258/\i∈L l/\idT s.T i=z/\atT s.T i=t:=by
 rw[hv]at hz
 obtain⟨j,h1,h2⟩:=Option.map_eq_some_iff.1 hz
 obtain⟨i,rfl,⟨l,hl,hi⟩,h3⟩:=h.d2 z j h1
 exact⟨l,i,hl,hi,h3,by simpa using h2⟩
theorem WD.nx(h:WD n s L)(hv:Vw s V){t:Int}{is:Bool}(hn:Nx s L t is):NxV V t is:=by
 rcases hn with⟨h1,h2,h3⟩|⟨h1,⟨l,hl,i,hi,h2⟩,h3⟩
 ·refine .inl ⟨h1,h2,fun z=>?_⟩
  cases hz:V z with
  | none=>rfl
  | some t'=>
   obtain⟨l,i,hl,hi,_⟩:=h.of hv hz
   rw[h3 l hl]at hi
   simp at hi
 ·refine .inr ⟨h1,⟨_,(h.at hv hl hi).trans (by rw[h2])⟩,fun z t' hz=>?_⟩
  obtain⟨l',i',hl',hi',_,h4⟩:=h.of hv hz
  rw[<-h4]
  exact h3 l' hl' i' hi'
theorem WI.due_of(h:WI s L){l i:Nat}(hl:l<258)(hi:i∈L l):l=257↔atT s.T i<=s.now:=by
 have h1:=h.hm l hl i hi
 rw[<-home_due h.now0.1 (h.at0 l hl i hi).1,h1]
theorem pop_view(hI:WI s L)(hD:WD n s L)(hv:Vw s V){A B:List Nat}{i:Nat}(hAB:L 257=A++i::B)(hnd:(L 257).Nodup):
  WI { s with ids:=(fun z=>if z=idT s.T i then none else s.ids z) } (upd L 257 (A++B))/\WD n { s with ids:=(fun z=>if z=idT s.T i then none else s.ids z) } (upd L 257 (A++B)) /\
   Vw { s with ids:=(fun z=>if z=idT s.T i then none else s.ids z) } (fun y=>if y=idT s.T i then none else V y):=by
 have hi:i∈L 257:=by rw[hAB];simp
 have hid:=hD.d1 257 (by omega) i hi
 have hmem:∀l,l<258->∀j,j∈upd L 257 (A++B) l->j∈L l/\j≠i:=fun l hl j hj=>by
  rw[upd_mem]at hj
  by_cases h7:l=257
  ·subst h7
   rw[if_pos rfl]at hj
   refine⟨by rw[hAB];simp at hj ⊢;rcases hj with h|h<;>simp[h],fun e=>?_⟩
   subst e
   rw[hAB]at hnd
   have h1:=List.nodup_append.1 hnd
   rcases List.mem_append.1 hj with h|h
   ·exact h1.2.2 j h j (by simp) rfl
   ·exact(List.nodup_cons.1 h1.2.1).1 h
  ·rw[if_neg h7]at hj
   refine⟨hj,fun e=>h7 ?_⟩
   subst e
   have h1:=hI.hm l hl j hj
   have h2:=hI.hm 257 (by omega) j hi
   omega
 have hback:∀l,l<258->∀j,j∈L l->j≠i->j∈upd L 257 (A++B) l:=fun l hl j hj hne=>by
  rw[upd_mem]
  by_cases h7:l=257
  ·subst h7
   rw[if_pos rfl]
   rw[hAB]at hj
   simp at hj ⊢
   rcases hj with h|h|h
   ·exact .inl h
   ·exact absurd h hne
   ·exact .inr h
  ·rw[if_neg h7];exact hj
 have hne:∀l,l<258->∀j,j∈L l->j≠i->idT s.T j≠idT s.T i:=fun l hl j hj hji e=>by
  have h1:=hD.d1 l hl j hj
  rw[e,hid]at h1
  simp at h1
  omega
 refine⟨⟨hI.now0,hI.u64,fun l hl j hj=>hI.at0 l hl j (hmem l hl j hj).1,fun l hl j hj=>hI.hm l hl j (hmem l hl j hj).1,fun k hk j hj=>?_⟩,⟨fun l hl j hj=>?_,fun z j hz=>?_,hD.d3⟩,fun z=>?_⟩
 ·show _ = !(upd L 257 (A++B) (k*64+j)).isEmpty
  unfold upd
  rw[if_neg (by omega)]
  exact hI.full k hk j hj
 ·obtain⟨h1,h2⟩:=hmem l hl j hj
  show(if _ then _ else _)=_
  rw[if_neg (hne l hl j h1 h2)]
  exact hD.d1 l hl j h1
 ·have hz:(if z=idT s.T i then none else s.ids z)=some j:=hz
  by_cases h1:z=idT s.T i
  ·rw[if_pos h1]at hz;simp at hz
  ·rw[if_neg h1]at hz
   obtain⟨j',rfl,⟨l,hl,hj⟩,h2⟩:=hD.d2 z j hz
   exact⟨j',rfl,⟨l,hl,hback l hl j' hj (fun e=>h1 (by rw[<-h2,e]))⟩,h2⟩
 ·show(if _ then _ else _)=Option.map _ (if _ then _ else _)
  by_cases h1:z=idT s.T i
  ·rw[if_pos h1,if_pos h1];rfl
  ·rw[if_neg h1,if_neg h1];exact hv z
theorem put_T{T:List Int}{f n:Nat}{id at_ tn:Int}(hf:f<n)(hl:T.length=n*3):
  idT (((T.set (f*3) id).set (f*3+1) at_).set (f*3+2) tn) f=id/\atT (((T.set (f*3) id).set (f*3+1) at_).set (f*3+2) tn) f=at_ /\
  ∀i,i≠f->idT (((T.set (f*3) id).set (f*3+1) at_).set (f*3+2) tn) i=idT T i/\atT (((T.set (f*3) id).set (f*3+1) at_).set (f*3+2) tn) i=atT T i:=by
 unfold idT atT
 refine⟨?_,?_,fun i hi=>⟨?_,?_⟩⟩
 ·rw[List.getD_eq_getElem?_getD,List.getElem?_set,if_neg (by omega),List.getElem?_set,if_neg (by omega),List.getElem?_set,if_pos rfl,if_pos (by omega)];rfl
 ·rw[List.getD_eq_getElem?_getD,List.getElem?_set,if_neg (by omega),List.getElem?_set,if_pos rfl,if_pos (by rw[List.length_set];omega)];rfl
 ·rw[List.getD_eq_getElem?_getD,List.getElem?_set,if_neg (by omega),List.getElem?_set,if_neg (by omega),List.getElem?_set,if_neg (by omega),<-List.getD_eq_getElem?_getD]
 ·rw[List.getD_eq_getElem?_getD,List.getElem?_set,if_neg (by omega),List.getElem?_set,if_neg (by omega),List.getElem?_set,if_neg (by omega),<-List.getD_eq_getElem?_getD]
theorem put_view (hI:WI s L) (hD:WD n s L) (hv:Vw s V) {f:Nat} {id at_ tn:Int} (hf:f<n) (hl:s.T.length=n*3) (hff:∀l,l<258->f∉L l) (hid:V id=none) (hidw:(Lit.int .i64 id).wf=true) (ha:0<=at_/\at_<=4503599627370496) {hm:Nat} (hhm:home s.now at_=hm) :
  WI ⟨s.now,tn,((s.T.set (f*3) id).set (f*3+1) at_).set (f*3+2) tn,(fun z=>if z=id then some (f:Int)else s.ids z),noteU s.U hm false⟩ (upd L hm (L hm ++ [f])) /\
  WD n ⟨s.now,tn,((s.T.set (f*3) id).set (f*3+1) at_).set (f*3+2) tn,(fun z=>if z=id then some (f:Int)else s.ids z),noteU s.U hm false⟩ (upd L hm (L hm ++ [f])) /\
  Vw ⟨s.now,tn,((s.T.set (f*3) id).set (f*3+1) at_).set (f*3+2) tn,(fun z=>if z=id then some (f:Int)else s.ids z),noteU s.U hm false⟩ (fun y=>if y=id then some at_ else V y):=by
 obtain⟨p1,p2,p3⟩:=put_T (id:=id) (at_:=at_) (tn:=tn) hf hl
 generalize ((s.T.set (f*3) id).set (f*3+1) at_).set (f*3+2) tn=T' at p1 p2 p3
 have hm2:hm<258:=by rw[<-hhm];exact home_lt _ _
 have hids:s.ids id=none:=by
  have:=hv id
  rw[hid]at this
  cases h:s.ids id with
  | none=>rfl
  | some j=>rw[h]at this;simp at this
 have hmem:∀l,l<258->∀j,j∈upd L hm (L hm ++ [f]) l->(j=f/\l=hm)\/(j≠f/\j∈L l):=fun l hl j hj=>by
  rw[upd_mem]at hj
  by_cases h7:l=hm
  ·subst h7
   rw[if_pos rfl]at hj
   rcases List.mem_append.1 hj with h|h
   ·exact .inr ⟨fun e=>hff l hl (e ▸ h),h⟩
   ·exact .inl ⟨by simpa using h,rfl⟩
  ·rw[if_neg h7]at hj
   exact .inr ⟨fun e=>hff l hl (e ▸ hj),hj⟩
 have hback:∀l,l<258->∀j,j∈L l->j∈upd L hm (L hm ++ [f]) l:=fun l hl j hj=>by
  rw[upd_mem]
  by_cases h7:l=hm
  ·subst h7;rw[if_pos rfl];simp[hj]
  ·rw[if_neg h7];exact hj
 have hfm:f∈upd L hm (L hm ++ [f]) hm:=by rw[upd_mem,if_pos rfl];simp
 refine⟨⟨hI.now0,noteU_lt _ _ hI.u64,fun l hl j hj=>?_,fun l hl j hj=>?_,fun k hk j hj=>?_⟩,⟨fun l hl j hj=>?_,fun z j hz=>?_,fun i hi=>?_⟩,fun z=>?_⟩
 ·show 0<=atT T' j/\atT T' j<=_
  rcases hmem l hl j hj with⟨rfl,_⟩|⟨h1,h2⟩
  ·rw[p2];exact ha
  ·rw[(p3 j h1).2];exact hI.at0 l hl j h2
 ·show home s.now (atT T' j)=l
  rcases hmem l hl j hj with⟨rfl,rfl⟩|⟨h1,h2⟩
  ·rw[p2];exact hhm
  ·rw[(p3 j h1).2];exact hI.hm l hl j h2
 ·show(noteU s.U hm false k).testBit j = !(upd L hm (L hm ++ [f]) (k*64+j)).isEmpty
  rw[noteU_tb hI.u64 hk hj]
  by_cases h7:hm=k*64+j
  ·rw[if_pos h7,<-h7]
   simp[upd]
  ·rw[if_neg h7,hI.full k hk j hj]
   unfold upd
   rw[if_neg (fun e=>h7 e.symm)]
 ·show(if idT T' j=id then _ else _)=_
  rcases hmem l hl j hj with⟨rfl,_⟩|⟨h1,h2⟩
  ·rw[if_pos p1]
  ·have h3:=hD.d1 l hl j h2
   rw[(p3 j h1).1,if_neg (fun e=>by rw[e,hids]at h3;simp at h3)]
   exact h3
 ·have hz:(if z=id then some (f:Int)else s.ids z)=some j:=hz
  by_cases h1:z=id
  ·rw[if_pos h1]at hz
   exact⟨f,by simpa using hz.symm,⟨hm,hm2,hfm⟩,by show idT T' f=z;rw[p1,h1]⟩
  ·rw[if_neg h1]at hz
   obtain⟨j',rfl,⟨l,hl,hj⟩,h2⟩:=hD.d2 z j hz
   have hjf:j'≠f:=fun e=>hff l hl (e ▸ hj)
   exact⟨j',rfl,⟨l,hl,hback l hl j' hj⟩,by show idT T' j'=z;rw[(p3 j' hjf).1];exact h2⟩
 ·show(Lit.int .i64 (idT T' i)).wf=true
  by_cases h1:i=f
  ·subst h1;rw[p1];exact hidw
  ·rw[(p3 i h1).1];exact hD.d3 i hi
 ·show(if z=id then some at_ else V z)=Option.map (fun j:Int=>atT T' j.toNat) (if z=id then some (f:Int)else s.ids z)
  by_cases h1:z=id
  ·rw[if_pos h1,if_pos h1]
   simp[p2]
  ·rw[if_neg h1,if_neg h1,hv z]
   cases hz:s.ids z with
   | none=>rfl
   | some j=>
    obtain⟨j',rfl,⟨l,hl,hj⟩,h2⟩:=hD.d2 z j hz
    have hjf:j'≠f:=fun e=>hff l hl (e ▸ hj)
    simp[(p3 j' hjf).2]
end
end Vg
namespace Go.Proofs.YtlkdkgefjipjmaaGreatDoor
open Go.ChangeShapes Go.WideShapes Go.ChangeAt Go.RowKit
def WV(w:World)(b:Nat)(X:Nat->Prop)(now:Int)(V:Int->Option Int)(fr N:Nat):Prop:=
 ∃pb p1 p2 gt gm n s L F,WO w b pb p1 p2 gt gm n s L F/\Vg.WI s L/\Vg.WD n s L/\Vg.Vw s V/\s.now=now/\F.length=fr/\0<=s.turns/\s.turns<=N/\∀k,wown b pb p1 p2 gt gm k->X k
section
variable {w w0 w':World}{b fr N:Nat}{X:Nat->Prop}{now:Int}{V:Int->Option Int}
theorem WV.grows(h:WV w b X now V fr N)(hg:Vg.Grows w w'):WV w' b X now V fr N:=by
 obtain⟨pb,p1,p2,gt,gm,n,s,L,F,h1,h2⟩:=h
 exact⟨pb,p1,p2,gt,gm,n,s,L,F,h1.grows hg,h2⟩
theorem WV.touch{t:Nat->Prop}(h:WV w b X now V fr N)(ht:Vg.Touch t w w')(hv:∀k,X k->¬t k):WV w' b X now V fr N:=by
 obtain⟨pb,p1,p2,gt,gm,n,s,L,F,h1,h2,h3,h4,h5,h6,h7,h8,h9⟩:=h
 exact⟨pb,p1,p2,gt,gm,n,s,L,F,h1.touch ht (fun k hk=>hv k (h9 k hk)),h2,h3,h4,h5,h6,h7,h8,h9⟩
theorem WV.rng(h:WV w b X now V fr N):(0<=now/\now<=4503599627370496)/\∀z t,V z=some t->0<=t/\t<=4503599627370496:=by
 obtain⟨pb,p1,p2,gt,gm,n,s,L,F,h1,h2,h3,h4,rfl,h6,h7,h8,h9⟩:=h
 refine⟨h2.now0,fun z t hz=>?_⟩
 obtain⟨l,i,hl,hi,_,rfl⟩:=h3.of h4 hz
 exact h2.at0 l hl i hi
theorem wv_next(h:WV w b X now V fr N)(hT:Vg.Tab w):
  Calls Tryz.prog 146 #[.pointer (some ⟨b,0,none⟩)] w fun e w'=>(∃t is,e=.returned (.tuple #[.int .i64 t,.bool is])/\Vg.NxV V t is)/\Vg.Grows w w':=by
 obtain⟨pb,p1,p2,gt,gm,n,s,L,F,h1,h2,h3,h4,rfl,h6,h7,h8,h9⟩:=h
 refine(wh_next h1 h2 hT).mono ?_
 rintro e w' ⟨⟨t,is,rfl,hn⟩,hg⟩
 exact⟨⟨t,is,rfl,h3.nx h4 hn⟩,hg⟩
theorem wv_set(nx:Int)(h:WV w b X now V fr N)(hT:Vg.Tab w)(h0:¬X 0)(hn1:now<=nx)(hn2:nx<=4503599627370496):
  Calls Tryz.prog 63 #[.pointer (some ⟨b,0,none⟩),.int .i64 nx] w fun e w'=>e=.returned (.int .i64 0)/\WV w' b X nx V fr N/\Vg.Touch X w w':=by
 obtain⟨pb,p1,p2,gt,gm,n,s,L,F,h1,h2,h3,h4,rfl,h6,h7,h8,h9⟩:=h
 refine(wh_set nx h1 h2 hT (fun hh=>h0 (h9 0 hh)) hn1 hn2).mono ?_
 rintro e w' ⟨rfl,s',L',hw,⟨r1,r2,r3,r4,r5,r6⟩,rfl⟩
 refine⟨rfl,⟨pb,p1,p2,gt,gm,n,s',L',F,hw.1,r1,⟨fun l hl i hi=>?_,fun z j hz=>?_,fun i hi=>by rw[r2];exact h3.d3 i hi⟩,fun z=>by rw[r2,r3];exact h4 z,rfl,h6,by rw[r4];exact h7,by rw[r4];exact h8,h9⟩,hw.2.mono fun k _ hk=>h9 k hk⟩
 ·obtain⟨l',hl',hi'⟩:=(r6 i).1 ⟨l,hl,hi⟩
  rw[r2,r3];exact h3.d1 l' hl' i hi'
 ·rw[r3]at hz
  obtain⟨i,q1,q2,q3⟩:=h3.d2 z j hz
  exact⟨i,q1,(r6 i).2 q2,by rw[r2];exact q3⟩
theorem wv_pop_no(h:WV w b X now V fr N)(hd:∀z t,V z=some t->now<t):
  Calls Tryz.prog 174 #[.pointer (some ⟨b,0,none⟩)] w fun e w'=>e=.returned (.tuple #[.agg #[.int .i64 0,.int .i64 0],.bool false])/\Vg.Grows w w':=by
 obtain⟨pb,p1,p2,gt,gm,n,s,L,F,h1,h2,h3,h4,rfl,h6,h7,h8,h9⟩:=h
 refine wh_pop_no h1 ?_
 cases hq:L 257 with
 | nil=>rfl
 | cons i R=>
  exfalso
  have hi:i∈L 257:=by rw[hq];simp
  have:=hd _ _ (h3.at h4 (by omega) hi)
  have:=(h2.due_of (by omega) hi).1 rfl
  omega
theorem wv_pop(h:WV w b X now V fr N)(hd:∃z t,V z=some t/\t<=now):
  Calls Tryz.prog 174 #[.pointer (some ⟨b,0,none⟩)] w fun e w'=>∃z t,V z=some t/\t<=now/\e=.returned (.tuple #[.agg #[.int .i64 z,.int .i64 t],.bool true]) /\
   WV w' b X now (fun y=>if y=z then none else V y) (fr+1) N/\Vg.Touch X w w':=by
 obtain⟨pb,p1,p2,gt,gm,n,s,L,F,h1,h2,h3,h4,rfl,h6,h7,h8,h9⟩:=h
 obtain⟨z,t,hz,ht⟩:=hd
 obtain⟨l,i,hl,hi,_,rfl⟩:=h3.of h4 hz
 have hl7:=(h2.due_of hl hi).2 ht
 subst hl7
 obtain⟨q,q1,q2⟩:=h1.pl
 refine(wh_pop h1 (by intro e;rw[e]at hi;simp at hi) h3.d3 h2.u64).mono ?_
 rintro e w' ⟨i,A,B,hAB,rfl,hw⟩
 obtain⟨v1,v2,v3⟩:=Vg.pop_view h2 h3 h4 hAB (q2.nd 257 (by omega))
 have hi2:i∈L 257:=by rw[hAB];simp
 refine⟨Vg.idT s.T i,Vg.atT s.T i,h3.at h4 (by omega) hi2,(h2.due_of (by omega) hi2).1 rfl,rfl,⟨pb,p1,p2,gt,gm,n,_,_,i::F,hw.1,v1,v2,v3,rfl,by simp[h6],h7,h8,h9⟩,hw.2.mono fun k _ hk=>h9 k hk⟩
theorem wv_insert_range(id at_:Int)(ha:at_<0\/4503599627370496<at_):Calls Tryz.prog 89 #[.pointer (some ⟨b,0,none⟩),.int .i64 id,.int .i64 at_] w fun e w'=>e=.returned (.int .i64 1)/\w=w':=wh_insert_range id at_ ha
theorem wv_insert (id at_:Int) (h:WV w b X now V (fr+1) N) (ha:0<=at_/\at_<=4503599627370496) (hid:(Lit.int .i64 id).wf=true) (hj:V id=none) (hN:N<=4611686018427387904) :
  Calls Tryz.prog 89 #[.pointer (some ⟨b,0,none⟩),.int .i64 id,.int .i64 at_] w fun e w'=>e=.returned (.int .i64 0)/\WV w' b X now (fun y=>if y=id then some at_ else V y) fr (N+1)/\Vg.Touch X w w':=by
 obtain⟨pb,p1,p2,gt,gm,n,s,L,F,h1,h2,h3,h4,rfl,h6,h7,h8,h9⟩:=h
 cases F with
 | nil=>simp at h6
 | cons f F=>
  obtain⟨q,q1,q2⟩:=h1.pl
  have hids:s.ids id=none:=by
   have:=h4 id
   rw[hj]at this
   cases h:s.ids id with
   | none=>rfl
   | some j=>rw[h]at this;simp at this
  refine(wh_insert id at_ h1 h2.now0 ha.1 ha.2 hid hids h2.u64 (by omega) rfl).mono ?_
  rintro e w' ⟨rfl,hw⟩
  obtain⟨v1,v2,v3⟩:=Vg.put_view (id:=id) (at_:=at_) (tn:=s.turns+1) h2 h3 h4 (q2.fr f (by simp)) h1.tl (fun l hl hf=>q2.fd l hl f hf (by simp)) hj hid ha rfl
  exact⟨rfl,⟨pb,p1,p2,gt,gm,n,_,_,F,hw.1,v1,v2,v3,rfl,by simpa using h6,by show 0<=s.turns+1;omega,by show s.turns+1<=((N+1:Nat):Int);omega,h9⟩,hw.2.mono fun k _ hk=>h9 k hk⟩
end
def VNew(w w':World)(n:Nat)(now:Int)(e:Ending):Prop:=∃b X,e=.returned (.tuple #[.pointer (some ⟨b,0,none⟩),.int .i64 0])/\WV w' b X now (fun _=>none) n 0/\(∀k,X k->w.heap.size<=k/\k<w'.heap.size)/\X b/\Vg.Grows w w'
theorem wv_new (now:Int) (n:Nat) (w:World) (h1:0<=now) (h2:now<=4503599627370496) (hn1:1<=n) (hn:n<=4096) :
  Calls Tryz.prog 79 #[.int .i64 now,.int .i64 n] w fun e w'=>VNew w w' n now e:=by
 refine(wh_new now n w h1 h2 hn1 hn).mono ?_
 rintro e w' ⟨b,pb,p1,p2,gt,gm,rfl,hw,hk,hg⟩
 refine⟨b,wown b pb p1 p2 gt gm,rfl,⟨pb,p1,p2,gt,gm,n,_,_,_,hw,⟨⟨h1,h2⟩,fun k=>by show 0<_;omega,fun l hl i hi=>by simp at hi,fun l hl i hi=>by simp at hi,fun k hk j hj=>by show(0:Nat).testBit j=_;simp⟩,⟨fun l hl i hi=>by simp at hi,fun z j hz=>by simp at hz,fun i hi=>?_⟩,fun z=>rfl,rfl,by simp,Int.le_refl _,Int.le_refl _,fun k hk=>hk⟩,fun k hk2=>⟨hk k hk2,hw.lt k hk2⟩,.inl rfl,hg⟩
 show(Lit.int .i64 ((List.replicate (n*3) (0:Int)).getD (i*3) 0)).wf=true
 rw[List.getD_eq_getElem?_getD,List.getElem?_replicate,if_pos (by omega)]
 rfl
end Go.Proofs.YtlkdkgefjipjmaaGreatDoor
