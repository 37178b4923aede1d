/- WheelE, WheelG, WheelQ (put together). -/
import Derived.Test.YtlkdkgefjipjmaaGreatDoorQ6
import Derived.Test.YtlkdkgefjipjmaaGreatDoorQ4
import Derived.Test.YtlkdkgefjipjmaaGreatDoorQ2
import Derived.Test.YtlkdkgefjipjmaaGreatDoorQ0
set_option linter.all false
set_option maxHeartbeats 40000000
set_option maxRecDepth 100000
namespace Vg
open Go
def leastT(T:List Int)(l:List Nat)(t:Int):Int:=l.foldl (fun t i=>min t (T.getD (i*3+1) 0)) t
theorem leastT_snoc(T:List Int)(l:List Nat)(i:Nat)(t:Int):leastT T (l ++ [i]) t=min (leastT T l t) (T.getD (i*3+1) 0):=by unfold leastT;rw[List.foldl_append];rfl
end Vg
namespace Go.Proofs.YtlkdkgefjipjmaaGreatDoor
open Go.ChangeShapes Go.WideShapes Go.ChangeAt Go.RowKit Go.Shelf
attribute [local go_sem] Oper.semAt_some
theorem WO.kept{w w':World}{b pb p1 p2 gt gm n:Nat}{s:Vg.Wl}{L:Nat->List Nat}{F:List Nat}(h:WO w b pb p1 p2 gt gm n s L F)(hk:∀k,wown b pb p1 p2 gt gm k->w'.heap[k]? = w.heap[k]?):WO w' b pb p1 p2 gt gm n s L F:=by
 obtain⟨mn,h1,h2⟩:=h.ids
 exact⟨(hk b (.inl rfl)).trans h.tab,(hk gt (.inr (.inl rfl))).trans h.tim,⟨mn,h1,h2.keep (hk gm (.inr (.inr (.inl rfl))))⟩,h.pl.kept fun k hk2=>hk k (.inr (.inr (.inr hk2))),h.n1,h.n2,h.n3,h.np,h.tl⟩
theorem least_in (b pb p1 p2 gt gm n l:Nat) (s:Vg.Wl) (L:Nat->List Nat) (F:List Nat) (hl:l<258) (LS:List (Vg.En n)) (hLS:LS.map (·.1)=L l) (w:World) (h:WO w b pb p1 p2 gt gm n s L F) (r:Int) (hr:Vg.leastT s.T (LS.map (·.1)) 4503599627370496=r) :
  CallsIn Fence.wide 4 Tryz.prog 181 #[.pointer (some ⟨b,0,none⟩),.int .i64 l] w fun e w'=>e=.returned (.int .i64 r)/\Below w.heap.size w w':=by
 have hlt9:=h.lt
 have hro:Fence.wide.round=none:=rfl
 have hn1:1<=4:=by omega
 have hn4:n<=4096:=by obtain⟨q,q1,q2⟩:=h.pl;exact q1.nn
 have x1:=h.tab
 have hSS:∀k,(wown b pb p1 p2 gt gm k\/k=w.heap.size\/k=w.heap.size+2\/k=w.heap.size+3)->k<w.heap.size+4/\k≠w.heap.size+1:=by
  rintro k (hk|rfl|rfl|rfl)
  ·have:=hlt9 k hk;omega
  all_goals omega
 have hS2:∀k,(wown b pb p1 p2 gt gm k\/k=w.heap.size\/k=w.heap.size+2\/k=w.heap.size+3)->k<((((w.alloc (.cells #[.pointer (some ⟨b,0,none⟩)] 188)).alloc (.cells #[.int .i64 4503599627370496] 2)).alloc (.cells #[.pointer (some ⟨pb,0,none⟩)] 265)).alloc (.cells #[.int .i64 l] 3)).heap.size:=fun k hk=>by
  have:=(hSS k hk).1
  simp only[World.size_alloc];omega
 have HSS:=h_ hSS
 clear hSS
 obtain⟨c_x1,f_x1,p_x1,l_x1,H_x1⟩:=Vg.lay x1;clear x1
 have H_h:=h_ h;have H_hLS:=h_ hLS;have H_hr:=h_ hr;clear h hLS hr
 refine callsIn_of_wp_marks Tryz.func181 rfl trivial ?_ rfl
 simp only[Tryz.ntmps181,List.size_toArray,List.length_cons,List.length_nil,Nat.reduceAdd,Nat.reduceSub,Array.replicate_succ,Array.replicate_zero,List.push_toArray,List.append_toArray,List.nil_append,List.cons_append]
 gi_wp2_with (first|(refine⟨trivial,?_⟩;gi_at_call 207;refine(callsIn_wide.2 (pool_each pb l _)).mono ?_;rintro e w1 ⟨rfl,rfl⟩))
 have bO:=Boxed.new w 188 (.pointer (some ⟨b,0,none⟩))
 have bP:=Boxed.new (w.alloc (.cells #[.pointer (some ⟨b,0,none⟩)] 188)) 2 (.int .i64 4503599627370496)
 have hB0:Below w.heap.size w ((((w.alloc (.cells #[.pointer (some ⟨b,0,none⟩)] 188)).alloc (.cells #[.int .i64 4503599627370496] 2)).alloc (.cells #[.pointer (some ⟨pb,0,none⟩)] 265)).alloc (.cells #[.int .i64 l] 3)):=((((Below.refl _ w).alloc (Nat.le_refl _) _).alloc (by simp) _).alloc (by simp <;> omega) _).alloc (by simp <;> omega) _
 refine wpIn_rangeFunc_ownG hro hn1 (gf:=221) (lb:=#[.pointer (some ⟨w.heap.size+1+1,0,none⟩),.pointer (some ⟨w.heap.size+1+1+1,0,none⟩)]) rfl trivial (enters_of Tryz.func221 (by kernel_rfl) rfl)
  (pool_stops (4-1) (by omega) (fun k=>wown b pb p1 p2 gt gm k\/k=w.heap.size\/k=w.heap.size+2\/k=w.heap.size+3) (w.heap.size+1+1) (w.heap.size+1+1+1) pb p1 p2 n 258 l L F hl LS H_hLS.out _ (fun j hj=>.inl (.inr (.inr (.inr hj)))) (.inr (.inr (.inl rfl))) (.inr (.inr (.inr rfl))) hS2 (by go_simp) (by go_simp) (H_h.out.pl.grows (Vg.gro))) Vg.Kept.trans
  (Vg.Kept.putObj hS2) (Below.refl _ _) (fun _=>rfl)
  (fun pre W=>Boxed W (w.heap.size+1) 2 (.int .i64 (Vg.leastT s.T (pre.map (·.1)) 4503599627370496))/\(Boxed W w.heap.size 188 (.pointer (some ⟨b,0,none⟩))/\(w.heap.size+4<=W.heap.size/\Below w.heap.size w W)))
  (fun _ _ _=>False)
  (OwnFrom.and (Own.from (boxed_own _ _ _) _) (OwnFrom.and (Own.from (boxed_own _ _ _) _) (OwnFrom.and (Vg.ownFrom_size _ _) (ownFrom_below (Nat.le_refl _) (by simp;omega)))))
  (fun _ _ _ _ _ hs _ _=>hs)
  ⟨by have:=(bP.alloc (.cells #[.pointer (some ⟨pb,0,none⟩)] 265)).alloc (.cells #[.int .i64 l] 3);rw[World.size_alloc]at this;exact this,((bO.alloc _).alloc _).alloc _,by simp,hB0⟩
  (fun x=>{ tmps:=#[.pointer (some ⟨b,0,none⟩),.int .i64 l,.pointer (some ⟨w.heap.size,0,none⟩),undef,.int .i64 0,.pointer (some ⟨w.heap.size+1,0,none⟩),.int .i64 (x.1:Nat),.pointer (some ⟨b,0,none⟩),.pointer (some ⟨b,0,none⟩),.pointer (some ⟨b,2,none⟩),.pointer (some ⟨pb,0,none⟩),.int .i64 l,.func (.func 221) #[] #[.pointer (some ⟨w.heap.size+1+1,0,none⟩),.pointer (some ⟨w.heap.size+1+1+1,0,none⟩)],.int .i64 (x.1:Nat),undef,undef,undef,undef,undef,undef,undef,undef,undef,undef,undef,undef],defers:=[] }) ?assign ?body ?done ?stop
 case assign=>
  intro l x W K hK
  gi_wp2
  exact hK
 case body=>
  rintro l pre x W ⟨hv,hu,hsz,hB⟩ hlt
  have hc1:=hv.cell
  have hc2:=hu.cell
  have hf1:=hv.frozen
  have hW:=H_h.out.kept (w':=W) (fun k hk=>hB.block k (hlt9 k hk))
  have y1:=hW.tab
  have x2:=x.2
  have hfI:((x.1:Nat):Int)<n:=by omega
  have hnn:n<=n:=Nat.le_refl _
  have hjT:x.1*3+1<s.T.length:=by rw[hW.tl];omega
  have cT1:=Vg.rowP_cell hW.tim (List.getElem?_eq_getElem hjT)
  obtain⟨v,hv9⟩:∃v,s.T[x.1*3+1]=v:=⟨_,rfl⟩
  have hsn:=Vg.leastT_snoc s.T (pre.map (·.1)) x.1 4503599627370496
  rw[List.getD_eq_getElem?_getD,List.getElem?_eq_getElem hjT,Option.getD_some,hv9]at hsn
  obtain⟨q,hq⟩:∃q,Vg.leastT s.T (pre.map (·.1)) 4503599627370496=q:=⟨_,rfl⟩
  rw[hq]at hsn hc1 hv
  rw[hv9]at cT1
  obtain⟨c_y1,f_y1,p_y1,l_y1,H_y1⟩:=Vg.lay y1;clear y1
  have HB:=h_ hB
  have HV:=h_ hv
  have HU:=h_ hu
  clear hB hv hu
  have H_hW:=h_ hW;have H_hsn:=h_ hsn;have H_hq:=h_ hq;have H_hv9:=h_ hv9;clear hW hsn hq hv9
  have hfin:∀z,z=min q v->(∀B,KeepsFrom B W (W.setCell ⟨w.heap.size+1,0,none⟩ (.int .i64 z)).drew)/\Vg.Kept (fun k=>wown b pb p1 p2 gt gm k\/k=w.heap.size\/k=w.heap.size+2\/k=w.heap.size+3) W (W.setCell ⟨w.heap.size+1,0,none⟩ (.int .i64 z)).drew /\
    Boxed (W.setCell ⟨w.heap.size+1,0,none⟩ (.int .i64 z)).drew (w.heap.size+1) 2 (.int .i64 (Vg.leastT s.T ((pre ++ [x]).map (·.1)) 4503599627370496))/\(Boxed (W.setCell ⟨w.heap.size+1,0,none⟩ (.int .i64 z)).drew w.heap.size 188 (.pointer (some ⟨b,0,none⟩))/\(w.heap.size+4<=(W.setCell ⟨w.heap.size+1,0,none⟩ (.int .i64 z)).drew.heap.size/\Below w.heap.size w (W.setCell ⟨w.heap.size+1,0,none⟩ (.int .i64 z)).drew)):=fun z hz=>by
   refine⟨fun B=>((KeepsOthers.setCell _ _ _).trans (KeepsOthers.drew _)).from B,⟨by show _<=(W.setCell _ _).heap.size;rw[World.size_setCell];exact Nat.le_refl _,fun k hk=>?_⟩,?_,?_,by show _<=(W.setCell _ _).heap.size;rw[World.size_setCell];exact hsz,?_⟩
   ·exact Below.heap_setCell _ _ _ k (HSS.out k hk).2
   ·rw[List.map_append,List.map_cons,List.map_nil,H_hsn.out,<-hz]
    exact HV.out.set _
   ·have h9:Boxed (W.setCell ⟨w.heap.size+1,0,none⟩ (.int .i64 z)) w.heap.size 188 (.pointer (some ⟨b,0,none⟩)):=HU.out.kept (grownBy_setCell' W (w.heap.size+1) _) (by simp)
    exact h9
   ·exact(HB.out.trans ((Below.refl _ W).setCell (p:=⟨w.heap.size+1,0,none⟩) (show w.heap.size<=w.heap.size+1 by omega) _)).drew
  by_cases hvq:v<q
  ·have hf9:=hfin v (by omega)
   clear hfin
   have H_hf9:=h_ hf9;clear hf9
   gi_wp2
   gi_region
   all_goals gi_wp2
   all_goals exact⟨H_hf9.out.1 _,H_hf9.out.2⟩
  ·have hf9:=hfin q (by omega)
   clear hfin
   have H_hf9:=h_ hf9;clear hf9
   gi_wp2
   gi_region
   all_goals gi_wp2
   all_goals exact⟨H_hf9.out.1 _,H_hf9.out.2⟩
 case done=>
  rintro D ys W hD rfl ⟨hv,hu,hsz,hB⟩ hK
  have hc:=hv.cell
  rw[H_hr.out]at hc
  have H_hv:=h_ hv;have H_hu:=h_ hu;have H_hB:=h_ hB;clear hv hu hB
  gi_wp2
  refine⟨by simp,.inl ⟨_,_,rfl,run_takeDeferred hK,?_⟩⟩
  exact⟨_,results_tmp rfl _ _ _,rfl,H_hB.out.trans (belowK_b (w:=w) (Nat.le_refl _) W D _ _ (by simp at hD;omega) hK rfl rfl)⟩
 case stop=>
  rintro D c pre W _ _ h _
  exact h.elim
theorem wh_least{w:World}{b pb p1 p2 gt gm n:Nat}{s:Vg.Wl}{L:Nat->List Nat}{F:List Nat}(l:Nat)(hl:l<258)(h:WO w b pb p1 p2 gt gm n s L F){r:Int}(hr:Vg.leastT s.T (L l) 4503599627370496=r):
  Calls Tryz.prog 181 #[.pointer (some ⟨b,0,none⟩),.int .i64 l] w fun e w'=>e=.returned (.int .i64 r)/\Vg.Grows w w':=by
 obtain⟨q,q1,q2⟩:=h.pl
 obtain⟨LS,hLS⟩:∃LS:List (Vg.En n),LS.map (·.1)=L l:=⟨(L l).attach.map fun x=>⟨x.1,q2.rng l hl x.1 x.2⟩,by simp[List.map_map,Function.comp_def]⟩
 refine((callsIn_wide (n:=4)).1 (least_in b pb p1 p2 gt gm n l s L F hl LS hLS w h r (by rw[hLS];exact hr))).mono ?_
 rintro e w' ⟨rfl,hb⟩
 exact⟨rfl,Vg.Grows.of_below hb⟩
end Go.Proofs.YtlkdkgefjipjmaaGreatDoor
namespace Vg
open Go
def noneU(s:Wl)(k:Nat):Prop:=aftB (s.U k) (slotn s.now k).toNat=(0,false)
inductive Ahd (s:Wl)(L:Nat->List Nat):Int->Int->Bool->Prop where
 | lo (k:Nat)(t:Int)(hk:k<4)(h1:∀j,j<k->noneU s j)(h2:aftB (s.U k) (slotn s.now k).toNat=(t,true)):Ahd s L (k*64+t) (startn s.now k t) true
 | far (h1:∀j,j<4->noneU s j)(h2:L 256 ≠ []):Ahd s L 256 (leastT s.T (L 256) 4503599627370496/16777216*16777216) true
 | no (h1:∀j,j<4->noneU s j)(h2:L 256=[]):Ahd s L 0 0 false
theorem leastT_rng {T:List Int} {l:List Nat} (h:∀i∈l,0<=T.getD (i*3+1) 0):∀{t:Int},0<=t->0<=leastT T l t/\leastT T l t<=t:=by
 induction l with
 | nil=>intro t ht;exact⟨ht,Int.le_refl _⟩
 | cons i l ih=>
  intro t ht
  have h1:=h i (by simp)
  obtain⟨a,b⟩:=ih (fun j hj=>h j (by simp[hj])) (t:=min t (T.getD (i*3+1) 0)) (by omega)
  have e:leastT T (i :: l) t=leastT T l (min t (T.getD (i*3+1) 0)):=rfl
  rw[e]
  omega
theorem aftB_no{x n:Nat}{r:Int}(h:aftB x n=(r,false)):aftB x n=(0,false):=by
 unfold aftB at h ⊢
 split at h
 ·rename_i h1;rw[if_pos h1]
 ·simp at h
theorem aftB_rng{x n:Nat}{r:Int}(hx:x<18446744073709551616)(h:aftB x n=(r,true)):0<=r/\r<64:=by
 rcases aft_spec hx h with⟨h1,_⟩|⟨_,t,rfl,_,h2,_⟩
 ·simp at h1
 ·omega
end Vg
namespace Go.Proofs.YtlkdkgefjipjmaaGreatDoor
open Go.ChangeShapes Go.WideShapes Go.ChangeAt Go.RowKit
section
variable {w w0 w':World}{b pb p1 p2 gt gm n l i:Nat}{s:Vg.Wl}{L L':Nat->List Nat}{F F' A B:List Nat}
theorem wh_ahead (h:WO w b pb p1 p2 gt gm n s L F) (hT:Vg.Tab w) (h0:0<=s.now/\s.now<=4503599627370496) (hu:∀k,s.U k<18446744073709551616) (hL:∀i∈L 256,0<=s.T.getD (i*3+1) 0) :
  Calls Tryz.prog 113 #[.pointer (some ⟨b,0,none⟩)] w fun e w'=>(∃r a is,e=.returned (.tuple #[.int .i64 r,.int .i64 a,.bool is])/\Vg.Ahd s L r a is)/\Vg.Grows w w':=by
 have x1:=h.tab
 obtain⟨now,hnow⟩:∃now,s.now=now:=⟨_,rfl⟩
 have hAat:=fun(k:Nat) (t:Int) (hk:k<4) h1 h2=>Vg.Ahd.lo (s:=s) (L:=L) k t hk h1 h2
 have hnone:∀k,Vg.noneU s k=(Vg.aftB (s.U k) (Vg.slotn s.now k).toNat=(0,false)):=fun _=>rfl
 rw[hnow]at x1 h0 hAat
 simp only[hnow]at hnone
 obtain⟨h00,h01⟩:=h0
 have hsl:∀k,0<=Vg.slotn now k/\Vg.slotn now k<64:=fun k=>by unfold Vg.slotn;omega
 obtain⟨c_x1,f_x1,p_x1,l_x1,H_x1⟩:=Vg.lay x1;clear x1
 have H_h:=h_ h;have H_hT:=h_ hT;have H_hL:=h_ hL;have H_hsl:=h_ hsl;have H_hu:=h_ hu;have H_hAat:=h_ hAat;have H_hnone:=h_ hnone;have H_hnow:=h_ hnow;clear h hT hL hsl hu hAat hnone hnow
 go_enter Tryz.func113,Tryz.ntmps113
 go_wp2
 go_loopw [11] (fun i wr=>∃k:Nat,k<=4/\i=.int .i64 k/\Vg.Grows w wr/\∀j,j<k->Vg.noneU s j) (fun i _=>4-(intOf i).toNat)
 case atStart=>exact⟨0,by omega,rfl,Vg.Grows.refl _,fun j hj=>by omega⟩
 case round=>
  obtain⟨k,hk,rfl,hgr,hpre⟩:=hrel
  clear c_x1 f_x1 p_x1 l_x1
  have x2:=hgr.blk H_x1.out
  obtain⟨c_x2,f_x2,p_x2,l_x2,H_x2⟩:=Vg.lay x2;clear x2
  have hc:k=0\/k=1\/k=2\/k=3\/k=4:=by omega
  rcases hc with rfl|rfl|rfl|rfl|rfl
  ·obtain⟨⟨t,is⟩,hti⟩:∃p,Vg.aftB (s.U 0) (Vg.slotn now 0).toNat=p:=⟨_,rfl⟩
   have hs:=H_hsl.out 0
   have hslk:∀wz,Calls Tryz.prog 178 #[.int .i64 now,.int .i64 0] wz fun e w'=>e=.returned (.int .i64 (Vg.slotn now 0))/\wz=w':=fun wz=>wh_slot now 0 wz (by omega) h00 h01
   have htn:((Vg.slotn now 0).toNat:Int)=Vg.slotn now 0:=by omega
   have hak:∀wz,Vg.Grows w wz->Calls Tryz.prog 177 #[.int .u64 (s.U 0:Nat),.int .i64 (Vg.slotn now 0)] wz fun e w'=>e=.returned (.tuple #[.int .i64 t,.bool is])/\wz=w':=fun wz hg=>by
    have h9:=bits_after (s.U 0) (Vg.slotn now 0).toNat (by omega) (H_hu.out 0) wz (H_hT.out.grows hg) hti
    rw[htn]at h9
    exact h9
   cases is with
   | true=>
    have hr:=Vg.aftB_rng (H_hu.out 0) hti
    have hsk:∀wz,Calls Tryz.prog 179 #[.int .i64 now,.int .i64 0,.int .i64 t] wz fun e w'=>e=.returned (.int .i64 (Vg.startn now 0 t))/\Vg.Grows wz w':=fun wz=>wh_start now 0 t wz (by omega) h00 h01 hr
    have hA:=H_hAat.out 0 t (by omega) hpre hti
    have hw9:IntKind.i64.wrap (0*64+t)=0*64+t:=by rw[IntKind.wrap_i64];omega
    have H_hpre:=h_ hpre;have H_hgr:=h_ hgr;have H_hs:=h_ hs;have H_hslk:=h_ hslk;have H_hak:=h_ hak;have H_hsk:=h_ hsk;have H_hti:=h_ hti;have H_hr:=h_ hr;have H_hA:=h_ hA;clear hpre hgr hs hslk hak hsk hti hr hA
    go_upto_region 4 with fail
    go_quiet ((first|(go_at_call 178;with_reducible refine(H_hslk.out _).mono ?_;rintro e w1 ⟨rfl,rfl⟩;exact⟨rfl,_,rfl⟩)|(go_at_call 177;with_reducible refine(H_hak.out _ (by have h9:=H_hgr.out;exact Vg.gro)).mono ?_;rintro e w1 ⟨rfl,rfl⟩;exact⟨rfl,_,rfl⟩)))
    go_wp2_with ((go_at_call 179;(with_reducible refine(H_hsk.out _).mono ?_);rintro e w3 ⟨rfl,hg3⟩;have H_hg3:=h_ hg3;clear hg3))
    go_returns
    refine⟨⟨_,_,_,rfl,Eq.mp (congrArg (fun z=>Vg.Ahd s L z _ _) ?_) H_hA.out⟩,by have h9:=H_hgr.out;have h7:=(show Vg.Grows w _ from Vg.gro).trans H_hg3.out;exact Vg.gro⟩
    obtain⟨q1,q2⟩:=H_hr.out
    simp[wrap64]
    try omega
   | false=>
    have hpre2:∀j,j<0+1->Vg.noneU s j:=fun j hj=>by
     by_cases hj2:j=0
     ·subst hj2;rw[H_hnone.out];exact Vg.aftB_no hti
     ·exact hpre j (by omega)
    have H_hpre:=h_ hpre;have H_hgr:=h_ hgr;have H_hs:=h_ hs;have H_hslk:=h_ hslk;have H_hak:=h_ hak;have H_hti:=h_ hti;have H_hpre2:=h_ hpre2;clear hpre hgr hs hslk hak hti hpre2
    go_upto_region 4 with fail
    go_quiet ((first|(go_at_call 178;with_reducible refine(H_hslk.out _).mono ?_;rintro e w1 ⟨rfl,rfl⟩;exact⟨rfl,_,rfl⟩)|(go_at_call 177;with_reducible refine(H_hak.out _ (by have h9:=H_hgr.out;exact Vg.gro)).mono ?_;rintro e w1 ⟨rfl,rfl⟩;exact⟨rfl,_,rfl⟩)))
    go_wp2_with fail
    exact⟨⟨0+1,by omega,by go_num,by have h9:=H_hgr.out;exact Vg.gro,H_hpre2.out⟩,by simp[intOf]⟩
  ·obtain⟨⟨t,is⟩,hti⟩:∃p,Vg.aftB (s.U 1) (Vg.slotn now 1).toNat=p:=⟨_,rfl⟩
   have hs:=H_hsl.out 1
   have hslk:∀wz,Calls Tryz.prog 178 #[.int .i64 now,.int .i64 1] wz fun e w'=>e=.returned (.int .i64 (Vg.slotn now 1))/\wz=w':=fun wz=>wh_slot now 1 wz (by omega) h00 h01
   have htn:((Vg.slotn now 1).toNat:Int)=Vg.slotn now 1:=by omega
   have hak:∀wz,Vg.Grows w wz->Calls Tryz.prog 177 #[.int .u64 (s.U 1:Nat),.int .i64 (Vg.slotn now 1)] wz fun e w'=>e=.returned (.tuple #[.int .i64 t,.bool is])/\wz=w':=fun wz hg=>by
    have h9:=bits_after (s.U 1) (Vg.slotn now 1).toNat (by omega) (H_hu.out 1) wz (H_hT.out.grows hg) hti
    rw[htn]at h9
    exact h9
   cases is with
   | true=>
    have hr:=Vg.aftB_rng (H_hu.out 1) hti
    have hsk:∀wz,Calls Tryz.prog 179 #[.int .i64 now,.int .i64 1,.int .i64 t] wz fun e w'=>e=.returned (.int .i64 (Vg.startn now 1 t))/\Vg.Grows wz w':=fun wz=>wh_start now 1 t wz (by omega) h00 h01 hr
    have hA:=H_hAat.out 1 t (by omega) hpre hti
    have hw9:IntKind.i64.wrap (1*64+t)=1*64+t:=by rw[IntKind.wrap_i64];omega
    have H_hpre:=h_ hpre;have H_hgr:=h_ hgr;have H_hs:=h_ hs;have H_hslk:=h_ hslk;have H_hak:=h_ hak;have H_hsk:=h_ hsk;have H_hti:=h_ hti;have H_hr:=h_ hr;have H_hA:=h_ hA;clear hpre hgr hs hslk hak hsk hti hr hA
    go_upto_region 4 with fail
    go_quiet ((first|(go_at_call 178;with_reducible refine(H_hslk.out _).mono ?_;rintro e w1 ⟨rfl,rfl⟩;exact⟨rfl,_,rfl⟩)|(go_at_call 177;with_reducible refine(H_hak.out _ (by have h9:=H_hgr.out;exact Vg.gro)).mono ?_;rintro e w1 ⟨rfl,rfl⟩;exact⟨rfl,_,rfl⟩)))
    go_wp2_with ((go_at_call 179;(with_reducible refine(H_hsk.out _).mono ?_);rintro e w3 ⟨rfl,hg3⟩;have H_hg3:=h_ hg3;clear hg3))
    go_returns
    refine⟨⟨_,_,_,rfl,Eq.mp (congrArg (fun z=>Vg.Ahd s L z _ _) ?_) H_hA.out⟩,by have h9:=H_hgr.out;have h7:=(show Vg.Grows w _ from Vg.gro).trans H_hg3.out;exact Vg.gro⟩
    obtain⟨q1,q2⟩:=H_hr.out
    simp[wrap64]
    try omega
   | false=>
    have hpre2:∀j,j<1+1->Vg.noneU s j:=fun j hj=>by
     by_cases hj2:j=1
     ·subst hj2;rw[H_hnone.out];exact Vg.aftB_no hti
     ·exact hpre j (by omega)
    have H_hpre:=h_ hpre;have H_hgr:=h_ hgr;have H_hs:=h_ hs;have H_hslk:=h_ hslk;have H_hak:=h_ hak;have H_hti:=h_ hti;have H_hpre2:=h_ hpre2;clear hpre hgr hs hslk hak hti hpre2
    go_upto_region 4 with fail
    go_quiet ((first|(go_at_call 178;with_reducible refine(H_hslk.out _).mono ?_;rintro e w1 ⟨rfl,rfl⟩;exact⟨rfl,_,rfl⟩)|(go_at_call 177;with_reducible refine(H_hak.out _ (by have h9:=H_hgr.out;exact Vg.gro)).mono ?_;rintro e w1 ⟨rfl,rfl⟩;exact⟨rfl,_,rfl⟩)))
    go_wp2_with fail
    exact⟨⟨1+1,by omega,by go_num,by have h9:=H_hgr.out;exact Vg.gro,H_hpre2.out⟩,by simp[intOf]⟩
  ·obtain⟨⟨t,is⟩,hti⟩:∃p,Vg.aftB (s.U 2) (Vg.slotn now 2).toNat=p:=⟨_,rfl⟩
   have hs:=H_hsl.out 2
   have hslk:∀wz,Calls Tryz.prog 178 #[.int .i64 now,.int .i64 2] wz fun e w'=>e=.returned (.int .i64 (Vg.slotn now 2))/\wz=w':=fun wz=>wh_slot now 2 wz (by omega) h00 h01
   have htn:((Vg.slotn now 2).toNat:Int)=Vg.slotn now 2:=by omega
   have hak:∀wz,Vg.Grows w wz->Calls Tryz.prog 177 #[.int .u64 (s.U 2:Nat),.int .i64 (Vg.slotn now 2)] wz fun e w'=>e=.returned (.tuple #[.int .i64 t,.bool is])/\wz=w':=fun wz hg=>by
    have h9:=bits_after (s.U 2) (Vg.slotn now 2).toNat (by omega) (H_hu.out 2) wz (H_hT.out.grows hg) hti
    rw[htn]at h9
    exact h9
   cases is with
   | true=>
    have hr:=Vg.aftB_rng (H_hu.out 2) hti
    have hsk:∀wz,Calls Tryz.prog 179 #[.int .i64 now,.int .i64 2,.int .i64 t] wz fun e w'=>e=.returned (.int .i64 (Vg.startn now 2 t))/\Vg.Grows wz w':=fun wz=>wh_start now 2 t wz (by omega) h00 h01 hr
    have hA:=H_hAat.out 2 t (by omega) hpre hti
    have hw9:IntKind.i64.wrap (2*64+t)=2*64+t:=by rw[IntKind.wrap_i64];omega
    have H_hpre:=h_ hpre;have H_hgr:=h_ hgr;have H_hs:=h_ hs;have H_hslk:=h_ hslk;have H_hak:=h_ hak;have H_hsk:=h_ hsk;have H_hti:=h_ hti;have H_hr:=h_ hr;have H_hA:=h_ hA;clear hpre hgr hs hslk hak hsk hti hr hA
    go_upto_region 4 with fail
    go_quiet ((first|(go_at_call 178;with_reducible refine(H_hslk.out _).mono ?_;rintro e w1 ⟨rfl,rfl⟩;exact⟨rfl,_,rfl⟩)|(go_at_call 177;with_reducible refine(H_hak.out _ (by have h9:=H_hgr.out;exact Vg.gro)).mono ?_;rintro e w1 ⟨rfl,rfl⟩;exact⟨rfl,_,rfl⟩)))
    go_wp2_with ((go_at_call 179;(with_reducible refine(H_hsk.out _).mono ?_);rintro e w3 ⟨rfl,hg3⟩;have H_hg3:=h_ hg3;clear hg3))
    go_returns
    refine⟨⟨_,_,_,rfl,Eq.mp (congrArg (fun z=>Vg.Ahd s L z _ _) ?_) H_hA.out⟩,by have h9:=H_hgr.out;have h7:=(show Vg.Grows w _ from Vg.gro).trans H_hg3.out;exact Vg.gro⟩
    obtain⟨q1,q2⟩:=H_hr.out
    simp[wrap64]
    try omega
   | false=>
    have hpre2:∀j,j<2+1->Vg.noneU s j:=fun j hj=>by
     by_cases hj2:j=2
     ·subst hj2;rw[H_hnone.out];exact Vg.aftB_no hti
     ·exact hpre j (by omega)
    have H_hpre:=h_ hpre;have H_hgr:=h_ hgr;have H_hs:=h_ hs;have H_hslk:=h_ hslk;have H_hak:=h_ hak;have H_hti:=h_ hti;have H_hpre2:=h_ hpre2;clear hpre hgr hs hslk hak hti hpre2
    go_upto_region 4 with fail
    go_quiet ((first|(go_at_call 178;with_reducible refine(H_hslk.out _).mono ?_;rintro e w1 ⟨rfl,rfl⟩;exact⟨rfl,_,rfl⟩)|(go_at_call 177;with_reducible refine(H_hak.out _ (by have h9:=H_hgr.out;exact Vg.gro)).mono ?_;rintro e w1 ⟨rfl,rfl⟩;exact⟨rfl,_,rfl⟩)))
    go_wp2_with fail
    exact⟨⟨2+1,by omega,by go_num,by have h9:=H_hgr.out;exact Vg.gro,H_hpre2.out⟩,by simp[intOf]⟩
  ·obtain⟨⟨t,is⟩,hti⟩:∃p,Vg.aftB (s.U 3) (Vg.slotn now 3).toNat=p:=⟨_,rfl⟩
   have hs:=H_hsl.out 3
   have hslk:∀wz,Calls Tryz.prog 178 #[.int .i64 now,.int .i64 3] wz fun e w'=>e=.returned (.int .i64 (Vg.slotn now 3))/\wz=w':=fun wz=>wh_slot now 3 wz (by omega) h00 h01
   have htn:((Vg.slotn now 3).toNat:Int)=Vg.slotn now 3:=by omega
   have hak:∀wz,Vg.Grows w wz->Calls Tryz.prog 177 #[.int .u64 (s.U 3:Nat),.int .i64 (Vg.slotn now 3)] wz fun e w'=>e=.returned (.tuple #[.int .i64 t,.bool is])/\wz=w':=fun wz hg=>by
    have h9:=bits_after (s.U 3) (Vg.slotn now 3).toNat (by omega) (H_hu.out 3) wz (H_hT.out.grows hg) hti
    rw[htn]at h9
    exact h9
   cases is with
   | true=>
    have hr:=Vg.aftB_rng (H_hu.out 3) hti
    have hsk:∀wz,Calls Tryz.prog 179 #[.int .i64 now,.int .i64 3,.int .i64 t] wz fun e w'=>e=.returned (.int .i64 (Vg.startn now 3 t))/\Vg.Grows wz w':=fun wz=>wh_start now 3 t wz (by omega) h00 h01 hr
    have hA:=H_hAat.out 3 t (by omega) hpre hti
    have hw9:IntKind.i64.wrap (3*64+t)=3*64+t:=by rw[IntKind.wrap_i64];omega
    have H_hpre:=h_ hpre;have H_hgr:=h_ hgr;have H_hs:=h_ hs;have H_hslk:=h_ hslk;have H_hak:=h_ hak;have H_hsk:=h_ hsk;have H_hti:=h_ hti;have H_hr:=h_ hr;have H_hA:=h_ hA;clear hpre hgr hs hslk hak hsk hti hr hA
    go_upto_region 4 with fail
    go_quiet ((first|(go_at_call 178;with_reducible refine(H_hslk.out _).mono ?_;rintro e w1 ⟨rfl,rfl⟩;exact⟨rfl,_,rfl⟩)|(go_at_call 177;with_reducible refine(H_hak.out _ (by have h9:=H_hgr.out;exact Vg.gro)).mono ?_;rintro e w1 ⟨rfl,rfl⟩;exact⟨rfl,_,rfl⟩)))
    go_wp2_with ((go_at_call 179;(with_reducible refine(H_hsk.out _).mono ?_);rintro e w3 ⟨rfl,hg3⟩;have H_hg3:=h_ hg3;clear hg3))
    go_returns
    refine⟨⟨_,_,_,rfl,Eq.mp (congrArg (fun z=>Vg.Ahd s L z _ _) ?_) H_hA.out⟩,by have h9:=H_hgr.out;have h7:=(show Vg.Grows w _ from Vg.gro).trans H_hg3.out;exact Vg.gro⟩
    obtain⟨q1,q2⟩:=H_hr.out
    simp[wrap64]
    try omega
   | false=>
    have hpre2:∀j,j<3+1->Vg.noneU s j:=fun j hj=>by
     by_cases hj2:j=3
     ·subst hj2;rw[H_hnone.out];exact Vg.aftB_no hti
     ·exact hpre j (by omega)
    have H_hpre:=h_ hpre;have H_hgr:=h_ hgr;have H_hs:=h_ hs;have H_hslk:=h_ hslk;have H_hak:=h_ hak;have H_hti:=h_ hti;have H_hpre2:=h_ hpre2;clear hpre hgr hs hslk hak hti hpre2
    go_upto_region 4 with fail
    go_quiet ((first|(go_at_call 178;with_reducible refine(H_hslk.out _).mono ?_;rintro e w1 ⟨rfl,rfl⟩;exact⟨rfl,_,rfl⟩)|(go_at_call 177;with_reducible refine(H_hak.out _ (by have h9:=H_hgr.out;exact Vg.gro)).mono ?_;rintro e w1 ⟨rfl,rfl⟩;exact⟨rfl,_,rfl⟩)))
    go_wp2_with fail
    exact⟨⟨3+1,by omega,by go_num,by have h9:=H_hgr.out;exact Vg.gro,H_hpre2.out⟩,by simp[intOf]⟩
  ·obtain⟨ff,hff⟩:∃ff,(L 256).headD 0=ff:=⟨_,rfl⟩
   have hfk:∀wz is,Vg.Grows w wz->(!(L 256).isEmpty)=is->Calls Tryz.prog 180 #[.pointer (some ⟨pb,0,none⟩),.int .i64 256] wz fun e w'=>e=.returned (.tuple #[.int .i64 ff,.bool is])/\wz=w':=fun wz is hg his=>pool_first 256 (H_h.out.pl.grows hg) (by omega) hff his
   by_cases hem:L 256=[]
   ·have his:(!(L 256).isEmpty)=false:=by rw[hem];rfl
    have hA:=Vg.Ahd.no (s:=s) (L:=L) hpre hem
    have H_hpre:=h_ hpre;have H_hgr:=h_ hgr;have H_hfk:=h_ hfk;have H_his:=h_ his;have H_hA:=h_ hA;have H_hem:=h_ hem;have H_hff:=h_ hff;clear hpre hgr hfk his hA hem hff
    go_wp2_with ((go_at_call 180;(with_reducible refine(H_hfk.out _ _ (by have h9:=H_hgr.out;exact Vg.gro) H_his.out).mono ?_);rintro e w1 ⟨rfl,rfl⟩))
    go_returns
    exact⟨⟨_,_,_,rfl,H_hA.out⟩,by have h9:=H_hgr.out;exact Vg.gro⟩
   ·have his:(!(L 256).isEmpty)=true:=by cases hq:L 256 with|nil=>exact absurd hq hem|cons a l=>rfl
    have hA:=Vg.Ahd.far (s:=s) (L:=L) hpre hem
    obtain⟨v,hv⟩:∃v,Vg.leastT s.T (L 256) 4503599627370496=v:=⟨_,rfl⟩
    rw[hv]at hA
    have hv0:0<=v/\v<=4503599627370496:=by rw[<-hv];exact Vg.leastT_rng H_hL.out (by omega)
    obtain⟨hv1,hv2⟩:=hv0
    have hlk:∀wz,Vg.Grows w wz->Calls Tryz.prog 181 #[.pointer (some ⟨b,0,none⟩),.int .i64 256] wz fun e w'=>e=.returned (.int .i64 v)/\Vg.Grows wz w':=fun wz hg=>wh_least 256 (by omega) (H_h.out.grows hg) hv
    have f4:v.fdiv 16777216=v / 16777216:=Int.fdiv_eq_ediv_of_nonneg _ (by omega)
    have w4:IntKind.i64.wrap (v / 16777216*16777216)=v / 16777216*16777216:=by rw[IntKind.wrap_i64];omega
    have H_hpre:=h_ hpre;have H_hgr:=h_ hgr;have H_hfk:=h_ hfk;have H_his:=h_ his;have H_hA:=h_ hA;have H_hem:=h_ hem;have H_hff:=h_ hff;have H_hv:=h_ hv;have H_hlk:=h_ hlk;clear hpre hgr hfk his hA hem hff hv hlk
    go_upto_region 11 with((go_at_call 180;(with_reducible refine(H_hfk.out _ _ (by have h9:=H_hgr.out;exact Vg.gro) H_his.out).mono ?_);rintro e w1 ⟨rfl,rfl⟩))
    go_region_with ((go_at_call 181;(with_reducible refine(H_hlk.out _ (by have h9:=H_hgr.out;exact Vg.gro)).mono ?_);rintro e w3 ⟨rfl,hg3⟩;have H_hg3:=h_ hg3;clear hg3))
    all_goals
     go_wp2_with fail
     go_returns
     exact⟨⟨_,_,_,rfl,H_hA.out⟩,by have h9:=H_hgr.out;have h7:=(show Vg.Grows w _ from Vg.gro).trans H_hg3.out;exact Vg.gro⟩
end
end Go.Proofs.YtlkdkgefjipjmaaGreatDoor
namespace Vg
open Go
section
variable {s:Wl}{L:Nat->List Nat}
theorem leastT_le {T:List Int}:∀{l:List Nat} {t:Int},leastT T l t<=t/\∀i∈l,leastT T l t<=atT T i
 | [],t=>⟨Int.le_refl _,fun i hi=>by simp at hi⟩
 | i :: l,t=>by
  have e:leastT T (i :: l) t=leastT T l (min t (atT T i)):=rfl
  obtain⟨a,b⟩:=leastT_le (T:=T) (l:=l) (t:=min t (atT T i))
  rw[e]
  refine⟨by omega,fun j hj=>?_⟩
  rcases List.mem_cons.1 hj with rfl|hj
  ·omega
  ·exact b j hj
theorem leastT_mem {T:List Int}:∀{l:List Nat} {t:Int},leastT T l t=t \/ ∃i∈l,leastT T l t=atT T i
 | [],t=>.inl rfl
 | i :: l,t=>by
  have e:leastT T (i :: l) t=leastT T l (min t (atT T i)):=rfl
  rw[e]
  rcases leastT_mem (T:=T) (l:=l) (t:=min t (atT T i))with a|⟨j,hj,a⟩
  ·rw[a]
   by_cases h:t<=atT T i
   ·exact .inl (by omega)
   ·exact .inr ⟨i,by simp,by omega⟩
  ·exact .inr ⟨j,by simp[hj],a⟩
theorem WI.least (h:WI s L) {l:Nat} (hl:l<258) (hne:L l ≠ []):(∃i∈L l,leastT s.T (L l) 4503599627370496=atT s.T i)/\∀i∈L l,leastT s.T (L l) 4503599627370496<=atT s.T i:=by
 obtain⟨a,b⟩:=leastT_le (T:=s.T) (l:=L l) (t:=4503599627370496)
 refine⟨?_,b⟩
 rcases leastT_mem (T:=s.T) (l:=L l) (t:=4503599627370496)with c|c
 ·cases hq:L l with
  | nil=>exact absurd hq hne
  | cons i r=>
   have hi:i∈L l:=by rw[hq];simp
   have h1:=b i hi
   have h2:=(h.at0 l hl i hi).2
   rw[<-hq]
   exact⟨i,hi,by omega⟩
 ·exact c
theorem WI.gt(h:WI s L){k j:Nat}(hk:k<4)(hj:j<64){i:Nat}(hi:i∈L (k*64+j)):slotn s.now k<j:=by
 have h1:=h.hm _ (by omega) i hi
 have h2:=h.now0.1
 have h3:=(h.at0 _ (by omega) i hi).1
 have hc:k=0\/k=1\/k=2\/k=3:=by omega
 rcases hc with rfl|rfl|rfl|rfl
 ·rw[show 0*64+j=j by omega,home_l0 h2 h3 hj]at h1
  simp only[slotn,lev];omega
 ·rw[show 1*64+j=64+j by omega,home_l1 h2 h3 hj]at h1
  simp only[slotn,lev];omega
 ·rw[show 2*64+j=128+j by omega,home_l2 h2 h3 hj]at h1
  simp only[slotn,lev];omega
 ·rw[show 3*64+j=192+j by omega,home_l3 h2 h3 hj]at h1
  simp only[slotn,lev];omega
theorem slotn_rng(t:Int)(k:Nat):0<=slotn t k/\slotn t k<64:=by unfold slotn;omega
theorem WI.none(h:WI s L){k:Nat}(hk:k<4)(hn:noneU s k):∀j,j<64->L (k*64+j)=[]:=fun j hj=>by
 cases hq:L (k*64+j)with
 | nil=>rfl
 | cons i r=>
  exfalso
  have hi:i∈L (k*64+j):=by rw[hq];simp
  have h1:=h.gt hk hj hi
  have h2:=slotn_rng s.now k
  have h3:=h.full k hk j hj
  rw[hq]at h3
  rcases aft_spec (h.u64 k) hn with⟨_,_,h4⟩|⟨h4,_⟩
  ·rw[h4 j (by omega)]at h3
   simp at h3
  ·simp at h4
theorem WI.low(h:WI s L){k:Nat}{t:Int}(hk:k<4)(hn:∀j,j<k->noneU s j)(ha:aftB (s.U k) (slotn s.now k).toNat=(t,true)):
  slotn s.now k<t/\t<64/\L (k*64+t.toNat) ≠ []/\∀l,l<258->∀i∈L l,(k*64+t.toNat)<=l:=by
 rcases aft_spec (h.u64 k) ha with⟨h1,_⟩|⟨_,m,rfl,h1,h2,h3,h4⟩
 ·simp at h1
 have hs:=slotn_rng s.now k
 refine⟨by omega,by omega,?_,fun l hl i hi=>?_⟩
 ·have:=h.full k hk m h2
  rw[h3]at this
  intro e
  rw[show((m:Int).toNat)=m by omega]at e
  rw[e]at this
  simp at this
 ·rw[show((m:Int).toNat)=m by omega]
  refine Nat.le_of_not_lt fun hlt=>?_
  by_cases hlk:l/64<k
  ·have:=h.none (k:=l/64) (by omega) (hn _ hlk) (l%64) (Nat.mod_lt _ (by omega))
   rw[show l/64*64+l%64=l by omega]at this
   rw[this]at hi
   simp at hi
  ·obtain⟨j,hj⟩:∃j,l=k*64+j:=⟨l-k*64,by omega⟩
   subst hj
   have h5:=h.gt hk (by omega) hi
   have h6:=h.full k hk j (by omega)
   rw[h4 j (by omega) (by omega)]at h6
   cases hq:L (k*64+j)with
   | nil=>rw[hq]at hi;simp at hi
   | cons a r=>rw[hq]at h6;simp at h6
theorem order{now a1 a2 t:Int}{k l:Nat}(h0:0<=now)(h1:0<=a1)(h2:0<=a2)(hk:k<4)(ht0:0<=t)(ht:t<64)(hl:l<257)(e1:(home now a1:Int)=k*64+t)(e2:home now a2=l)(hlt:(k*64+t:Int)<l):a1<a2:=by
 obtain⟨m,rfl⟩:∃m:Nat,t=m:=⟨t.toNat,by omega⟩
 have hm:m<64:=by omega
 have hc:k=0\/k=1\/k=2\/k=3:=by omega
 rcases hc with rfl|rfl|rfl|rfl
 ·have e1:home now a1=m:=by omega
  rw[home_l0 h0 h1 hm]at e1
  rcases list_cases (show l<258 by omega)with h|⟨j,hj,rfl⟩|⟨j,hj,rfl⟩|⟨j,hj,rfl⟩|rfl|rfl
  ·rw[home_l0 h0 h2 h]at e2;omega
  ·rw[home_l1 h0 h2 hj]at e2;omega
  ·rw[home_l2 h0 h2 hj]at e2;omega
  ·rw[home_l3 h0 h2 hj]at e2;omega
  ·rw[home_far h0 h2]at e2;omega
  ·omega
 ·have e1:home now a1=64+m:=by omega
  rw[home_l1 h0 h1 hm]at e1
  rcases list_cases (show l<258 by omega)with h|⟨j,hj,rfl⟩|⟨j,hj,rfl⟩|⟨j,hj,rfl⟩|rfl|rfl
  ·omega
  ·rw[home_l1 h0 h2 hj]at e2;omega
  ·rw[home_l2 h0 h2 hj]at e2;omega
  ·rw[home_l3 h0 h2 hj]at e2;omega
  ·rw[home_far h0 h2]at e2;omega
  ·omega
 ·have e1:home now a1=128+m:=by omega
  rw[home_l2 h0 h1 hm]at e1
  rcases list_cases (show l<258 by omega)with h|⟨j,hj,rfl⟩|⟨j,hj,rfl⟩|⟨j,hj,rfl⟩|rfl|rfl
  ·omega
  ·omega
  ·rw[home_l2 h0 h2 hj]at e2;omega
  ·rw[home_l3 h0 h2 hj]at e2;omega
  ·rw[home_far h0 h2]at e2;omega
  ·omega
 ·have e1:home now a1=192+m:=by omega
  rw[home_l3 h0 h1 hm]at e1
  rcases list_cases (show l<258 by omega)with h|⟨j,hj,rfl⟩|⟨j,hj,rfl⟩|⟨j,hj,rfl⟩|rfl|rfl
  ·omega
  ·omega
  ·omega
  ·rw[home_l3 h0 h2 hj]at e2;omega
  ·rw[home_far h0 h2]at e2;omega
  ·omega
theorem WI.levels(h:WI s L)(hn:∀j,j<4->noneU s j):∀l,l<256->L l=[]:=fun l hl=>by
 have:=h.none (k:=l/64) (by omega) (hn _ (by omega)) (l%64) (Nat.mod_lt _ (by omega))
 rwa [show l/64*64+l%64=l by omega]at this
theorem WI.step(h:WI s L){r a:Int}(hA:Ahd s L r a true):s.now<a/\a<=4503599627370496/\0<=r/\r<257/\WX a s.T r.toNat (L,s.U)/\L r.toNat ≠ [] /\
  (∀l,l<257->∀i∈L l,a<=atT s.T i):=by
 cases hA with
 | lo k t hk h1 h2=>
  obtain⟨b1,b2,b3,b4⟩:=h.low hk h1 h2
  have hs:=slotn_rng s.now k
  have hr:((k:Int)*64+t).toNat=k*64+t.toNat:=by omega
  have hlt:s.now<startn s.now k t:=by
   have:=h.now0.1
   have hc:k=0\/k=1\/k=2\/k=3:=by omega
   rcases hc with rfl|rfl|rfl|rfl
   all_goals
    simp only[startn,slotn,lev]at b1 hs ⊢
    omega
  have hj:∀l,l<258->∀i∈L l,l≠k*64+t.toNat->home (startn s.now k t) (atT s.T i)=l:=fun l hl i hi hne=>
   (jump h.now0.1 (h.at0 l hl i hi).1 hk hl (h.hm l hl i hi) (by omega) (Int.le_refl _) b1 b2 (by have:=b4 l hl i hi;omega) (.inr (by omega))).1
  have hge:∀l,l<257->∀i∈L l,startn s.now k t<=atT s.T i:=fun l hl i hi=>by
   have:=(jump (nx:=s.now) h.now0.1 (h.at0 l (by omega) i hi).1 hk (by omega) (h.hm l (by omega) i hi) (by omega) (by omega) b1 b2 (by have:=b4 l (by omega) i hi;omega) (.inl hlt)).2
   rcases this with e|e
   ·omega
   ·exact e
  refine⟨hlt,?_,by omega,by omega,?_,by rw[hr];exact b3,hge⟩
  ·cases hq:L (k*64+t.toNat)with
   | nil=>exact absurd hq b3
   | cons i R=>
    have hi:i∈L (k*64+t.toNat):=by rw[hq];simp
    have:=hge _ (by omega) i hi
    have:=(h.at0 _ (by omega) i hi).2
    omega
  ·rw[hr]
   exact⟨h.u64,h.at0,fun l hl hne i hi=>hj l hl i hi hne,fun k' hk' j hj' _=>h.full k' hk' j hj'⟩
 | far h1 h2=>
  have hlv:=h.levels h1
  obtain⟨⟨i,hi,b1⟩,b2⟩:=h.least (l:=256) (by omega) h2
  have hif:=h.hm 256 (by omega) i hi
  have hi0:=h.at0 256 (by omega) i hi
  rw[home_far h.now0.1 hi0.1]at hif
  have hn0:=h.now0
  have hlt:s.now<leastT s.T (L 256) 4503599627370496/16777216*16777216:=by omega
  refine⟨hlt,by omega,by omega,by omega,?_,h2,fun l hl j hj=>?_⟩
  ·refine⟨h.u64,h.at0,fun l hl hne j hj=>?_,fun k' hk' j hj' _=>h.full k' hk' j hj'⟩
   have hj:j∈L l:=hj
   by_cases hl2:l<256
   ·rw[hlv l hl2]at hj;simp at hj
   ·have hl3:l=257:=by
     have:l≠256:=hne
     omega
    subst hl3
    have h5:=h.hm 257 (by omega) j hj
    have h6:=(h.at0 257 (by omega) j hj).1
    rw[home_due hn0.1 h6]at h5
    rw[home_due (by omega) h6]
    omega
  ·by_cases hl2:l<256
   ·rw[hlv l hl2]at hj;simp at hj
   ·have hl3:l=256:=by omega
    subst hl3
    have:=b2 j hj
    omega
theorem WI.jump(h:WI s L){r a:Int}{is:Bool}(hA:Ahd s L r a is){nx:Int}(hn:s.now<=nx/\nx<=4503599627370496)(hlt:is=true->nx<a):WI { s with now:=nx } L:=by
 refine⟨⟨by have:=h.now0.1;show 0<=nx;omega,hn.2⟩,h.u64,h.at0,fun l hl i hi=>?_,h.full⟩
 have hi0:=h.at0 l hl i hi
 have hh:=h.hm l hl i hi
 have hn0:=h.now0
 show home nx _=l
 cases hA with
 | lo k t hk h1 h2=>
  obtain⟨b1,b2,b3,b4⟩:=h.low hk h1 h2
  have hs:=slotn_rng s.now k
  have hlt:=hlt rfl
  exact(Vg.jump hn0.1 hi0.1 hk hl hh hn.1 (by omega) b1 b2 (by have:=b4 l hl i hi;omega) (.inl hlt)).1
 | far h1 h2=>
  have hlv:=h.levels h1
  have hlt:=hlt rfl
  obtain⟨_,b2⟩:=h.least (l:=256) (by omega) h2
  by_cases hl2:l<256
  ·rw[hlv l hl2]at hi;simp at hi
  ·by_cases hl3:l=256
   ·subst hl3
    have:=b2 i hi
    rw[home_far hn0.1 hi0.1]at hh
    rw[home_far (by omega) hi0.1]
    omega
   ·have hl4:l=257:=by omega
    subst hl4
    rw[home_due hn0.1 hi0.1]at hh
    rw[home_due (by omega) hi0.1]
    omega
 | no h1 h2=>
  have hlv:=h.levels h1
  by_cases hl2:l<256
  ·rw[hlv l hl2]at hi;simp at hi
  ·by_cases hl3:l=256
   ·subst hl3;rw[h2]at hi;simp at hi
   ·have hl4:l=257:=by omega
    subst hl4
    rw[home_due hn0.1 hi0.1]at hh
    rw[home_due (by omega) hi0.1]
    omega
def Nx(s:Wl)(L:Nat->List Nat)(t:Int)(is:Bool):Prop:=(is=false/\t=0/\∀l,l<258->L l=[])\/(is=true/\(∃l,l<258/\∃i∈L l,t=atT s.T i)/\∀l,l<258->∀i∈L l,t<=atT s.T i)
theorem WI.next_due(h:WI s L)(hd:L 257 ≠ []):Nx s L (leastT s.T (L 257) 4503599627370496) true:=by
 obtain⟨⟨i,hi,b1⟩,b2⟩:=h.least (l:=257) (by omega) hd
 refine .inr ⟨rfl,⟨257,by omega,i,hi,b1⟩,fun l hl j hj=>?_⟩
 by_cases hl2:l=257
 ·subst hl2;exact b2 j hj
 ·have h5:=h.hm 257 (by omega) i hi
  have h6:=h.at0 257 (by omega) i hi
  rw[home_due h.now0.1 h6.1]at h5
  have h7:=h.hm l hl j hj
  have h8:=h.at0 l hl j hj
  have h9:¬atT s.T j<=s.now:=fun e=>hl2 (by rw[<-home_due h.now0.1 h8.1]at e;omega)
  omega
theorem WI.next(h:WI s L)(hd:L 257=[]){r a:Int}(hA:Ahd s L r a true):Nx s L (leastT s.T (L r.toNat) 4503599627370496) true:=by
 obtain⟨c1,c2,c3,c4,c5,c6,c7⟩:=h.step hA
 obtain⟨⟨i,hi,b1⟩,b2⟩:=h.least (l:=r.toNat) (by omega) c6
 refine .inr ⟨rfl,⟨r.toNat,by omega,i,hi,b1⟩,fun l hl j hj=>?_⟩
 by_cases hlr:l=r.toNat
 ·subst hlr;exact b2 j hj
 ·by_cases hl2:l=257
  ·subst hl2;rw[hd]at hj;simp at hj
  ·rw[b1]
   have h5:=h.hm _ (by omega) i hi
   have h6:=h.at0 _ (by omega) i hi
   have h7:=h.hm l hl j hj
   have h8:=h.at0 l hl j hj
   cases hA with
   | lo k t hk h1 h2=>
    obtain⟨d1,d2,d3,d4⟩:=h.low hk h1 h2
    have hs:=slotn_rng s.now k
    have:=d4 l hl j hj
    exact Int.le_of_lt (order (t:=t) h.now0.1 h6.1 h8.1 hk (by omega) d2 (by omega) (by rw[h5];omega) h7 (by omega))
   | far h1 h2=>
    have hlv:=h.levels h1
    rw[hlv l (by simp at hlr;omega)]at hj
    simp at hj
theorem WI.next_no(h:WI s L)(hd:L 257=[]){r a:Int}(hA:Ahd s L r a false):Nx s L 0 false:=by
 cases hA with
 | no h1 h2=>
  have hlv:=h.levels h1
  refine .inl ⟨rfl,rfl,fun l hl=>?_⟩
  by_cases hl2:l<256
  ·exact hlv l hl2
  ·by_cases hl3:l=256
   ·subst hl3;exact h2
   ·have:l=257:=by omega
    subst this;exact hd
end
end Vg
