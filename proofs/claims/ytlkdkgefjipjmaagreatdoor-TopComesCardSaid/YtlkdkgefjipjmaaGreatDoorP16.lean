/- Each, CeilI, CeilM, CeilL, CeilP, IcA (put together). -/
import Derived.Test.YtlkdkgefjipjmaaGreatDoorQ2
import Derived.Laws.Cover3
import Derived.Test.YtlkdkgefjipjmaaGreatDoorQ0
set_option linter.all false
set_option maxHeartbeats 40000000
set_option maxRecDepth 100000
namespace Vg
open Go
theorem Tab.kept{w w':World}{S:Nat->Prop}(h:Tab w)(hk:Kept S w w')(h0:S 0):Tab w':=fun j hj=>
 (World.cell?_of_block (w:=w) (hk.block 0 h0)).trans (h j hj)
abbrev Bit(b:Nat):={ i:Nat // b.testBit i=true }
def blS(b:Nat):Nat->List (Bit b)
 | 0=>[]
 | k+1=>if h:b.testBit k=true then blS b k ++ [⟨k,h⟩]else blS b k
theorem blS_map(b:Nat):∀k,(blS b k).map (·.1)=blK b k
 | 0=>rfl
 | k+1=>by
  rw[blS,blK_succ]
  by_cases h:b.testBit k=true
  ·rw[dif_pos h,if_pos h,List.map_append,blS_map b k];rfl
  ·rw[dif_neg h,if_neg h,blS_map b k]
theorem blS_skip{b k:Nat}:∀{n:Nat},(∀j,k<=j->j<k+n->b.testBit j=false)->blS b (k+n)=blS b k
 | 0,_=>rfl
 | n+1,h=>by
  rw[<-Nat.add_assoc,blS,dif_neg (by rw[h (k+n) (by omega) (by omega)];simp)]
  exact blS_skip fun j h1 h2=>h j h1 (by omega)
theorem blS_to{b k t:Nat}(hk:k<=t)(h:∀j,k<=j->j<t->b.testBit j=false):blS b t=blS b k:=by
 obtain⟨n,rfl⟩:∃n,t=k+n:=⟨t-k,by omega⟩
 exact blS_skip h
theorem blS_next{b k t:Nat}(hk:k<=t)(h:∀j,k<=j->j<t->b.testBit j=false)(ht:b.testBit t=true):blS b (t+1)=blS b k ++ [⟨t,ht⟩]:=by
 rw[blS,dif_pos ht,blS_to hk h]
theorem blS_len(b k:Nat):(blS b k).length<=k:=by
 have:=congrArg List.length (blS_map b k)
 rw[List.length_map]at this
 rw[this]
 exact blK_len b k
end Vg
namespace Go.Proofs.YtlkdkgefjipjmaaGreatDoor
open Go.ChangeShapes Go.WideShapes Go.ChangeAt Go.RowKit Go.Shelf
attribute [local go_sem] Oper.semAt_some
abbrev u64C(b:Nat):Obj:=.cells #[.int .u64 b] 108
theorem bits_each(b:Nat)(w:World):
  Calls Tryz.prog 119 #[.int .u64 b] w fun e w'=>e=.returned (.func (.func 185) #[] #[.pointer (some ⟨w.heap.size,0,none⟩)])/\w'=w.alloc (u64C b):=by
 go_enter Tryz.func119,Tryz.ntmps119
 go_wp2
 go_ret
 exact⟨rfl,rfl⟩
theorem each_stops (k:Nat) (hk:1<=k) (S:Nat->Prop) (B1 b:Nat) (hb:b<18446744073709551616) (w:World) (hS0:S 0) (hS1:S B1) (hlt:∀k,S k->k<w.heap.size)
  (hc1:Vg.blk w B1=some (u64C b)) (hT:Vg.Tab w) :
  SeqStopsK Fence.wide k Tryz.prog 185 #[.pointer (some ⟨B1,0,none⟩)] (fun i:Vg.Bit b=>#[.int .i64 (i.1:Nat)]) (Vg.Kept S) (fun ys=>ys=Vg.blS b 64) (fun _=>True) 64 w:=fun l J Jx W hW hJ hJx hY hJ0=>by
 have kW:Vg.Kept S w W:=Vg.Kept.of_below hW hlt
 have D1:=h_ (kW.blk hc1 hS1)
 have DT:=h_ (hT.kept kW hS0)
 have e1:=Vg.cells_of D1.out 0
 simp at e1
 refine callsIn_of_wp Tryz.func185 rfl trivial ?_ rfl
 simp only[Tryz.ntmps185,List.size_toArray,List.length_cons,List.length_nil,Nat.reduceAdd,Nat.reduceSub,Array.replicate_succ,Array.replicate_zero,List.push_toArray,List.append_toArray,List.nil_append,List.cons_append]
 gi_wp2
 gi_loopw [3] (fun c wr=>∃j c':Nat,c=.int .u64 c'/\j<=64/\Vg.FromB b j c'/\J (Vg.blS b j) wr/\Vg.Kept S W wr) (fun c _=>(intOf c).toNat)
 case atStart=>exact⟨0,b,rfl,by omega,Vg.FromB.start b,hJ0,Vg.Kept.refl _ _⟩
 case round=>
  obtain⟨j,c,rfl,hj,hF,hJj,hkp⟩:=hrel
  have hc:=hF.lt hb
  by_cases h0:c=0
  ·subst h0
   have hJe:J (Vg.blS b 64) wr:=by
    rw[Vg.blS_to hj fun i h1 _=>hF.done i h1]
    exact hJj
   clear hF hJj
   gi_wp2
   go_end0
   exact⟨⟨_,rfl⟩,.inl ⟨_,rfl,hJe⟩⟩
  ·obtain⟨ht,hjt,htb,hbt,hF2⟩:=hF.next (by omega) hc
   have hol:=Vg.blS_len b j
   have hT2:=DT.out.kept hkp hS0
   have hc0:((c:Int)==0)=false:=by simp;exact h0
   have e1:IntKind.u64.wrap ((c:Int)-1)=((c-1:Nat):Int):=by rw[IntKind.wrap_u64];omega
   have key:bits .and .u64 (c:Int) ((c-1:Nat):Int)=((c &&& (c-1):Nat):Int):=u64_and_nat _ _ hc (by omega)
   have hlt2:c &&& (c-1)<c:=by have:c &&& (c-1)<=c-1:=Nat.and_le_right;omega
   obtain⟨t,hct⟩:∃t,Lib.ctz 64 c=t:=⟨_,rfl⟩
   rw[hct]at ht hjt htb hbt hF2
   have hsn:=Vg.blS_next hjt hbt htb
   obtain⟨fn,tmps,assign,body,hy1,hR⟩:=hY (Vg.blS b j) ⟨t,htb⟩ wr hJj (by omega)
   rw[<-hsn]at hR
   have H_hF:=h_ hF;have H_hF2:=h_ hF2;have H_hsn:=h_ hsn;have H_hol:=h_ hol;have H_hT2:=h_ hT2;have H_hbt:=h_ hbt;clear hF hF2 hsn hol hT2 hbt
   gi_wp2_with (refine⟨trivial,?_⟩;gi_at_call 71;refine(callsIn_wide.2 (ctz64 c _ (by omega) hc H_hT2.out)).mono ?_;rintro e w1 ⟨rfl,rfl⟩;rw[hct])
   refine hR.mono ?_
   rintro e W3 (⟨rfl,hJ3,hk3⟩|⟨rfl,hJx3⟩)
   ·gi_wp2
    go_roundw
    case rel=>exact⟨t+1,c &&& (c-1),by first|rfl|simp only[e1,key],by omega,H_hF2.out,hJ3,hkp.trans hk3⟩
    case measure=>first|(simp[intOf];omega)|(simp only[e1,key];simp[intOf];omega)
   ·gi_wp2
    refine bodyPost_ret (results_none rfl _ _ _) rfl ?_
    exact⟨⟨_,rfl⟩,.inr ⟨_,trivial,hJx3⟩⟩
end Go.Proofs.YtlkdkgefjipjmaaGreatDoor
namespace Vg
open Go
def Tb.isOf(M:List Mx)(task:Int)(i:Nat):Bool:=match M[i]? with|none=>false|some x=>x.held&&decide (x.who=task)
def Tb.of(M:List Mx)(task:Int)(k:Nat):List Nat:=(List.range k).filter (Tb.isOf M task)
theorem Tb.of_succ(M:List Mx)(task:Int)(k:Nat):Tb.of M task (k+1)=Tb.of M task k++if Tb.isOf M task k=true then [k]else []:=by
 unfold Tb.of
 rw[List.range_succ,List.filter_append]
 congr 1
 by_cases h:Tb.isOf M task k=true
 ·simp[h]
 ·simp[h]
theorem Tb.of_len(M:List Mx)(task:Int)(k:Nat):(Tb.of M task k).length<=k:=by
 unfold Tb.of
 have:=List.length_filter_le (Tb.isOf M task) (List.range k)
 simpa using this
def Tb.level(M:List Mx):List Nat->Int->Int
 | [],p=>p
 | i::l,p=>Tb.level M l (max p ((M[i]?.getD ⟨0,false,0⟩).c))
theorem Tb.level_snoc(M:List Mx):∀(l:List Nat)(i:Nat)(p:Int),Tb.level M (l ++ [i]) p=max (Tb.level M l p) ((M[i]?.getD ⟨0,false,0⟩).c)
 | [],i,p=>rfl
 | j::l,i,p=>by simp only[List.cons_append,Tb.level];exact Tb.level_snoc M l i _
theorem abides_grows{β:Type}{B:Nat}{J:β->World->Prop}(hJ:AbidesFrom B J){s:β}{W W':World}(h:J s W)(hg:Grows W W'):J s W':=
 hJ s W W' none h ⟨hg.below.os,hg.below.tape,hg.below.output,hg.size,fun k hk _=>hg.below.block k hk⟩ (fun _ e=>by cases e)
end Vg
namespace Go.Proofs.YtlkdkgefjipjmaaGreatDoor
open Go.ChangeShapes Go.WideShapes Go.ChangeAt Go.RowKit Go.Shelf
attribute [local go_sem] Oper.semAt_some
def mxV(M:List Vg.Mx)(i:Nat):Value:=.agg #[.int .i64 (M[i]?.getD ⟨0,false,0⟩).c,.bool (M[i]?.getD ⟨0,false,0⟩).held,.int .i64 (M[i]?.getD ⟨0,false,0⟩).who]
theorem ceil_of(b:Nat)(task:Int)(w:World):
  Calls Tryz.prog 216 #[.pointer (some ⟨b,0,none⟩),.int .i64 task] w fun e w'=>e=.returned (.func (.func 228) #[] #[.pointer (some ⟨w.heap.size,0,none⟩),.pointer (some ⟨w.heap.size+1,0,none⟩)])/\w'=(w.alloc (.cells #[.pointer (some ⟨b,0,none⟩)] 135)).alloc (.cells #[.int .i64 task] 3):=by
 go_enter Tryz.func216,Tryz.ntmps216
 go_wp2
 go_ret
 exact⟨rfl,rfl⟩
theorem of_stops (k:Nat) (hk:1<=k) (S:Nat->Prop) (B1 B2 b B:Nat) (M:List Vg.Mx) (v:Value) (task:Int) (w:World) (hS1:S b) (hS2:∀j,v.ownBlock=some j->S j) (hS3:S B1) (hS4:S B2) (hlt:∀k,S k->k<w.heap.size)
  (hc1:Vg.blk w B1=some (.cells #[.pointer (some ⟨b,0,none⟩)] 135)) (hc2:Vg.blk w B2=some (.cells #[.int .i64 task] 3)) (hce:CE w b B M v) :
  SeqStopsK Fence.wide k Tryz.prog 228 #[.pointer (some ⟨B1,0,none⟩),.pointer (some ⟨B2,0,none⟩)] (fun i:Nat=>#[.int .i64 i,mxV M i]) (Vg.Kept S) (fun xs=>xs=Vg.Tb.of M task M.length) (fun _=>True) M.length w:=fun l J Jx W hW hJ hJx hY hJ0=>by
 have kW:Vg.Kept S w W:=Vg.Kept.of_below hW hlt
 obtain⟨sa,sc,rfl⟩:=hce.shape
 have D1:=h_ (kW.blk hc1 hS3)
 have D2:=h_ (kW.blk hc2 hS4)
 have D3:=h_ (hce.kept (w':=W) (kW.block b hS1) (fun j hj=>kW.block j (hS2 j hj)))
 obtain⟨n,hn⟩:∃n,M.length=n:=⟨_,rfl⟩
 have e1:=Vg.cells_of D1.out 0
 have e2:=Vg.cells_of D2.out 0
 have e3:=Vg.cells_of D3.out.1 0
 simp at e1 e2 e3
 rw[hn]at e3
 rw[hn]at hY ⊢
 have hcm:n<=9223372036854775807:=by
  rcases D3.out.2.reads with⟨_,h0,_⟩|⟨g,off,cap,_,_,_,h4,h5,_⟩
  ·omega
  ·have:cap<=9223372036854775807:=h5
   omega
 have H_hn:=h_ hn;clear hn
 refine callsIn_of_wp Tryz.func228 rfl trivial ?_ rfl
 simp only[Tryz.ntmps228,List.size_toArray,List.length_cons,List.length_nil,Nat.reduceAdd,Nat.reduceSub,Array.replicate_succ,Array.replicate_zero,List.push_toArray,List.append_toArray,List.nil_append,List.cons_append]
 gi_wp2
 gi_loopw [11] (fun i wr=>∃j:Nat,j<=n/\i=.int .i64 j/\J (Vg.Tb.of M task j) wr/\Vg.Kept S W wr) (fun i _=>n-(intOf i).toNat)
 case atStart=>exact⟨0,by omega,rfl,hJ0,Vg.Kept.refl _ _⟩
 case round=>
  obtain⟨j,hj,rfl,hJj,hkp⟩:=hrel
  have d1:=hkp.blk D1.out hS3
  have d2:=hkp.blk D2.out hS4
  have d3:=D3.out.kept (w':=wr) (hkp.block b hS1) (fun j hj=>hkp.block j (hS2 j hj))
  by_cases hjl:j<n
  ·have hjM:j<M.length:=by rw[H_hn.out];exact hjl
   obtain⟨g,o,c,hv,hg1,hg2,hc1,hc2,c0,c1,c2⟩:=d3.2.mutex j hjM
   simp only[Value.slice.injEq,true_and]at hv
   obtain⟨rfl,rfl⟩:=hv
   have hcn:n<=sc:=by rw[<-H_hn.out];exact hc1
   obtain⟨x,hx⟩:∃x,M[j]=x:=⟨_,rfl⟩
   rw[hx]at c0 c1 c2
   obtain⟨xc,xh,xw⟩:=x
   simp only[]at c0 c1 c2
   have hmj:M[j]? = some ⟨xc,xh,xw⟩:=by rw[List.getElem?_eq_getElem hjM,hx]
   have hsn:=Vg.Tb.of_succ M task j
   have hol:=Vg.Tb.of_len M task j
   have c10:=Vg.cells_of d1 0
   have c20:=Vg.cells_of d2 0
   have hB1:=Vg.lt_of d1
   have hB2:=Vg.lt_of d2
   have hbl:=Vg.lt_of d3.1
   simp at c10 c20
   cases xh with
   | false=>
    have ho:Vg.Tb.isOf M task j=false:=by unfold Vg.Tb.isOf;rw[hmj];rfl
    rw[ho]at hsn
    simp only[Bool.false_eq_true,if_false,List.append_nil]at hsn
    have H_d1:=h_ d1;have H_d2:=h_ d2;have H_d3:=h_ d3;have H_hsn:=h_ hsn;have H_hx:=h_ hx;have H_hmj:=h_ hmj;have H_ho:=h_ ho;have H_hol:=h_ hol;clear d1 d2 d3 hsn hx hmj ho hol
    gi_wp2
    refine⟨fun _ h=>(by cases h),?_⟩
    gi_wp2
    go_roundw
    case rel=>exact⟨j+1,by omega,by go_num,by rw[H_hsn.out];exact Vg.abides_grows hJ hJj ((Vg.Grows.refl _).alloc _),hkp.trans ⟨by simp,fun z hz=>Below.heap_alloc _ _ _ (by have:=hlt z hz;have:=hkp.size;have:=hW.size;omega)⟩⟩
    case measure=>simp[intOf];omega
   | true=>
    by_cases ht:xw=task
    ·subst ht
     have ho:Vg.Tb.isOf M xw j=true:=by unfold Vg.Tb.isOf;rw[hmj];simp
     rw[ho,if_pos rfl]at hsn
     have hmx:mxV M j=.agg #[.int .i64 xc,.bool true,.int .i64 xw]:=by unfold mxV;rw[hmj];rfl
     have hJa:=Vg.abides_grows hJ hJj ((Vg.Grows.refl wr).alloc (.cells #[.int .i64 xc,.bool true,.int .i64 xw] 214))
     have hy0:=hY (Vg.Tb.of M xw j) j (wr.alloc (.cells #[.int .i64 xc,.bool true,.int .i64 xw] 214)) hJa (by omega)
     obtain⟨fn,tmps,assign,body,hy,hR⟩:=hy0
     rw[hmx]at hy
     rw[<-hsn]at hR
     have htb:(xw==xw)=true:=by simp
     have hal:Vg.Kept S wr (wr.alloc (.cells #[.int .i64 xc,.bool true,.int .i64 xw] 214)):=⟨by simp,fun z hz=>Below.heap_alloc _ _ _ (by have:=hlt z hz;have:=hkp.size;have:=hW.size;omega)⟩
     have H_d1:=h_ d1;have H_d2:=h_ d2;have H_d3:=h_ d3;have H_hsn:=h_ hsn;have H_hx:=h_ hx;have H_hmj:=h_ hmj;have H_ho:=h_ ho;have H_hol:=h_ hol;have H_hmx:=h_ hmx;clear d1 d2 d3 hsn hx hmj ho hol hmx
     gi_wp2
     refine hR.mono ?_
     rintro e W3 (⟨rfl,hJ3,hk3⟩|⟨rfl,hJx3⟩)
     ·gi_wp2
      go_roundw
      case rel=>exact⟨j+1,by omega,by go_num,hJ3,hkp.trans (hal.trans hk3)⟩
      case measure=>simp[intOf];omega
     ·gi_wp2
      refine bodyPost_ret (results_none rfl _ _ _) rfl ?_
      exact⟨⟨_,rfl⟩,.inr ⟨_,trivial,hJx3⟩⟩
    ·have ho:Vg.Tb.isOf M task j=false:=by unfold Vg.Tb.isOf;rw[hmj];simp[ht]
     rw[ho]at hsn
     simp only[Bool.false_eq_true,if_false,List.append_nil]at hsn
     have htb:(xw==task)=false:=by simp[ht]
     have H_d1:=h_ d1;have H_d2:=h_ d2;have H_d3:=h_ d3;have H_hsn:=h_ hsn;have H_hx:=h_ hx;have H_hmj:=h_ hmj;have H_ho:=h_ ho;have H_hol:=h_ hol;have H_ht:=h_ ht;clear d1 d2 d3 hsn hx hmj ho hol ht
     gi_wp2
     refine⟨fun _ h=>(by cases h),?_⟩
     gi_wp2
     go_roundw
     case rel=>exact⟨j+1,by omega,by go_num,by rw[H_hsn.out];exact Vg.abides_grows hJ hJj ((Vg.Grows.refl _).alloc _),hkp.trans ⟨by simp,fun z hz=>Below.heap_alloc _ _ _ (by have:=hlt z hz;have:=hkp.size;have:=hW.size;omega)⟩⟩
     case measure=>simp[intOf];omega
  ·have hje:j=n:=by omega
   subst hje
   clear d1 d2 d3
   gi_wp2
   go_end0
   exact⟨⟨_,rfl⟩,.inl ⟨_,rfl,hJj⟩⟩
end Go.Proofs.YtlkdkgefjipjmaaGreatDoor
namespace Vg
open Go
theorem blk_ownF{β:Type}{B b:Nat}{f:β->Obj}(hf:∀s,(f s).isCells=true):OwnFrom B (fun(s:β) W=>blk W b=some (f s)):=fun s A C row hs hg hr=>by
 have hl:=lt_of hs
 refine(hg.block b hl (fun e=>?_)).trans hs
 obtain⟨_,o,ho,hcc⟩:=hr b e.symm
 have:some (f s)=some o:=hs.symm.trans ho
 cases this
 rw[hf s]at hcc;cases hcc
end Vg
namespace Go.Proofs.YtlkdkgefjipjmaaGreatDoor
open Go.ChangeShapes Go.WideShapes Go.ChangeAt Go.RowKit Go.Shelf
attribute [local go_sem] Oper.semAt_some
theorem Tryz.info_int:(Tryz.prog.info? 3).map (fun i=>(i.zero,i.size,i.bytes))=some (some (.int .i64 0),1,8):=by kernel_rfl
def mxd(M:List Vg.Mx)(i:Nat):Vg.Mx:=M[i]?.getD ⟨0,false,0⟩
theorem mxV_d(M:List Vg.Mx)(i:Nat):mxV M i=.agg #[.int .i64 (mxd M i).c,.bool (mxd M i).held,.int .i64 (mxd M i).who]:=rfl
abbrev mxO(d:Vg.Mx):Obj:=.cells #[.int .i64 d.c,.bool d.held,.int .i64 d.who] 214
theorem level_in (b B:Nat) (M:List Vg.Mx) (v:Value) (task prio:Int) (w:World) (h:CE w b B M v) :
  CallsIn Fence.wide 4 Tryz.prog 192 #[.pointer (some ⟨b,0,none⟩),.int .i64 task,.int .i64 prio] w fun e w'=>e=.returned (.int .i64 (Vg.Tb.level M (Vg.Tb.of M task M.length) prio))/\Below w.heap.size w w':=by
 have hl1:=h.lt
 have hl2:=h.own
 have hro:Fence.wide.round=none:=rfl
 have hn1:1<=4:=by omega
 have hSS:∀k,(k=b\/v.ownBlock=some k\/k=w.heap.size+1\/k=w.heap.size+1+1)->k<w.heap.size+3/\k≠w.heap.size:=by
  rintro k (rfl|hk|rfl|rfl)
  ·omega
  ·have:=(hl2 k hk).2;omega
  ·omega
  ·omega
 have HSS:=h_ hSS
 clear hSS
 have H_h:=h_ h;clear h
 refine callsIn_of_wp_marks Tryz.func192 rfl trivial ?_ rfl
 simp only[Tryz.ntmps192,List.size_toArray,List.length_cons,List.length_nil,Nat.reduceAdd,Nat.reduceSub,Array.replicate_succ,Array.replicate_zero,List.push_toArray,List.append_toArray,List.nil_append,List.cons_append]
 gi_wp2_with (first|(refine⟨trivial,?_⟩;gi_at_call 216;refine(callsIn_wide.2 (ceil_of b task _)).mono ?_;rintro e w1 ⟨rfl,rfl⟩))
 have bO:=Boxed.new w 3 (.int .i64 prio)
 have hB0:Below w.heap.size w (((w.alloc (.cells #[.int .i64 prio] 3)).alloc (.cells #[.pointer (some ⟨b,0,none⟩)] 135)).alloc (.cells #[.int .i64 task] 3)):=(((Below.refl _ w).alloc (Nat.le_refl _) _).alloc (by simp) _).alloc (by simp <;> omega) _
 refine wpIn_rangeFunc_ownH hro hn1 (gf:=228) (lb:=#[.pointer (some ⟨w.heap.size+1,0,none⟩),.pointer (some ⟨w.heap.size+1+1,0,none⟩)]) rfl trivial (enters_of Tryz.func228 (by kernel_rfl) rfl)
  (of_stops (4-1) (by omega) (fun k=>k=b\/v.ownBlock=some k\/k=w.heap.size+1\/k=w.heap.size+1+1) (w.heap.size+1) (w.heap.size+1+1) b B M v task _ (.inl rfl) (fun j hj=>.inr (.inl hj)) (.inr (.inr (.inl rfl))) (.inr (.inr (.inr rfl)))
   (by
     rintro k (rfl|hk|rfl|rfl)
     ·simp;omega
     ·have:=(hl2 k hk).2;simp;omega
     ·simp
     ·simp)
   (by go_simp) (by go_simp) (H_h.out.grows (Vg.gro))) Vg.Kept.trans
  (Vg.Kept.putObj (by
            rintro k (rfl|hk|rfl|rfl)
            ·simp;omega
            ·have:=(hl2 k hk).2;simp;omega
            ·simp
            ·simp)) (Below.refl _ _) (fun _=>rfl)
  (fun pre W=>Boxed W w.heap.size 3 (.int .i64 (Vg.Tb.level M pre prio))/\(w.heap.size+3<=W.heap.size/\Below w.heap.size w W))
  (fun _ _ _=>False)
  (OwnFrom.and (Own.from (boxed_own _ _ _) _) (OwnFrom.and (Vg.ownFrom_size _ _) (ownFrom_below (Nat.le_refl _) (by simp;omega))))
  (fun _ _ _ _ _ hs _ _=>hs)
  ⟨(bO.alloc _).alloc _,by simp,hB0⟩
  (fun x a' W=>∃Bx,w.heap.size+3<=Bx/\Vg.blk W Bx=some (mxO (mxd M x))/\a'={ tmps:=#[.pointer (some ⟨b,0,none⟩),.int .i64 task,.int .i64 prio,undef,undef,.pointer (some ⟨w.heap.size,0,none⟩),.int .i64 0,undef,.pointer (some ⟨Bx,0,none⟩),.pointer (some ⟨b,0,none⟩),.int .i64 task,.func (.func 228) #[] #[.pointer (some ⟨w.heap.size+1,0,none⟩),.pointer (some ⟨w.heap.size+1+1,0,none⟩)],.int .i64 x,mxV M x,undef,undef,undef,undef,undef],defers:=[] })
  (fun x a' _ X Y row hs hg hr=>by obtain⟨Bx,h1,h2,h3⟩:=hs;exact⟨Bx,h1,Vg.blk_ownF (B:=_) (f:=fun(_:Unit)=>mxO (mxd M x)) (fun _=>rfl) () X Y row h2 hg hr,h3⟩)
  ?assign ?body ?done ?stop
 case assign=>
  rintro l pre x W K ⟨bS1,hsz,hB1⟩ hK
  have hmx:=mxV_d M x
  have hK2:=hK _ _ ((KeepsOthers.alloc W (mxO (mxd M x))).from _) ⟨by simp,fun z hz=>Below.heap_alloc _ _ _ (by have:=HSS.out z hz;omega)⟩ ⟨bS1.alloc _,by simp;omega,hB1.alloc hB1.size _⟩ ⟨W.heap.size,hsz,Vg.alloc_heap_at rfl,rfl⟩
  clear hK
  simp only[hmx]at hK2 ⊢
  clear hmx
  generalize mxd M x=d at hK2 ⊢
  obtain⟨dc,dh,dw⟩:=d
  gi_wp2
  exact hK2
 case body=>
  rintro l pre x a' W hl ⟨r,hr⟩ ⟨bS1,hsz,hB1⟩ ⟨Bx,hBx,bX,rfl⟩ hlt
  have cB:=bS1.cell
  have fB:=bS1.frozen
  have hlv:Vg.Tb.level M (pre ++ [x]) prio=max (Vg.Tb.level M pre prio) (mxd M x).c:=Vg.Tb.level_snoc M pre x prio
  obtain⟨p,hp⟩:∃p,Vg.Tb.level M pre prio=p:=⟨_,rfl⟩
  rw[hp]at cB hlv bS1
  obtain⟨dc,hdc⟩:∃dc,(mxd M x).c=dc:=⟨_,rfl⟩
  have c0:=Vg.cells_of bX 0
  simp at c0
  rw[hdc]at c0 hlv
  have HB1:=h_ hB1
  have HBS:=h_ bS1
  obtain⟨q,hq⟩:∃q,max p dc=q:=⟨_,rfl⟩
  rw[hq]at hlv
  clear hB1 bS1
  have hcase:(p<dc/\q=dc)\/(¬p<dc/\q=p):=by
   by_cases h:p<dc
   ·exact .inl ⟨h,by omega⟩
   ·exact .inr ⟨h,by omega⟩
  clear hq
  rcases hcase with⟨h,rfl⟩|⟨h,rfl⟩
  all_goals
   have H_hp:=h_ hp;have H_hlv:=h_ hlv;have H_hdc:=h_ hdc;have H_hr:=h_ hr;have H_bX:=h_ bX;clear hp hlv hdc hr bX
   gi_wp2
   exact⟨(KeepsOthers.setCell _ _ _).from _,⟨by rw[World.size_setCell];exact Nat.le_refl _,fun z hz=>Below.heap_setCell _ _ _ z (by have:=HSS.out z hz;exact this.2)⟩,by rw[H_hlv.out];exact HBS.out.set _,by rw[World.size_setCell];exact hsz,HB1.out.trans ((Below.refl _ W).setCell (p:=⟨w.heap.size,0,none⟩) (Nat.le_refl _) _)⟩
 case done=>
  rintro D ys W hD rfl ⟨bS1,hsz,hB⟩ hK
  have hc:=bS1.cell
  gi_wp2
  refine⟨by simp,.inl ⟨_,_,rfl,run_takeDeferred hK,?_⟩⟩
  exact⟨_,results_tmp rfl _ _ _,rfl,hB.trans (belowK_b (w:=w) (Nat.le_refl _) W D _ _ (by simp at hD;omega) hK rfl rfl)⟩
 case stop=>
  rintro D c pre W _ _ h _
  exact h.elim
theorem ce_level{w:World}{b B:Nat}{M:List Vg.Mx}{v:Value}(task prio:Int)(h:CE w b B M v):
  Calls Tryz.prog 192 #[.pointer (some ⟨b,0,none⟩),.int .i64 task,.int .i64 prio] w fun e w'=>e=.returned (.int .i64 (Vg.Tb.level M (Vg.Tb.of M task M.length) prio))/\Vg.Grows w w':=by
 refine((callsIn_wide (n:=4)).1 (level_in b B M v task prio w h)).mono ?_
 rintro e w' ⟨rfl,hb⟩
 exact⟨rfl,Vg.Grows.of_below hb⟩
end Go.Proofs.YtlkdkgefjipjmaaGreatDoor
namespace Vg
open Go
theorem Touch.gr{w0 w w':World}{t:Nat->Prop}(h:Touch t w w')(hg:Grows w0 w)(ht:∀k,t k->w0.heap.size<=k):Grows w0 w':=
 Grows.of_below ⟨h.os.trans hg.below.os,h.tape.trans hg.below.tape,h.output.trans hg.below.output,Nat.le_trans hg.size h.size,fun k hk=>
  (h.block k (Nat.lt_of_lt_of_le hk hg.size) (fun hh=>by have:=ht k hh;omega)).trans (hg.below.block k hk)⟩
theorem Touch.bk{w w':World}{t:Nat->Prop}{k:Nat}{o:Obj}(h:Touch t w w')(hb:Vg.blk w k=some o)(ht:¬t k):Vg.blk w' k=some o:=
 (h.block k (lt_of hb) ht).trans hb
end Vg
namespace Go.Proofs.YtlkdkgefjipjmaaGreatDoor
open Go.ChangeShapes Go.WideShapes Go.ChangeAt Go.RowKit
end Go.Proofs.YtlkdkgefjipjmaaGreatDoor
namespace Vg
open Go Go.RowKit
section
variable {P:Program}{W0 w:World}{ops:Array Oper}{rest:List Oper}{o:Oper}{a:Act}{Q:Exit->Act->World->Prop}
theorem wpList_appI(hg:Grows W0 w)(hgd:o.guard=none)(s x:Operand)(t:TypeId)
  (ho:o.op=.call { callee:=.builtin .append,args:=#[s,x],argTypes:=#[t,t] })
  (B:Nat)(hB:W0.heap.size<=B)(hBw:B<=w.heap.size)(e:TypeId)(i:TypeInfo)(z:Value)(bytes:Nat)(ht:P.underlying t=some (.slice e))(hi:P.info? e=some i)(hz:i.zero=some z)
  (hsize:i.size=1)(hby:i.bytes=bytes)(hzs:z.cells.size=1)
  (v:Value)(n:Nat)(xs:List Value)(hs:a.eval s=v)(hown:w.ownsRow B e 1 v n xs)
  (sa:Option Addr)(m c:Nat)(L:List Int)(hx:a.eval x=.slice sa m c)(hr:IR w sa c L)(hm:L.length=m)(hz0:sa=none->c=0)
  (h63:n+m<=maxLen)(hbytes:(n+m)*bytes<=140737488355328)
  (h:∀v' y k,(plus W0 y k).ownsRow B e 1 v' (n+m) (xs++ics L)->B<=(plus W0 y k).heap.size->wpList P ops Q rest (a.put o.dst v') (plus W0 y k)):wpList P ops Q (o::rest) a w:=by
 subst hm
 cases sa with
 | none=>
  have hc:=hz0 rfl
  subst hc
  have hL:L=[]:=List.eq_nil_of_length_eq_zero (by have:=hr.1;omega)
  subst hL
  refine wpList_append_own_none hgd s x t ho B e i 1 ht hi v n xs hs hown hx ?_
  have:=hg
  obtain⟨y,k,rfl⟩:=this
  have:=h v y k (by simpa using hown) hBw
  exact this
 | some ad=>
  refine wpList_app hg hgd s x t ho B hB hBw e i z 1 bytes ht hi hz hsize hby hzs (by decide) v n xs hs hown ad L.length c (ics L) hx (by simp) (fun j u hu=>?_) (by simp[Value.oneCell']) h63 hbytes h
  obtain⟨hj,rfl⟩:=List.getElem?_eq_some_iff.1 hu
  have hj':j<L.length:=by simpa using hj
  obtain⟨g,off,e',hg',hc⟩:=hr.2.2 j hj'
  simp only[Option.some.injEq]at e'
  subst e'
  rw[List.getElem_map,<-hc]
  unfold Addr.add
  split
  ·rename_i h0;subst h0;rfl
  ·rfl
end
end Vg
namespace Go.Proofs.YtlkdkgefjipjmaaGreatDoor
open Go.ChangeShapes Go.WideShapes Go.ChangeAt Go.RowKit
section
variable {w:World}{L:List Int}{M:List Vg.Mx}{H:List (Int×Int)}{sa ca ha:Option Addr}{sc cn cc hn hc S:Nat}
end
end Go.Proofs.YtlkdkgefjipjmaaGreatDoor
namespace Go
theorem run_eql_slice_nil'{P:Program}{w:World}(t e:TypeId)(a:Option Addr)(l c:Nat)(h:P.underlying t=some (.slice e)):(binOp .eql t (.slice a l c) (.slice none 0 0)).run P w=.ok (.bool a.isNone) w:=by
 simp only[binOp]
 simp[run_equal_slice_nil w t e a l c h]
end Go
namespace Vg
open Go
theorem IR.of_rd{S:Nat}{w:World}{sa:Option Addr}{n c:Nat}{L:List Int}(h:Reads S w (.slice sa n c) n (ics L))(hn:L.length=n):IR w sa c L:=by
 subst hn
 rcases h with⟨h0,h1,h2⟩|⟨g,off,cap,h0,h2,h3,h4,h5,h6⟩
 ·simp only[Value.slice.injEq]at h0
  obtain⟨rfl,hl,rfl⟩:=h0
  exact⟨by omega,Nat.zero_le _,fun k hk=>by omega⟩
 ·simp only[Value.slice.injEq]at h0
  obtain⟨rfl,_,rfl⟩:=h0
  exact⟨h4,h5,fun k hk=>⟨g,off,rfl,h3,by rw[h6 k (by simpa using hk)];simp[ics]⟩⟩
theorem IR.touch{w w':World}{t:Nat->Prop}{sa:Option Addr}{c n:Nat}{L:List Int}(h:IR w sa c L)(ht:Touch t w w')(hn:L.length=n)(hv:∀k,(Value.slice sa n c).ownBlock=some k->¬t k):IR w' sa c L:=
 ⟨h.1,h.2.1,fun k hk=>by
  obtain⟨g,off,e,hlt,hc⟩:=h.2.2 k hk
  exact⟨g,off,e,Nat.lt_of_lt_of_le hlt ht.size,(World.cell?_of_block (w:=w) (ht.block g hlt (hv g (by rw[e];rfl)))).trans hc⟩⟩
end Vg
namespace Go.Proofs.YtlkdkgefjipjmaaGreatDoor
open Go.ChangeShapes Go.WideShapes Go.ChangeAt Go.RowKit
attribute [local go_sem] Go.run_eql_slice_nil'
theorem Tryz.info_int5:(Tryz.prog.info? 3).map (fun i=>(i.zero,i.size,i.bytes))=some (some (.int .i64 0),1,8):=by kernel_rfl
abbrev icV(pe en ed:Nat)(pa:Option Addr)(n pc:Nat)(sa:Option Addr)(m sc:Nat):Value:=.agg #[.int .u64 pe,.int .u64 en,.int .u64 0,.int .u64 ed,.slice pa n pc,.int .i64 0,.slice sa m sc]
abbrev icO(pe en ed:Nat)(pa:Option Addr)(n pc:Nat)(sa:Option Addr)(m sc:Nat):Obj:=.cells #[.int .u64 pe,.int .u64 en,.int .u64 0,.int .u64 ed,.slice pa n pc,.int .i64 0,.slice sa m sc] 145
abbrev dkO(pe en ed:Nat)(pa:Option Addr)(n pc:Nat)(sa:Option Addr)(m sc:Nat):Obj:=.cells #[.int .u64 pe,.int .u64 en,.int .u64 0,.int .u64 ed,.slice pa n pc,.int .i64 0,.slice sa m sc] 309
structure IS(w:World)(c:Vg.Ic)(n m:Nat)(pa:Option Addr)(pc:Nat)(sa:Option Addr)(sc:Nat):Prop where
 ok:c.Ok n
 m:c.st.length=m
 p:Vg.IR w pa pc c.pr
 s:Vg.IR w sa sc (Vg.ic c.st)
section
variable {w w':World}{c:Vg.Ic}{n m ed pc sc:Nat}{pa sa:Option Addr}{L:List Int}
theorem IS.grows(h:IS w c n m pa pc sa sc)(hg:Vg.Grows w w'):IS w' c n m pa pc sa sc:=⟨h.ok,h.m,h.p.grows hg,h.s.grows hg⟩
theorem IS.caps(h:IS w c n m pa pc sa sc):n<=pc/\pc<=9223372036854775807/\m<=sc/\sc<=9223372036854775807:=by
 have h1:=h.p.1
 have h2:pc<=9223372036854775807:=h.p.2.1
 have h3:=h.s.1
 have h4:sc<=9223372036854775807:=h.s.2.1
 rw[h.ok.len]at h1
 rw[Vg.ic_len,h.m]at h3
 exact⟨h1,h2,h3,h4⟩
theorem IS.pcell(h:IS w c n m pa pc sa sc)(k:Nat)(hk:k<n):∃g off,pa=some ⟨g,off,none⟩/\g<w.heap.size/\w.cell? ⟨g,off+k,none⟩=some (.int .i64 (c.prio k)):=by
 obtain⟨g,off,e,hg,hc⟩:=h.p.2.2 k (by rw[h.ok.len];exact hk)
 rw[<-h.ok.prio_at hk]at hc
 exact⟨g,off,e,hg,hc⟩
theorem IS.scell(h:IS w c n m pa pc sa sc)(k:Nat)(hk:k<m):∃g off,∃hk':k<c.st.length,sa=some ⟨g,off,none⟩/\g<w.heap.size/\w.cell? ⟨g,off+k,none⟩=some (.int .i64 (c.st[k]:Nat)):=by
 have hk':k<c.st.length:=by rw[h.m];exact hk
 obtain⟨g,off,e,hg,hc⟩:=h.s.2.2 k (by rw[Vg.ic_len];exact hk')
 rw[Vg.ic_at]at hc
 exact⟨g,off,hk',e,hg,hc⟩
theorem IS.put(h:IS w c n m pa pc sa sc){b:Nat}(h1:∀k,(Value.slice pa n pc).ownBlock=some k->k≠b)(h2:∀k,(Value.slice sa m sc).ownBlock=some k->k≠b)(o:Obj):IS (Vg.put w b o) c n m pa pc sa sc:=
 ⟨h.ok,h.m,h.p.touch (t:=fun k=>k=b) (Vg.Touch.put (t:=fun k=>k=b) (Vg.Touch.refl _ _) rfl o) h.ok.len h1,h.s.touch (t:=fun k=>k=b) (Vg.Touch.put (t:=fun k=>k=b) (Vg.Touch.refl _ _) rfl o) (by rw[Vg.ic_len];exact h.m) h2⟩
theorem clone(hr:Vg.IR w pa pc L)(hn:L.length=n)(hb:n<=17592186044416):
  Calls Tryz.prog 83 #[.slice pa n pc] w fun e w'=>∃a c,e=.returned (.slice a n c)/\Vg.IR w' a c L/\(∀k,(Value.slice a n c).ownBlock=some k->w.heap.size<=k/\k<w'.heap.size)/\Vg.Que w' w.heap.size 3 1 (.slice a n c) n (Vg.ics L)/\Vg.Grows w w':=by
 obtain⟨i0,hi,hz0,hz1,hz2⟩:=info_parts Tryz.info_int5
 cases pa with
 | none=>
  have hL:L=[]:=by
   cases L with
   | nil=>rfl
   | cons x l=>
    obtain⟨g,off,e,-⟩:=hr.2.2 0 (by simp)
    cases e
  subst hL
  simp only[List.length_nil]at hn
  subst hn
  go_enter Tryz.func83,Tryz.ntmps83
  go_wp2
  go_ret
  exact⟨none,0,rfl,Vg.IR.nil _,by simp[Value.ownBlock],Vg.Que.nil _ _ _ _,Vg.gro⟩
 | some ad=>
  have hc:=hr.1
  have hm:pc<=9223372036854775807:=hr.2.1
  rw[hn]at hc
  have H_hr:=h_ hr;have H_hn:=h_ hn;clear hr hn
  go_enter Tryz.func83,Tryz.ntmps83
  go_wp2_with (at_builtin;(refine Vg.wpList_appI (W0:=_) ((Vg.Grows.refl _).alloc _) rfl (.tmp 5) (.tmp 6) 138 rfl _ (Nat.le_refl _) (by(try simp only[World.size_alloc,Vg.plus_size,Vg.put_size,World.size_setCell,World.size_drew])<;>omega) 3 i0 (.int .i64 0) 8 Tryz.underlying138 hi hz0 hz1 hz2 rfl _ _ _ rfl (Vg.owns_made0 (by(try simp only[World.size_alloc,Vg.plus_size,Vg.put_size,World.size_setCell,World.size_drew])<;>omega)) (some ad) n pc L rfl (H_hr.out.grows (Vg.gro)) H_hn.out (by simp) (by unfold maxLen;omega) (by omega) ?_);intro v' y' m' hown' hsz';obtain⟨a',c',rfl⟩:=Vg.owns_shape hown';have H_hown':=h_ hown';clear hown')
  go_ret
  have h9:=Vg.Que.of_owns H_hown'.out
  simp only[List.nil_append,Nat.zero_add]at h9
  refine⟨a',c',by simp,Vg.IR.of_rd h9.reads H_hn.out,fun k hk=>?_,h9,Vg.gro⟩
  exact h9.lt k hk
end
end Go.Proofs.YtlkdkgefjipjmaaGreatDoor
