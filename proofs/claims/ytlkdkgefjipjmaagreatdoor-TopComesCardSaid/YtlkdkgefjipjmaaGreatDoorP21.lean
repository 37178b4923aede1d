/- ServerV, ServerP, Time, ServerR, ServerS, ServerA, Bot, BotA, BotR, CeilR (put together). -/
import Derived.Test.YtlkdkgefjipjmaaGreatDoorP20
import Derived.Test.YtlkdkgefjipjmaaGreatDoorP10
import Derived.Test.YtlkdkgefjipjmaaGreatDoorQ0
import Derived.Test.YtlkdkgefjipjmaaGreatDoorP16
set_option linter.all false
set_option maxHeartbeats 40000000
set_option maxRecDepth 100000
namespace Go.Proofs.YtlkdkgefjipjmaaGreatDoor
open Go.ChangeShapes Go.WideShapes Go.ChangeAt Go.RowKit
section
variable {b B:Nat}{left period last:Int}{v:Value}{L:List (Int×Int)}{w:World}{sa:Option Addr}{sc:Nat}
theorem serv_refill_no (now:Int) (h:Vg.blk w b=some (servC left period (.slice sa L.length sc) last)) (hno:now<last\/4503599627370496<now) :
  Calls Tryz.prog 117 #[.pointer (some ⟨b,0,none⟩),.int .i64 now] w fun e w'=>e=.returned (.tuple #[.int .i64 0,.int .i64 1])/\w=w':=by
 have N:=h_ h
 clear h
 have hf:(decide (last<=now)&&decide (now<=4503599627370496))=false:=by
  rcases hno with h|h
  ·rw[decide_eq_false (by omega)];rfl
  ·rw[decide_eq_false (show ¬now<=4503599627370496 by omega),Bool.and_false]
 have HF:=h_ hf
 clear hf
 go_enter Tryz.func117,Tryz.ntmps117
 go_wp2_with (go_at_call 116;refine(serv_later (left:=left) (period:=period) (v:=.slice sa L.length sc) (last:=last) now (by exact N.out)).mono ?_;rintro e w1 ⟨rfl,rfl⟩;rw[HF.out])
 go_ret2
 exact⟨rfl,rfl⟩
theorem serv_refill_ok (now:Int) (h:Vg.blk w b=some (servC left period (.slice sa L.length sc) last)) (hq:Vg.Que w B 335 2 (.slice sa L.length sc) L.length (Vg.pcells L)) (hb:b<B) (hL:L.length<=1000)
  (h1:last<=now) (h2:now<=4503599627370496) (hl0:0<=left/\left<=1099511627776) (hbd:∀x∈L,0<=x.2/\x.2<=1099511627776) :
  Calls Tryz.prog 117 #[.pointer (some ⟨b,0,none⟩),.int .i64 now] w fun e w'=>∃sa' sc',e=.returned (.tuple #[.int .i64 (Vg.due now L).1,.int .i64 0]) /\
   w'=Vg.put w b (servC (left+(Vg.due now L).1) period (.slice sa' (Vg.due now L).2.length sc') now)/\Vg.Que w B 335 2 (.slice sa' (Vg.due now L).2.length sc') (Vg.due now L).2.length (Vg.pcells (Vg.due now L).2) /\
   (Value.slice sa' (Vg.due now L).2.length sc').ownBlock=(Value.slice sa L.length sc).ownBlock:=by
 obtain⟨c0,c1,c2,c3⟩:=serv_cells h
 have f0:=Vg.frozen_of h
 have p0:=Vg.setCell_of h
 have l0:=Vg.lt_of h
 have N:=h_ h
 have HQ:=h_ hq
 clear h hq
 have hf:(decide (last<=now)&&decide (now<=4503599627370496))=true:=by rw[decide_eq_true h1,decide_eq_true h2];rfl
 have HF:=h_ hf
 clear hf
 go_enter Tryz.func117,Tryz.ntmps117
 go_wp2_with (go_at_call 116;refine(serv_later (left:=left) (period:=period) (v:=.slice sa L.length sc) (last:=last) now (by exact N.out)).mono ?_;rintro e w1 ⟨rfl,rfl⟩;rw[HF.out])
 go_loopg [6] L.length (fun k nv wr=>∃(q:List (Int×Int)) (acc:Int) (sa':Option Addr) (sc':Nat),k=q.length/\nv=.int .i64 acc/\acc+(Vg.due now q).1=(Vg.due now L).1/\(Vg.due now q).2=(Vg.due now L).2/\0<=acc/\acc<=(L.length-q.length:Nat)*1099511627776/\q.length<=L.length/\(∀x∈q,0<=x.2/\x.2<=1099511627776) /\
   wr=Vg.put w b (servC left period (.slice sa' q.length sc') now)/\Vg.Que w B 335 2 (.slice sa' q.length sc') q.length (Vg.pcells q)/\(Value.slice sa' q.length sc').ownBlock=(Value.slice sa L.length sc).ownBlock)
 case atStart=>exact⟨L,0,sa,sc,rfl,rfl,by omega,rfl,by omega,by omega,by omega,hbd,rfl,HQ.out,rfl⟩
 case round=>
  obtain⟨q,acc,sa',sc',hk,rfl,hacc,hrest,ha0,ha1,hql,hqb,rfl,hq,hown⟩:=hrel
  have HA:=h_ hacc
  have HR:=h_ hrest
  have HK:=h_ hk
  have HO:=h_ hown
  have HQ1:=h_ hq
  clear hacc hrest hk hown hq
  have hsum2:IntKind.i64.wrap (left+acc)=left+acc:=by rw[IntWalk.i64_in _ (by omega)]
  cases q with
  | nil=>
   go_wp2
   go_ret2
   have e1:acc=(Vg.due now L).1:=by have:=HA.out;simpa[Vg.due]using this
   have e2:(Vg.due now L).2=[]:=HR.out.symm
   rw[e2,<-e1]
   exact⟨sa',sc',rfl,rfl,HQ1.out,HO.out⟩
  | cons x l=>
   obtain⟨g,off,rfl,hg,hc,hm,hx⟩:=HQ1.out.reads.open (by rw[Vg.pcells_length];simp)
   have c0':=hx 0 (by simp[Vg.pcells])
   have c1':=hx 1 (by simp[Vg.pcells])
   simp only[Nat.add_zero,Vg.pcells,List.getElem_cons_zero,List.getElem_cons_succ]at c0' c1'
   have hcm:sc'<=9223372036854775807:=hm
   have hbg:b≠g:=by have:=(HQ1.out.lt g rfl).1;omega
   have hll:l.length+1<=1000:=by simp at hql;omega
   have hxb:=hqb x (by simp)
   have hsum:IntKind.i64.wrap (acc+x.2)=acc+x.2:=by rw[IntWalk.i64_in _ (by omega)]
   clear hx
   by_cases hle:x.1<=now
   ·have ed:Vg.due now (x :: l)=(x.2+(Vg.due now l).1,(Vg.due now l).2):=by rw[Vg.due,if_pos hle]
    have HD:=h_ ed
    clear ed
    by_cases hc1:sc'=1
    ·subst hc1
     go_wp2
     go_roundg l.length
     case measure=>rw[HK.out];simp
     case rel=>
      have e1:=HA.out
      have e2:=HR.out
      rw[HD.out]at e1 e2
      have hq2:=Vg.Que.tail1 (n:=l.length) HQ1.out
      simp only[List.length_cons]at ha1 hql
      refine⟨l,acc+x.2,some ⟨g,off,none⟩,0,rfl,rfl,?_,e2,by omega,by omega,by omega,fun y hy=>hqb y (by simp[hy]),rfl,hq2,?_⟩
      ·rw[<-e1];show acc+x.2+(Vg.due now l).1=acc+(x.2+(Vg.due now l).1);omega
      ·exact HO.out
    ·have hc2:2<=sc':=by simp at hc;omega
     go_wp2
     go_roundg l.length
     case measure=>rw[HK.out];simp
     case rel=>
      have e1:=HA.out
      have e2:=HR.out
      rw[HD.out]at e1 e2
      have hq2:=Vg.Que.tail (n:=l.length) HQ1.out
      simp only[List.length_cons]at ha1 hql
      refine⟨l,acc+x.2,some ⟨g,off+2,none⟩,sc'-1,rfl,rfl,?_,e2,by omega,by omega,by omega,fun y hy=>hqb y (by simp[hy]),rfl,hq2,?_⟩
      ·rw[<-e1];show acc+x.2+(Vg.due now l).1=acc+(x.2+(Vg.due now l).1);omega
      ·exact HO.out
   ·have ed:Vg.due now (x :: l)=(0,x :: l):=by rw[Vg.due,if_neg hle]
    have HD:=h_ ed
    clear ed
    go_wp2
    go_ret2
    have e1:=HA.out
    have e2:=HR.out
    rw[HD.out]at e1 e2
    have e1':acc=(Vg.due now L).1:=by rw[<-e1];show acc=acc+0;omega
    rw[<-e2,<-e1']
    first
     | exact⟨some ⟨g,off,none⟩,sc',rfl,rfl,HQ1.out,HO.out⟩
     | exact⟨rfl,some ⟨g,off,none⟩,sc',rfl,HQ1.out,HO.out⟩
     | (trace_state;exact⟨rfl,some ⟨g,off,none⟩,sc',rfl,HQ1.out,HO.out⟩)
end
end Go.Proofs.YtlkdkgefjipjmaaGreatDoor
namespace Vg
def owed:List (Int×Int)->Int
 | []=>0
 | x::l=>x.2+owed l
theorem owed_due(now:Int):∀L:List (Int×Int),(due now L).1+owed (due now L).2=owed L
 | []=>by simp[due,owed]
 | x::l=>by
  unfold due
  split
  ·have:=owed_due now l
   simp only[owed];omega
  ·simp[owed]
theorem due_sublist(now:Int):∀L:List (Int×Int),(due now L).2.Sublist L
 | []=>by simp[due]
 | x::l=>by
  unfold due
  split
  ·exact(due_sublist now l).cons x
  ·exact List.Sublist.refl _
theorem owed_nonneg:∀{L:List (Int×Int)},(∀x∈L,0<=x.2)->0<=owed L
 | [],_=>by simp[owed]
 | x::l,h=>by
  have:=owed_nonneg (L:=l) fun y hy=>h y (by simp[hy])
  have:=h x (by simp)
  simp only[owed];omega
theorem owed_mem:∀{L:List (Int×Int)},(∀x∈L,0<=x.2)->∀x∈L,x.2<=owed L
 | y::l,h,x,hx=>by
  have hl:=owed_nonneg (L:=l) fun z hz=>h z (by simp[hz])
  have hy:=h y (by simp)
  rcases List.mem_cons.1 hx with rfl|hx
  ·simp only[owed];omega
  ·have:=owed_mem (L:=l) (fun z hz=>h z (by simp[hz])) x hx
   simp only[owed];omega
structure Srv where
 L:List (Int×Int)
 last:Int
def Srv.left(s:Srv)(budget:Int):Int:=if 16<=s.L.length then 0 else budget-owed s.L
def Srv.refill(s:Srv)(now:Int):Srv×Int×Int:=
 if now<s.last\/4503599627370496<now then(s,0,1)else(⟨(due now s.L).2,now⟩,(due now s.L).1,0)
def Srv.Inv(s:Srv)(budget:Int):Prop:=0<=s.last/\s.last<=4503599627370496/\s.L.length<=16/\(∀x∈s.L,0<=x.1/\x.1<=4504699138998272/\0<=x.2)/\owed s.L<=budget
theorem Srv.refill_inv{s:Srv}{budget:Int}(now:Int)(h:s.Inv budget):(s.refill now).1.Inv budget:=by
 unfold Srv.refill
 split
 ·exact h
 ·obtain⟨h1,h2,h3,h4,h5⟩:=h
  have hs:=due_sublist now s.L
  have hd:0<=(due now s.L).1:=by
   have:∀L:List (Int×Int),(∀x∈L,0<=x.2)->0<=(due now L).1:=by
    intro L
    induction L with
    | nil=>intro _;simp[due]
    | cons x l ih=>
     intro hx
     unfold due
     split
     ·have:=ih fun y hy=>hx y (by simp[hy])
      have:=hx x (by simp)
      show 0<=x.2+(due now l).1;omega
     ·show(0:Int)<=0;omega
   exact this s.L fun x hx=>(h4 x hx).2.2
  have ho:=owed_due now s.L
  refine⟨by show 0<=now;omega,by show now<=_;omega,Nat.le_trans hs.length_le h3,fun x hx=>h4 x (hs.subset hx),?_⟩
  show owed (due now s.L).2<=budget
  omega
end Vg
namespace Go.Proofs.YtlkdkgefjipjmaaGreatDoor
open Go.ChangeShapes Go.WideShapes Go.ChangeAt Go.RowKit
section
variable {b B:Nat}{budget period last:Int}{L:List (Int×Int)}{w:World}{sa:Option Addr}{sc:Nat}
theorem serv_refill_any(now:Int)(h:Vg.blk w b=some (servC (budget-Vg.owed L) period (.slice sa L.length sc) last))(hq:Vg.Que w B 335 2 (.slice sa L.length sc) L.length (Vg.pcells L))(hb:b<B)
  (hinv:Vg.Srv.Inv ⟨L,last⟩ budget)(hbu:1<=budget/\budget<=1099511627776):
  Calls Tryz.prog 117 #[.pointer (some ⟨b,0,none⟩),.int .i64 now] w fun e w'=>∃L' last' sa' sc',(Vg.Srv.refill ⟨L,last⟩ now).1=⟨L',last'⟩/\e=.returned (.tuple #[.int .i64 (Vg.Srv.refill ⟨L,last⟩ now).2.1,.int .i64 (Vg.Srv.refill ⟨L,last⟩ now).2.2]) /\
   Vg.Que w B 335 2 (.slice sa' L'.length sc') L'.length (Vg.pcells L')/\(Value.slice sa' L'.length sc').ownBlock=(Value.slice sa L.length sc).ownBlock /\
   w'=Vg.put w b (servC (budget-Vg.owed L') period (.slice sa' L'.length sc') last'):=by
 obtain⟨i1,i2,i3,i4,i5⟩:=hinv
 have i1:0<=last:=i1
 have i2:last<=4503599627370496:=i2
 have i3:L.length<=16:=i3
 have i4:∀x∈L,0<=x.1/\x.1<=4504699138998272/\0<=x.2:=i4
 have i5:Vg.owed L<=budget:=i5
 have ho:=Vg.owed_nonneg (L:=L) fun x hx=>(i4 x hx).2.2
 by_cases hno:now<last\/4503599627370496<now
 ·have hu:Vg.Srv.refill ⟨L,last⟩ now=(⟨L,last⟩,0,1):=by unfold Vg.Srv.refill;rw[if_pos hno]
  rw[hu]
  refine(serv_refill_no now h hno).mono ?_
  rintro e w' ⟨rfl,rfl⟩
  exact⟨L,last,sa,sc,rfl,rfl,hq,rfl,(Vg.put_self h).symm⟩
 ·have hu:Vg.Srv.refill ⟨L,last⟩ now=(⟨(Vg.due now L).2,now⟩,(Vg.due now L).1,0):=by unfold Vg.Srv.refill;rw[if_neg hno]
  rw[hu]
  refine(serv_refill_ok now h hq hb (by omega) (by omega) (by omega) (by omega) (fun x hx=>⟨(i4 x hx).2.2,by have:=Vg.owed_mem (fun y hy=>(i4 y hy).2.2) x hx;omega⟩)).mono ?_
  rintro e w' ⟨sa',sc',rfl,rfl,hq',hown⟩
  refine⟨_,_,sa',sc',rfl,rfl,hq',hown,?_⟩
  have:=Vg.owed_due now L
  have e1:budget-Vg.owed L+(Vg.due now L).1=budget-Vg.owed (Vg.due now L).2:=by omega
  rw[e1]
end
end Go.Proofs.YtlkdkgefjipjmaaGreatDoor

namespace Vg
open Go
end Vg
namespace Go.Proofs.YtlkdkgefjipjmaaGreatDoor
open Go.ChangeShapes Go.WideShapes Go.ChangeAt Go.RowKit
section
variable {S:Nat}{budget period last:Int}{sa:Option Addr}{sc:Nat}{L:List (Int×Int)}{w:World}
end
end Go.Proofs.YtlkdkgefjipjmaaGreatDoor
namespace Vg
open Go
@[go_sem] theorem setCell_drewN {w:World}{k:Nat}{a:Addr}{v:Value}:(w.drewN k).setCell a v=(w.setCell a v).drewN k:=rfl
end Vg
namespace Go.Proofs.YtlkdkgefjipjmaaGreatDoor
open Go.ChangeShapes Go.WideShapes Go.ChangeAt Go.RowKit
section
variable {S:Nat}{budget period last:Int}{sa:Option Addr}{sc:Nat}{L:List (Int×Int)}{w:World}
end
end Go.Proofs.YtlkdkgefjipjmaaGreatDoor
namespace Vg
open Go
theorem Touch.grows{w0 w w':World}{t:Nat->Prop}(h:Touch t w w')(hg:Grows w0 w)(ht:∀k,t k->w0.heap.size<=k):Grows w0 w':=
 Grows.of_below ⟨h.os.trans hg.below.os,h.tape.trans hg.below.tape,h.output.trans hg.below.output,Nat.le_trans hg.size h.size,fun k hk=>
  (h.block k (Nat.lt_of_lt_of_le hk hg.size) (fun hh=>by have:=ht k hh;omega)).trans (hg.below.block k hk)⟩
theorem Reads.touch{S:Nat}{w w':World}{t:Nat->Prop}{sv:Value}{n:Nat}{xs:List Value}(h:Reads S w sv n xs)(ht:Touch t w w')(ha:∀k,sv.ownBlock=some k->¬t k):Reads S w' sv n xs:=by
 rcases h with h|⟨g,off,cap,h1,h2,h3,h4,h5,h6⟩
 ·exact .inl h
 ·refine .inr ⟨g,off,cap,h1,h2,Nat.lt_of_lt_of_le h3 ht.size,h4,h5,fun j hj=>?_⟩
  rw[<-h6 j hj]
  exact World.cell?_of_block (w:=w) (ht.block g h3 (ha g (by rw[h1];rfl)))
theorem Srv.inv0{bu:Int}(h:1<=bu):Srv.Inv ⟨[],0⟩ bu:=⟨by show(0:Int)<=0;omega,by show(0:Int)<=_;omega,by simp,by simp,by show(0:Int)<=bu;omega⟩
end Vg
namespace Go.Proofs.YtlkdkgefjipjmaaGreatDoor
open Go.ChangeShapes Go.WideShapes Go.ChangeAt Go.RowKit
def SA(w:World)(b B:Nat)(bu pe:Int)(s:Vg.Srv)(v:Value):Prop:=
 ∃sa sc,v=.slice sa s.L.length sc/\Vg.blk w b=some (servC (bu-Vg.owed s.L) pe v s.last)/\Vg.Que w B 335 2 v s.L.length (Vg.pcells s.L)
section
variable {w w':World}{b B S:Nat}{bu pe:Int}{s:Vg.Srv}{v:Value}
theorem SA.kept(h:SA w b B bu pe s v)(hb:Vg.blk w' b=Vg.blk w b)(hv:∀k,v.ownBlock=some k->Vg.blk w' k=Vg.blk w k):SA w' b B bu pe s v:=by
 obtain⟨sa,sc,hv',h1,h2⟩:=h
 exact⟨sa,sc,hv',hb.trans h1,h2.kept hv⟩
theorem SA.lt(h:SA w b B bu pe s v):b<w.heap.size:=by obtain⟨sa,sc,hv',h1,h2⟩:=h;exact Vg.lt_of h1
theorem SA.own(h:SA w b B bu pe s v):∀k,v.ownBlock=some k->B<=k/\k<w.heap.size:=by obtain⟨sa,sc,hv',h1,h2⟩:=h;exact h2.lt
theorem SA.grows(h:SA w b B bu pe s v)(hg:Vg.Grows w w'):SA w' b B bu pe s v:=by
 have hl:=h.lt
 have ho:=h.own
 obtain⟨x,n,rfl⟩:=hg
 exact h.kept (Vg.blk_plus hl) fun k hk=>Vg.blk_plus (ho k hk).2
theorem SA.touch{t:Nat->Prop}(h:SA w b B bu pe s v)(ht:Vg.Touch t w w')(hb:¬t b)(hv:∀k,v.ownBlock=some k->¬t k):SA w' b B bu pe s v:=
 h.kept (ht.block b h.lt hb) fun k hk=>ht.block k (h.own k hk).2 (hv k hk)
theorem sa_new(h1:1<=bu)(h2:bu<=pe)(h3:pe<=1099511627776):
  Calls Tryz.prog 49 #[.int .i64 bu,.int .i64 pe] w fun e w'=>e=.returned (.tuple #[.pointer (some ⟨w.heap.size,0,none⟩),.int .i64 0])/\SA w' w.heap.size (w.heap.size+1) bu pe ⟨[],0⟩ (.slice none 0 0)/\w'=w.alloc (servC bu pe (.slice none 0 0) 0):=by
 refine(serv_new_ok bu pe h1 h2 h3).mono ?_
 rintro e w' ⟨rfl,rfl⟩
 refine⟨rfl,⟨none,0,rfl,?_,Vg.Que.nil _ _ _ _⟩,rfl⟩
 have:bu-Vg.owed []=bu:=Int.sub_zero bu
 rw[this]
 exact Vg.alloc_heap_at rfl
theorem sa_refill (now:Int) (h:SA w b B bu pe s v) (hb:b<B) (hinv:s.Inv bu) (hbu:1<=bu/\bu<=1099511627776) :
  Calls Tryz.prog 117 #[.pointer (some ⟨b,0,none⟩),.int .i64 now] w fun e w'=>∃v',e=.returned (.tuple #[.int .i64 (s.refill now).2.1,.int .i64 (s.refill now).2.2])/\SA w' b B bu pe (s.refill now).1 v' /\
   Vg.Touch (fun k=>k=b\/v.ownBlock=some k) w w'/\(∀k,v'.ownBlock=some k->v.ownBlock=some k\/w.heap.size<=k):=by
 obtain⟨sa,sc,rfl,h1,h2⟩:=h
 refine(serv_refill_any (L:=s.L) (last:=s.last) now h1 h2 hb hinv hbu).mono ?_
 rintro e w' ⟨L',last',sa',sc',hst,rfl,hq',ho',rfl⟩
 have hst:(s.refill now).1=⟨L',last'⟩:=hst
 refine⟨.slice sa' L'.length sc',rfl,?_,(Vg.Touch.refl _ _).put (.inl rfl) _,fun k hk=>.inl (ho'.symm.trans hk)⟩
 rw[hst]
 refine⟨sa',sc',rfl,Vg.put_heap_same (Vg.lt_of h1),?_⟩
 exact hq'.kept fun k hk=>Vg.put_heap_other (by have:=(hq'.lt k hk).1;omega)
theorem sa_left(h:SA w b B bu pe s v):Calls Tryz.prog 154 #[.pointer (some ⟨b,0,none⟩)] w fun e w'=>e=.returned (.int .i64 (s.left bu))/\w=w':=by
 obtain⟨sa,sc,rfl,h1,h2⟩:=h
 exact serv_left h1
theorem sa_next(h:SA w b B bu pe s v):Calls Tryz.prog 155 #[.pointer (some ⟨b,0,none⟩)] w fun e w'=>e=.returned (.tuple #[.int .i64 (s.L.headD (0,0)).1,.bool (!s.L.isEmpty)])/\w=w':=by
 obtain⟨sa,sc,rfl,h1,h2⟩:=h
 exact serv_next h1 h2
end
end Go.Proofs.YtlkdkgefjipjmaaGreatDoor
namespace Vg
open Go
structure Th where
 pr:Int
 bu:Int
 pe:Int
 dp:Int
structure Bp where
 t:Th
 s:Srv
structure Bt where
 p:Bp
 sb:Nat
 sv:Value
def bcells:List Bt->List Value
 | []=>[]
 | x::l=>.int .i64 x.p.t.pr :: .int .i64 x.p.t.bu :: .int .i64 x.p.t.pe :: .int .i64 x.p.t.dp :: .pointer (some ⟨x.sb,0,none⟩):: bcells l
theorem bcells_length:∀l:List Bt,(bcells l).length=l.length*5
 | []=>rfl
 | x::l=>by simp[bcells,bcells_length l];omega
theorem bcells_append:∀l m:List Bt,bcells (l++m)=bcells l++bcells m
 | [],m=>rfl
 | x::l,m=>by simp[bcells,bcells_append l m]
theorem bcells_get:∀(l:List Bt)(k:Nat)(h:k<l.length),(bcells l)[k*5]? = some (.int .i64 l[k].p.t.pr)/\(bcells l)[k*5+1]? = some (.int .i64 l[k].p.t.bu)/\(bcells l)[k*5+2]? = some (.int .i64 l[k].p.t.pe)/\(bcells l)[k*5+3]? = some (.int .i64 l[k].p.t.dp)/\(bcells l)[k*5+4]? = some (.pointer (some ⟨l[k].sb,0,none⟩))
 | [],k,h=>by simp at h
 | x::l,0,_=>by simp[bcells]
 | x::l,k+1,h=>by
  have:=bcells_get l k (by simpa using h)
  rw[show(k+1)*5=k*5+1+1+1+1+1 from by omega]
  simpa[bcells]using this
theorem bcells_set:∀(l:List Bt)(k:Nat)(h:k<l.length)(s:Srv)(v:Value),bcells (l.set k ⟨⟨l[k].p.t,s⟩,l[k].sb,v⟩)=bcells l
 | [],k,h,_,_=>by simp at h
 | x::l,0,_,s,v=>by simp[bcells]
 | x::l,k+1,h,s,v=>by
  have:=bcells_set l k (by simpa using h) s v
  simpa[bcells]using this
theorem Reads.thread{S:Nat}{w:World}{a:Option Addr}{c n:Nat}{xs:List Bt}(hn:xs.length=n)(h:Reads S w (.slice a n c) n (bcells xs))(i:Nat)(hi:i<xs.length):
  ∃g o,a=some ⟨g,o,none⟩/\g<w.heap.size/\n<=c/\c<=9223372036854775807/\w.cell? ⟨g,o+i*5,none⟩=some (.int .i64 xs[i].p.t.pr)/\w.cell? ⟨g,o+i*5+1,none⟩=some (.int .i64 xs[i].p.t.bu)/\w.cell? ⟨g,o+i*5+2,none⟩=some (.int .i64 xs[i].p.t.pe)/\w.cell? ⟨g,o+i*5+3,none⟩=some (.int .i64 xs[i].p.t.dp)/\w.cell? ⟨g,o+i*5+4,none⟩=some (.pointer (some ⟨xs[i].sb,0,none⟩)):=by
 subst hn
 have hl:=bcells_length xs
 obtain⟨g,o,rfl,hg,hc,hm,hx⟩:=h.open (by omega)
 obtain⟨g0,g1,g2,g3,g4⟩:=bcells_get xs i hi
 have key:∀j u,i*5+j<(bcells xs).length->(bcells xs)[i*5+j]? = some u->w.cell? ⟨g,o+i*5+j,none⟩=some u:=fun j u hj hu=>by
  have:=hx (i*5+j) hj
  rw[<-Nat.add_assoc]at this
  rw[this,<-hu,List.getElem?_eq_getElem]
 have hhc:c<=9223372036854775807:=hm
 exact⟨g,o,rfl,hg,hc,hhc,by simpa using key 0 _ (by omega) g0,key 1 _ (by omega) g1,key 2 _ (by omega) g2,key 3 _ (by omega) g3,key 4 _ (by omega) g4⟩
def Bo.wait(n:Nat)(Q:List Wq)(i:Int):Int:=if i<0\/(n:Int)<=i then 0 else Wk.waiting Q i
def Bo.ableK(Bs:List Bp)(Q:List Wq)(i:Nat):Bool:=
 match Bs[i]? with
 | none=>false
 | some x=>decide (0<Wk.waiting Q i)&&decide (0<x.s.left x.t.bu)
def Bo.able(Bs:List Bp)(Q:List Wq)(i:Int):Bool:=if i<0 then false else Bo.ableK Bs Q i.toNat
def Bo.later(now:Int)(x:Bp):Bool:=decide (x.s.last<=now)&&decide (now<=4503599627370496)
def Bo.rf(now:Int)(x:Bp):Bp:=⟨x.t,(x.s.refill now).1⟩
def Bo.refill(Bs:List Bp)(now:Int):List Bp×Int:=if Bs.all (Bo.later now)=true then(Bs.map (Bo.rf now),0)else(Bs,1)
def Bo.cand(Bs:List Bp)(Q:List Wq)(i:Nat):Option Int:=
 match Bs[i]? with
 | none=>none
 | some x=>if Wk.waiting Q i=0\/0<x.s.left x.t.bu then none else match x.s.L with | []=>none|y::_=>some y.1
def Bo.least:Option Int->Int×Bool->Int×Bool
 | none,r=>r
 | some a,r=>if r.2=false\/a<r.1 then(a,true)else r
def Bo.nextK(Bs:List Bp)(Q:List Wq):Nat->Int×Bool
 | 0=>(0,false)
 | k+1=>Bo.least (Bo.cand Bs Q k) (Bo.nextK Bs Q k)
def Bo.next(Bs:List Bp)(Q:List Wq):Int×Bool:=Bo.nextK Bs Q Bs.length
def Bp.ok(x:Bp):Prop:=(1<=x.t.bu/\x.t.bu<=1099511627776)/\(1<=x.t.pe/\x.t.pe<=1099511627776)/\(0<=x.t.pr/\x.t.pr<=63)/\x.s.Inv x.t.bu
structure Bo.Inv(k:Nat)(Bs:List Bp)(Q:List Wq):Prop where
 each:∀x∈Bs,x.ok
 wk:Wk.Inv k Q
 len:Bs=[]\/Q.length=Bs.length
theorem Bo.Inv.le{k:Nat}{Bs:List Bp}{Q:List Wq}(h:Bo.Inv k Bs Q):Bs.length<=64:=by
 rcases h.len with h1|h1
 ·rw[h1];simp
 ·have:=h.wk.len;omega
theorem Bo.wait_in{n:Nat}{Q:List Wq}{i:Nat}(h:i<n):Bo.wait n Q i=Wk.waiting Q i:=if_neg (by omega)
theorem Bo.wait_out{n:Nat}{Q:List Wq}{i:Int}(h:i<0\/(n:Int)<=i):Bo.wait n Q i=0:=if_pos h
theorem Bo.able_in{Bs:List Bp}{Q:List Wq}{i:Nat}(h:i<Bs.length):Bo.able Bs Q i=(decide (0<Wk.waiting Q i)&&decide (0<Bs[i].s.left Bs[i].t.bu)):=by
 unfold Bo.able Bo.ableK
 rw[if_neg (by omega)]
 simp[List.getElem?_eq_getElem h]
theorem Bo.ableK_eq{Bs:List Bp}{Q:List Wq}(i:Nat):Bo.ableK Bs Q i=Bo.able Bs Q i:=by
 unfold Bo.able
 rw[if_neg (by omega)]
 simp
theorem Bo.able_out{Bs:List Bp}{Q:List Wq}{i:Int}(h:i<0\/(Bs.length:Int)<=i):Bo.able Bs Q i=false:=by
 unfold Bo.able Bo.ableK
 by_cases h0:i<0
 ·rw[if_pos h0]
 ·rw[if_neg h0,List.getElem?_eq_none (by omega)]
end Vg
namespace Go.Proofs.YtlkdkgefjipjmaaGreatDoor
open Go.ChangeShapes Go.WideShapes Go.ChangeAt Go.RowKit
abbrev botC(rv:Value)(wb:Nat):Obj:=.cells #[rv,.pointer (some ⟨wb,0,none⟩)] 161
def fp(x:Vg.Bt)(k:Nat):Prop:=k=x.sb\/x.sv.ownBlock=some k
def fw(wb:Nat)(O:Nat->Prop)(k:Nat):Prop:=k=wb\/O k
structure BT(w:World)(b:Nat)(xs:List Vg.Bt)(rv:Value)(wb:Nat)(Q:List Vg.Wq)(wv:Value)(O:Nat->Prop):Prop where
 tab:Vg.blk w b=some (botC rv wb)
 shp:∃a c,rv=.slice a xs.length c
 row:Vg.Reads 0 w rv xs.length (Vg.bcells xs)
 srv:∀i (h:i<xs.length),SA w xs[i].sb (xs[i].sb+1) xs[i].p.t.bu xs[i].p.t.pe xs[i].p.s xs[i].sv
 wrk:WS w wb (wb+1) Q wv O
 dis:∀i j (hi:i<xs.length)(hj:j<xs.length),i≠j->∀k,fp xs[i] k->¬fp xs[j] k
 offw:∀i (hi:i<xs.length) k,fp xs[i] k->¬fw wb O k
 offb:∀i (hi:i<xs.length) k,fp xs[i] k->k≠b/\rv.ownBlock≠some k
 wofb:∀k,fw wb O k->k≠b/\rv.ownBlock≠some k
def bown(b:Nat)(xs:List Vg.Bt)(rv:Value)(wb:Nat)(O:Nat->Prop)(k:Nat):Prop:=k=b\/rv.ownBlock=some k\/(∃i,∃h:i<xs.length,fp xs[i] k)\/fw wb O k
section
variable {w w':World}{b wb:Nat}{xs:List Vg.Bt}{rv wv:Value}{Q Q':List Vg.Wq}{O O':Nat->Prop}
theorem BT.lt(h:BT w b xs rv wb Q wv O):b<w.heap.size:=Vg.lt_of h.tab
theorem BT.fp_lt(h:BT w b xs rv wb Q wv O)(i:Nat)(hi:i<xs.length):∀k,fp xs[i] k->k<w.heap.size:=by
 rintro k (rfl|hk)
 ·exact(h.srv i hi).lt
 ·exact((h.srv i hi).own k hk).2
theorem BT.fw_lt(h:BT w b xs rv wb Q wv O):∀k,fw wb O k->k<w.heap.size:=by
 rintro k (rfl|hk)
 ·have:=h.wrk.hB;omega
 ·exact(h.wrk.own k hk).2
theorem reads_lt{S:Nat}{w:World}{sv:Value}{n:Nat}{xs:List Value}(h:Vg.Reads S w sv n xs):∀k,sv.ownBlock=some k->k<w.heap.size:=by
 intro k hk
 rcases h with⟨rfl,_⟩|⟨g,off,cap,rfl,h2,h3,_⟩
 ·simp[Value.ownBlock]at hk
 ·have:g=k:=by simpa[Value.ownBlock]using hk
  omega
theorem BT.own_lt(h:BT w b xs rv wb Q wv O):∀k,bown b xs rv wb O k->k<w.heap.size:=by
 rintro k (rfl|hk|⟨i,hi,hk⟩|hk)
 ·exact h.lt
 ·exact reads_lt h.row k hk
 ·exact h.fp_lt i hi k hk
 ·exact h.fw_lt k hk
theorem reads_touch{S:Nat}{w w':World}{t:Nat->Prop}{sv:Value}{n:Nat}{xs:List Value}(h:Vg.Reads S w sv n xs)(ht:Vg.Touch t w w')(ha:∀k,sv.ownBlock=some k->¬t k):Vg.Reads S w' sv n xs:=h.touch ht ha
theorem BT.grows(h:BT w b xs rv wb Q wv O)(hg:Vg.Grows w w'):BT w' b xs rv wb Q wv O:=
 ⟨hg.blk h.tab,h.shp,h.row.grows hg,fun i hi=>(h.srv i hi).grows hg,h.wrk.grows hg,h.dis,h.offw,h.offb,h.wofb⟩
theorem BT.touch{t:Nat->Prop}(h:BT w b xs rv wb Q wv O)(ht:Vg.Touch t w w')(hv:∀k,bown b xs rv wb O k->¬t k):BT w' b xs rv wb Q wv O:=
 ⟨ht.bk h.tab (hv b (.inl rfl)),h.shp,reads_touch h.row ht fun k hk=>hv k (.inr (.inl hk)),
  fun i hi=>(h.srv i hi).touch ht (hv _ (.inr (.inr (.inl ⟨i,hi,.inl rfl⟩)))) fun k hk=>hv k (.inr (.inr (.inl ⟨i,hi,.inr hk⟩))),
  h.wrk.touch ht (hv _ (.inr (.inr (.inr (.inl rfl))))) fun k hk=>hv k (.inr (.inr (.inr (.inr hk)))),h.dis,h.offw,h.offb,h.wofb⟩
theorem BT.server{i:Nat}{s':Vg.Srv}{v':Value}(hi:i<xs.length)(h:BT w b xs rv wb Q wv O)(hs:SA w' xs[i].sb (xs[i].sb+1) xs[i].p.t.bu xs[i].p.t.pe s' v')
  (ht:Vg.Touch (fun k=>k=xs[i].sb\/xs[i].sv.ownBlock=some k) w w')(hv:∀k,v'.ownBlock=some k->xs[i].sv.ownBlock=some k\/w.heap.size<=k):
  BT w' b (xs.set i ⟨⟨xs[i].p.t,s'⟩,xs[i].sb,v'⟩) rv wb Q wv O/\(∀k,bown b (xs.set i ⟨⟨xs[i].p.t,s'⟩,xs[i].sb,v'⟩) rv wb O k->bown b xs rv wb O k\/w.heap.size<=k)/\Vg.Touch (bown b xs rv wb O) w w':=by
 have ht:Vg.Touch (fp xs[i]) w w':=ht
 obtain⟨y,hy⟩:∃y:Vg.Bt,(⟨⟨xs[i].p.t,s'⟩,xs[i].sb,v'⟩:Vg.Bt)=y:=⟨_,rfl⟩
 rw[hy]
 have hne:∀j (hj:j<xs.length),j≠i->(xs.set i y)[j]'(by simpa using hj)=xs[j]:=fun j hj hji=>List.getElem_set_ne (fun hh=>hji hh.symm) _
 have heq:(xs.set i y)[i]'(by simpa using hi)=y:=List.getElem_set_self _
 have hfy:∀k,fp y k->fp xs[i] k\/w.heap.size<=k:=by
  subst hy
  rintro k (hk|hk)
  ·exact .inl (.inl hk)
  ·rcases hv k hk with h1|h1
   ·exact .inl (.inr h1)
   ·exact .inr h1
 have hall:∀j (hj:j<xs.length) k,fp ((xs.set i y)[j]'(by simpa using hj)) k->fp xs[j] k\/(w.heap.size<=k/\j=i):=fun j hj k hk=>by
  by_cases hji:j=i
  ·subst hji
   rw[heq]at hk
   rcases hfy k hk with h1|h1
   ·exact .inl h1
   ·exact .inr ⟨h1,rfl⟩
  ·rw[hne j hj hji]at hk
   exact .inl hk
 refine⟨⟨ht.bk h.tab fun hh=>(h.offb i hi b hh).1 rfl,?_,?_,fun j hj=>?_,h.wrk.touch ht (fun hh=>h.offw i hi _ hh (.inl rfl)) (fun k hk hh=>h.offw i hi k hh (.inr hk)),fun j l hj hl hjl k hk hk2=>?_,fun j hj k hk hh=>?_,fun j hj k hk=>?_,h.wofb⟩,?_,ht.mono fun k _ hk=>.inr (.inr (.inl ⟨i,hi,hk⟩))⟩
 ·rw[List.length_set];exact h.shp
 ·rw[List.length_set,<-hy,Vg.bcells_set]
  exact reads_touch h.row ht fun k hk hh=>(h.offb i hi k hh).2 hk
 ·have hj':j<xs.length:=by simpa using hj
  by_cases hji:j=i
  ·subst hji
   rw[heq,<-hy];exact hs
  ·rw[hne j hj' hji]
   exact(h.srv j hj').touch ht (fun hh=>h.dis j i hj' hi hji _ (.inl rfl) hh) fun k hk hh=>h.dis j i hj' hi hji k (.inr hk) hh
 ·have hj':j<xs.length:=by simpa using hj
  have hl':l<xs.length:=by simpa using hl
  rcases hall j hj' k hk with h1|⟨h1,h1'⟩
  ·rcases hall l hl' k hk2 with h2|⟨h2,h2'⟩
   ·exact h.dis j l hj' hl' hjl k h1 h2
   ·have:=h.fp_lt j hj' k h1;omega
  ·rcases hall l hl' k hk2 with h2|⟨h2,h2'⟩
   ·have:=h.fp_lt l hl' k h2;omega
   ·omega
 ·have hj':j<xs.length:=by simpa using hj
  rcases hall j hj' k hk with h1|⟨h1,h1'⟩
  ·exact h.offw j hj' k h1 hh
  ·have:=h.fw_lt k hh;omega
 ·have hj':j<xs.length:=by simpa using hj
  rcases hall j hj' k hk with h1|⟨h1,h1'⟩
  ·exact h.offb j hj' k h1
  ·exact⟨fun hh=>by have:=h.lt;omega,fun hh=>by have:=reads_lt h.row k hh;omega⟩
 ·rintro k (hk|hk|⟨j,hj,hk⟩|hk)
  ·exact .inl (.inl hk)
  ·exact .inl (.inr (.inl hk))
  ·have hj':j<xs.length:=by simpa using hj
   rcases hall j hj' k hk with h1|⟨h1,h1'⟩
   ·exact .inl (.inr (.inr (.inl ⟨j,hj',h1⟩)))
   ·exact .inr h1
  ·exact .inl (.inr (.inr (.inr hk)))
end
end Go.Proofs.YtlkdkgefjipjmaaGreatDoor
namespace Vg
open Go
theorem Touch.next{w w2 w3:World}{t t':Nat->Prop}(h1:Touch t w w2)(h2:Touch t' w2 w3)(hn:∀k,t' k->t k\/w.heap.size<=k):Touch t w w3:=
 ⟨h2.os.trans h1.os,h2.tape.trans h1.tape,h2.output.trans h1.output,Nat.le_trans h1.size h2.size,fun k hk ht=>(h2.block k (Nat.lt_of_lt_of_le hk h1.size) fun hh=>by
  rcases hn k hh with h|h
  ·exact ht h
  ·omega).trans (h1.block k hk ht)⟩
end Vg
namespace Go.Proofs.YtlkdkgefjipjmaaGreatDoor
open Go.ChangeShapes Go.WideShapes Go.ChangeAt Go.RowKit
def BTn(w w':World)(b:Nat)(xs:List Vg.Bt)(rv:Value)(wb:Nat)(Q':List Vg.Wq)(wv:Value)(O:Nat->Prop)(Bs':List Vg.Bp):Prop:=
 ∃xs' O',BT w' b xs' rv wb Q' wv O'/\xs'.map (·.p)=Bs'/\(∀k,bown b xs' rv wb O' k->bown b xs rv wb O k\/w.heap.size<=k)/\Vg.Touch (bown b xs rv wb O) w w'
section
variable {w w':World}{b wb n:Nat}{xs:List Vg.Bt}{rv wv:Value}{Q Q':List Vg.Wq}{O:Nat->Prop}{x r:Int}{is:Bool}{Bs':List Vg.Bp}
theorem BTn.same(h:BT w b xs rv wb Q wv O)(hg:Vg.Grows w w'):BTn w w' b xs rv wb Q wv O (xs.map (·.p)):=⟨xs,O,h.grows hg,rfl,fun k hk=>.inl hk,Vg.Touch.of_grows hg⟩
theorem bot_has(i:Int)(h:BT w b xs rv wb Q wv O)(hn:xs.length=n){is:Bool}(his:decide (0<=i/\i<(n:Int))=is):
  Calls Tryz.prog 97 #[.pointer (some ⟨b,0,none⟩),.int .i64 i] w fun e w'=>e=.returned (.bool is)/\w=w':=by
 subst his
 obtain⟨a,c,rfl⟩:=h.shp
 have c0:=Vg.cells_of h.tab 0
 simp at c0
 rw[hn]at c0
 clear h hn
 by_cases h0:i<0
 ·go_enter Tryz.func97,Tryz.ntmps97
  go_wp2
  go_ret
  exact⟨ret_bool (by simp<;>omega),rfl⟩
 ·by_cases h1:i<n
  ·go_enter Tryz.func97,Tryz.ntmps97
   go_wp2
   go_ret
   exact⟨ret_bool (by simp<;>omega),rfl⟩
  ·go_enter Tryz.func97,Tryz.ntmps97
   go_wp2
   go_ret
   exact⟨ret_bool (by simp<;>omega),rfl⟩
theorem bot_wait(i:Int)(h:BT w b xs rv wb Q wv O)(hx:Vg.Bo.wait xs.length Q i=x):
  Calls Tryz.prog 153 #[.pointer (some ⟨b,0,none⟩),.int .i64 i] w fun e w'=>e=.returned (.int .i64 x)/\w=w':=by
 by_cases hi:i<0\/(xs.length:Int)<=i
 ·rw[Vg.Bo.wait_out hi]at hx
  subst hx
  have hd:decide (0<=i/\i<(xs.length:Int))=false:=by simp;omega
  have H_h:=h_ h;have H_hd:=h_ hd;clear h hd
  go_enter Tryz.func153,Tryz.ntmps153
  go_wp2_with ((go_at_call 97;refine(bot_has i H_h.out rfl H_hd.out).mono ?_;rintro e w1 ⟨rfl,rfl⟩))
  go_ret
  exact⟨rfl,rfl⟩
 ·have hd:decide (0<=i/\i<(xs.length:Int))=true:=by simp;omega
  unfold Vg.Bo.wait at hx
  rw[if_neg hi]at hx
  have c1:=Vg.cells_of h.tab 1
  simp at c1
  have H_h:=h_ h;have H_hd:=h_ hd;have H_hx:=h_ hx;clear h hd hx
  go_enter Tryz.func153,Tryz.ntmps153
  go_wp2_with (first|(go_at_call 97;refine(bot_has i H_h.out rfl H_hd.out).mono ?_;rintro e w1 ⟨rfl,rfl⟩)|(go_at_call 200;refine(ws_waiting i H_h.out.wrk H_hx.out).mono ?_;rintro e w1 ⟨rfl,rfl⟩))
  go_ret
  exact⟨rfl,rfl⟩
theorem bot_able(i:Int)(h:BT w b xs rv wb Q wv O){is:Bool}(hx:Vg.Bo.able (xs.map (·.p)) Q i=is):
  Calls Tryz.prog 99 #[.pointer (some ⟨b,0,none⟩),.int .i64 i] w fun e w'=>e=.returned (.bool is)/\w=w':=by
 subst hx
 by_cases ho:i<0\/(xs.length:Int)<=i
 ·rw[Vg.Bo.able_out (by simpa using ho)]
  have hw:=Vg.Bo.wait_out (Q:=Q) ho
  have H_h:=h_ h;have H_hw:=h_ hw;clear h hw
  go_enter Tryz.func99,Tryz.ntmps99
  go_wp2_with ((go_at_call 153;refine(bot_wait i H_h.out H_hw.out).mono ?_;rintro e w1 ⟨rfl,rfl⟩))
  go_ret
  exact⟨rfl,rfl⟩
 ·obtain⟨j,rfl⟩:∃j:Nat,i=j:=⟨i.toNat,by omega⟩
  have hj:j<xs.length:=by omega
  rw[Vg.Bo.able_in (by simpa using hj),List.getElem_map]
  obtain⟨wt,hwt⟩:∃wt,Vg.Wk.waiting Q j=wt:=⟨_,rfl⟩
  have hw:Vg.Bo.wait xs.length Q j=wt:=by rw[Vg.Bo.wait_in hj];exact hwt
  rw[hwt]
  obtain⟨a,c,rfl⟩:=h.shp
  have c0:=Vg.cells_of h.tab 0
  simp at c0
  have hs:=h.srv j hj
  obtain⟨g,o,rfl,hg,hcc,hcm,d0,d1,d2,d3,d4⟩:=h.row.thread rfl j hj
  obtain⟨lf,hlf⟩:∃lf,xs[j].p.s.left xs[j].p.t.bu=lf:=⟨_,rfl⟩
  rw[hlf]
  obtain⟨sb,hsb⟩:∃sb,xs[j].sb=sb:=⟨_,rfl⟩
  rw[hsb]at d4 hs
  obtain⟨n,hn⟩:∃n,xs.length=n:=⟨_,rfl⟩
  have hj0:(0:Int)<=j:=by omega
  have hj1:(j:Int)<n:=by omega
  have hjn:j<n:=by omega
  have hb:=h
  rw[hn]at c0 hcc
  clear d0 d1 d2 d3
  by_cases hp:0<wt
  ·have H_h:=h_ h;have H_hw:=h_ hw;have H_hwt:=h_ hwt;have H_hs:=h_ hs;have H_hlf:=h_ hlf;have H_hsb:=h_ hsb;have H_hn:=h_ hn;have H_hb:=h_ hb;clear h hw hwt hs hlf hsb hn hb
   go_enter Tryz.func99,Tryz.ntmps99
   go_wp2_with (first|(go_at_call 153;refine(bot_wait j H_h.out H_hw.out).mono ?_;rintro e w1 ⟨rfl,rfl⟩)|(go_at_call 154;refine(sa_left H_hs.out).mono ?_;rintro e w1 ⟨rfl,rfl⟩;rw[H_hlf.out]))
   go_ret
   exact⟨ret_bool (by simp[hp]),rfl⟩
  ·have H_h:=h_ h;have H_hw:=h_ hw;have H_hwt:=h_ hwt;have H_hs:=h_ hs;have H_hlf:=h_ hlf;have H_hsb:=h_ hsb;have H_hn:=h_ hn;have H_hb:=h_ hb;clear h hw hwt hs hlf hsb hn hb
   go_enter Tryz.func99,Tryz.ntmps99
   go_wp2_with (first|(go_at_call 153;refine(bot_wait j H_h.out H_hw.out).mono ?_;rintro e w1 ⟨rfl,rfl⟩)|(go_at_call 154;refine(sa_left H_hs.out).mono ?_;rintro e w1 ⟨rfl,rfl⟩;rw[H_hlf.out]))
   go_ret
   exact⟨ret_bool (by simp;omega),rfl⟩
end
end Go.Proofs.YtlkdkgefjipjmaaGreatDoor
namespace Vg
open Go
def Bo.mix(now:Int)(Bs:List Bp)(k:Nat):List Bp:=(Bs.take k).map (Bo.rf now)++Bs.drop k
theorem Bo.mix_len(now:Int)(Bs:List Bp)(k:Nat)(hk:k<=Bs.length):(Bo.mix now Bs k).length=Bs.length:=by
 unfold Bo.mix;simp;omega
theorem Bo.mix_get(now:Int)(Bs:List Bp)(k:Nat)(hk:k<Bs.length):(Bo.mix now Bs k)[k]? = some Bs[k]:=by
 unfold Bo.mix
 rw[List.getElem?_append_right (by simp;omega)]
 simp
 rw[show k-min k Bs.length=0 by omega]
 simp[List.getElem?_eq_getElem hk]
theorem Bo.mix_succ(now:Int)(Bs:List Bp)(k:Nat)(hk:k<Bs.length):(Bo.mix now Bs k).set k (Bo.rf now Bs[k])=Bo.mix now Bs (k+1):=by
 unfold Bo.mix
 rw[List.take_succ_eq_append_getElem hk,List.map_append,List.set_append_right _ _ (by simp;omega)]
 have e:k-((Bs.take k).map (Bo.rf now)).length=0:=by simp;omega
 rw[e,List.drop_eq_getElem_cons hk,List.set_cons_zero,List.append_assoc]
 rfl
theorem Bo.mix_all(now:Int)(Bs:List Bp):Bo.mix now Bs Bs.length=Bs.map (Bo.rf now):=by
 unfold Bo.mix
 simp
end Vg
namespace Go.Proofs.YtlkdkgefjipjmaaGreatDoor
open Go.ChangeShapes Go.WideShapes Go.ChangeAt Go.RowKit
section
variable {w w' w2 w3:World}{b wb n:Nat}{xs xs':List Vg.Bt}{rv wv:Value}{Q Q' Q1 Q2:List Vg.Wq}{O O':Nat->Prop}{x r:Int}{is:Bool}{Bs' Bs1 Bs2:List Vg.Bp}
theorem BTn.next(ho:∀k,bown b xs' rv wb O' k->bown b xs rv wb O k\/w.heap.size<=k)(ht:Vg.Touch (bown b xs rv wb O) w w2)(h2:BTn w2 w3 b xs' rv wb Q2 wv O' Bs2):BTn w w3 b xs rv wb Q2 wv O Bs2:=by
 obtain⟨ys,O2,hb,hm,ho2,ht2⟩:=h2
 refine⟨ys,O2,hb,hm,fun k hk=>?_,ht.next ht2 ho⟩
 rcases ho2 k hk with h1|h1
 ·exact ho k h1
 ·exact .inr (Nat.le_trans ht.size h1)
theorem BT.serv{i:Nat}{y:Vg.Bt}{s':Vg.Srv}{v':Value}(hi:i<xs.length)(hy:xs[i]=y)(h:BT w b xs rv wb Q wv O)(hs:SA w' y.sb (y.sb+1) y.p.t.bu y.p.t.pe s' v')
  (ht:Vg.Touch (fun k=>k=y.sb\/y.sv.ownBlock=some k) w w')(hv:∀k,v'.ownBlock=some k->y.sv.ownBlock=some k\/w.heap.size<=k):
  BT w' b (xs.set i ⟨⟨y.p.t,s'⟩,y.sb,v'⟩) rv wb Q wv O/\(∀k,bown b (xs.set i ⟨⟨y.p.t,s'⟩,y.sb,v'⟩) rv wb O k->bown b xs rv wb O k\/w.heap.size<=k)/\Vg.Touch (bown b xs rv wb O) w w':=by
 subst hy
 exact h.server hi hs ht hv
theorem sa_later{bb B:Nat}{bu pe:Int}{s:Vg.Srv}{v:Value}(t:Int)(h:SA w bb B bu pe s v){is:Bool}(his:(decide (s.last<=t)&&decide (t<=4503599627370496))=is):
  Calls Tryz.prog 116 #[.pointer (some ⟨bb,0,none⟩),.int .i64 t] w fun e w'=>e=.returned (.bool is)/\w=w':=by
 subst his
 obtain⟨sa,sc,rfl,h1,h2⟩:=h
 exact serv_later t h1
end
end Go.Proofs.YtlkdkgefjipjmaaGreatDoor
namespace Vg
open Go Go.RowKit
theorem Reads.len_le{S:Nat}{w:World}{sa:Option Addr}{n c:Nat}{xs:List Value}(h:Reads S w (.slice sa n c) n xs):n<=c:=by
 rcases h with⟨h0,h1,_⟩|⟨g,off,cap,h0,_,_,h3,_⟩
 ·omega
 ·simp only[Value.slice.injEq]at h0;omega
end Vg
