/- Shot, Hw, Clock, ShotA, Parts (put together). -/
import Derived.Test.YtlkdkgefjipjmaaGreatDoorP10
import Derived.Test.YtlkdkgefjipjmaaGreatDoorQ0
import Derived.RangeFuncNested
import Derived.RangeFuncBound
import Derived.RangeFuncCalls
import Derived.RangeFuncLeaves
import Derived.RangeFuncFrom
import Derived.Shelf.Abstract
import Derived.Shelf.RegionOpen
import Derived.OwnWalkIn
import Derived.TacticsInMore
import Derived.LoopNIn
import Derived.LoopIn
set_option linter.all false
set_option maxHeartbeats 40000000
set_option maxRecDepth 100000
namespace Vg
def tmB(mn mx:Int):Bool:=decide (1<=mn)&&decide (mx<2147483648)&&decide (2*mn<=mx)
theorem tmB_true{mn mx:Int}:tmB mn mx=true↔1<=mn/\mx<2147483648/\2*mn<=mx:=by simp[tmB,and_assoc]
def tmC(mn mx:Int):Int:=if tmB mn mx=true then 0 else 2
def aim(mn mx now dl:Int):Int×Int:=
 if dl-now<=0 then(1,now)else if dl-now<mn then(2,now+mn)else if dl-now<=mx then(3,dl)else(4,min (now+mx) (dl-mn))
def plan(mn mx now dl:Int):Int×Int×Int:=
 if tmB mn mx=true then(if timeB now=true/\timeB dl=true then(if timeB (aim mn mx now dl).2=true then((aim mn mx now dl).1,(aim mn mx now dl).2,0)else(0,0,6))else(0,0,1))else(0,0,2)
def looks(mn mx now dl:Int):Int×Int:=
 if(plan mn mx now dl).2.2≠0\/(plan mn mx now dl).1≠4 then(0,(plan mn mx now dl).2.2)else((if(dl-now)%mx=0 then(dl-now)/mx-1 else(dl-now)/mx),0)
theorem plan_ok{mn mx now dl:Int}(h1:tmB mn mx=true)(h2:timeB now=true)(h3:timeB dl=true):plan mn mx now dl=if timeB (aim mn mx now dl).2=true then((aim mn mx now dl).1,(aim mn mx now dl).2,0)else(0,0,6):=by
 unfold plan;rw[if_pos h1,if_pos ⟨h2,h3⟩]
end Vg
namespace Go.Proofs.YtlkdkgefjipjmaaGreatDoor
open Go.ChangeShapes Go.WideShapes Go.ChangeAt Go.RowKit
abbrev tmV(mn mx:Int):Value:=.agg #[.int .i64 mn,.int .i64 mx]
theorem shot_time (t : Int) (w : World) :
  Calls Tryz.prog 219 #[.int .i64 t] w fun e w' => e = .returned (.bool (Vg.timeB t)) /\ w = w' := by
 go_enter Tryz.func219, Tryz.ntmps219
 go_wp2
 all_goals go_ret
 all_goals exact ⟨ret_bool (by first | (simp [Vg.timeB, *]; done) | (simp [Vg.timeB]; omega)), rfl⟩
theorem shot_check(mn mx:Int)(w:World)(hm : -9223372036854775808<=mx):
  Calls Tryz.prog 41 #[tmV mn mx] w fun e w'=>e=.returned (.int .i64 (Vg.tmC mn mx))/\Vg.Grows w w':=by
 by_cases h:Vg.tmB mn mx=true
 ·have hb:=Vg.tmB_true.1 h
  have e:Vg.tmC mn mx=0:=if_pos h
  rw[e]
  clear e h
  go_enter Tryz.func41,Tryz.ntmps41
  go_wp2
  go_ret
  exact⟨rfl,Vg.gro⟩
 ·have hb:¬(1<=mn/\mx<2147483648/\2*mn<=mx):=fun hh=>h (Vg.tmB_true.2 hh)
  have e:Vg.tmC mn mx=2:=if_neg h
  rw[e]
  clear e h
  by_cases h1:mn<1
  ·clear hb
   go_enter Tryz.func41,Tryz.ntmps41
   go_wp2
   go_ret
   exact⟨rfl,Vg.gro⟩
  ·by_cases h2:2147483648<=mx
   ·clear hb
    go_enter Tryz.func41,Tryz.ntmps41
    go_wp2
    go_ret
    exact⟨rfl,Vg.gro⟩
   ·have h3:mx<2*mn:=by omega
    clear hb
    by_cases h4:0<=mx
    ·have h5:mx/2<mn:=by omega
     go_enter Tryz.func41,Tryz.ntmps41
     go_wp2
     go_ret
     exact⟨rfl,Vg.gro⟩
    ·have h5:mx.tdiv 2<=0:=by
      have:mx.tdiv 2=-((-mx)/2):=by rw[<-Int.tdiv_eq_ediv_of_nonneg (by omega),Int.neg_tdiv,Int.neg_neg]
      omega
     have h6:mx.tdiv 2<mn:=by omega
     go_enter Tryz.func41,Tryz.ntmps41
     go_wp2
     go_ret
     exact⟨rfl,Vg.gro⟩
theorem shot_aim(mn mx now dl:Int)(w:World)(h1:1<=mn/\mx<2147483648/\2*mn<=mx)(h2:0<=now/\now<=4503599627370496)(h3:0<=dl/\dl<=4503599627370496):
  Calls Tryz.prog 220 #[tmV mn mx,.int .i64 now,.int .i64 dl] w fun e w'=>e=.returned (.tuple #[.int .u8 (Vg.aim mn mx now dl).1,.int .i64 (Vg.aim mn mx now dl).2])/\Vg.Grows w w':=by
 by_cases a1:dl-now<=0
 ·have e:Vg.aim mn mx now dl=(1,now):=by unfold Vg.aim;rw[if_pos a1]
  rw[e]
  clear e
  go_enter Tryz.func220,Tryz.ntmps220
  go_wp2
  go_ret2
  exact⟨rfl,Vg.gro⟩
 ·by_cases a2:dl-now<mn
  ·have e:Vg.aim mn mx now dl=(2,now+mn):=by unfold Vg.aim;rw[if_neg a1,if_pos a2]
   rw[e]
   clear e
   go_enter Tryz.func220,Tryz.ntmps220
   go_wp2
   go_region
   all_goals go_wp2
   all_goals go_ret2
   all_goals exact⟨rfl,Vg.gro⟩
  ·by_cases a3:dl-now<=mx
   ·have e:Vg.aim mn mx now dl=(3,dl):=by unfold Vg.aim;rw[if_neg a1,if_neg a2,if_pos a3]
    rw[e]
    clear e
    go_enter Tryz.func220,Tryz.ntmps220
    go_wp2
    go_ret2
    exact⟨rfl,Vg.gro⟩
   ·by_cases a4:dl-mn<now+mx
    ·have e:Vg.aim mn mx now dl=(4,dl-mn):=by unfold Vg.aim;rw[if_neg a1,if_neg a2,if_neg a3,show min (now+mx) (dl-mn)=dl-mn by omega]
     rw[e]
     clear e
     go_enter Tryz.func220,Tryz.ntmps220
     go_wp2
     go_region
     all_goals go_wp2
     all_goals go_ret2
     all_goals exact⟨rfl,Vg.gro⟩
    ·have e:Vg.aim mn mx now dl=(4,now+mx):=by unfold Vg.aim;rw[if_neg a1,if_neg a2,if_neg a3,show min (now+mx) (dl-mn)=now+mx by omega]
     rw[e]
     clear e
     go_enter Tryz.func220,Tryz.ntmps220
     go_wp2
     go_region
     all_goals go_wp2
     all_goals go_ret2
     all_goals exact⟨rfl,Vg.gro⟩
theorem shot_plan(mn mx now dl:Int)(w:World)(hm : -9223372036854775808<=mx):
  Calls Tryz.prog 197 #[tmV mn mx,.int .i64 now,.int .i64 dl] w fun e w'=>e=.returned (.tuple #[.int .u8 (Vg.plan mn mx now dl).1,.int .i64 (Vg.plan mn mx now dl).2.1,.int .i64 (Vg.plan mn mx now dl).2.2])/\Vg.Grows w w':=by
 by_cases h1:Vg.tmB mn mx=true
 ·have hc:Vg.tmC mn mx=0:=if_pos h1
  have hb:=Vg.tmB_true.1 h1
  cases h2:Vg.timeB now with
  | true=>
   have hn:=Vg.timeB_true.1 h2
   cases h3:Vg.timeB dl with
   | true=>
    have hd:=Vg.timeB_true.1 h3
    obtain⟨⟨k,at_⟩,ha⟩:∃p,Vg.aim mn mx now dl=p:=⟨_,rfl⟩
    have e:=Vg.plan_ok h1 h2 h3
    rw[ha]at e
    rw[e]
    cases h4:Vg.timeB at_ with
    | true=>
     rw[if_pos rfl]
     have H_e:=h_ e;have H_h1:=h_ h1;have H_hc:=h_ hc;have H_ha:=h_ ha;clear e h1 hc ha
     go_enter Tryz.func197,Tryz.ntmps197
     go_wp2_with (first|(go_at_call 41;(with_reducible refine(shot_check mn mx _ hm).mono ?_);rintro e w1 ⟨rfl,xa,na,rfl⟩;rw[H_hc.out])|(go_at_call 219;refine(shot_time _ _).mono ?_;rintro e w' ⟨rfl,rfl⟩)|(go_at_call 220;(with_reducible refine(shot_aim mn mx now dl _ hb hn hd).mono ?_);rintro e w1 ⟨rfl,xb,nb,rfl⟩;rw[H_ha.out]))
     go_ret3
     exact⟨rfl,Vg.gro⟩
    | false=>
     rw[if_neg (by simp)]
     have H_e:=h_ e;have H_h1:=h_ h1;have H_hc:=h_ hc;have H_ha:=h_ ha;clear e h1 hc ha
     go_enter Tryz.func197,Tryz.ntmps197
     go_wp2_with (first|(go_at_call 41;(with_reducible refine(shot_check mn mx _ hm).mono ?_);rintro e w1 ⟨rfl,xa,na,rfl⟩;rw[H_hc.out])|(go_at_call 219;refine(shot_time _ _).mono ?_;rintro e w' ⟨rfl,rfl⟩)|(go_at_call 220;(with_reducible refine(shot_aim mn mx now dl _ hb hn hd).mono ?_);rintro e w1 ⟨rfl,xb,nb,rfl⟩;rw[H_ha.out]))
     go_ret3
     exact⟨rfl,Vg.gro⟩
   | false=>
    have e:Vg.plan mn mx now dl=(0,0,1):=by unfold Vg.plan;rw[if_pos h1,if_neg (by rw[h3];simp)]
    rw[e]
    have H_e:=h_ e;have H_h1:=h_ h1;have H_hc:=h_ hc;clear e h1 hc
    go_enter Tryz.func197,Tryz.ntmps197
    go_wp2_with (first|(go_at_call 41;(with_reducible refine(shot_check mn mx _ hm).mono ?_);rintro e w1 ⟨rfl,xa,na,rfl⟩;rw[H_hc.out])|(go_at_call 219;refine(shot_time _ _).mono ?_;rintro e w' ⟨rfl,rfl⟩))
    go_ret3
    exact⟨rfl,Vg.gro⟩
  | false=>
   have e:Vg.plan mn mx now dl=(0,0,1):=by unfold Vg.plan;rw[if_pos h1,if_neg (by rw[h2];simp)]
   rw[e]
   have H_e:=h_ e;have H_h1:=h_ h1;have H_hc:=h_ hc;clear e h1 hc
   go_enter Tryz.func197,Tryz.ntmps197
   go_wp2_with (first|(go_at_call 41;(with_reducible refine(shot_check mn mx _ hm).mono ?_);rintro e w1 ⟨rfl,xa,na,rfl⟩;rw[H_hc.out])|(go_at_call 219;refine(shot_time _ _).mono ?_;rintro e w' ⟨rfl,rfl⟩))
   go_ret3
   exact⟨rfl,Vg.gro⟩
 ·have hc:Vg.tmC mn mx=2:=if_neg h1
  have e:Vg.plan mn mx now dl=(0,0,2):=by unfold Vg.plan;rw[if_neg h1]
  rw[e]
  have H_e:=h_ e;have H_h1:=h_ h1;have H_hc:=h_ hc;clear e h1 hc
  go_enter Tryz.func197,Tryz.ntmps197
  go_wp2_with ((go_at_call 41;(with_reducible refine(shot_check mn mx _ hm).mono ?_);rintro e w1 ⟨rfl,xa,na,rfl⟩;rw[H_hc.out]))
  go_ret3
  exact⟨rfl,Vg.gro⟩
end Go.Proofs.YtlkdkgefjipjmaaGreatDoor
namespace Vg
structure Hw where
 count:Int
 compare:Int
 armed:Bool
 latch:Bool
def ahead(h:Hw):Int:=(h.compare-h.count-1)%4294967296
def hits(h:Hw)(n:Int):Bool:=h.armed&&decide (0<n)&&decide (ahead h<n)
def advance(h:Hw)(n:Int):Hw×Int:=
 if 2147483648<=n then(h,1)else
 if hits h n then(⟨(h.count+n)%4294967296,h.compare,false,true⟩,0)else(⟨(h.count+n)%4294967296,h.compare,h.armed,h.latch⟩,0)
def go(h:Hw)(t:Int):Hw:=⟨(h.count+t)%4294967296,h.compare,h.armed && !decide (ahead h<t),h.latch||(h.armed&&decide (ahead h<t))⟩
theorem go_def(h:Hw)(t:Int):go h t=⟨(h.count+t)%4294967296,h.compare,h.armed && !decide (ahead h<t),h.latch||(h.armed&&decide (ahead h<t))⟩:=rfl
theorem ahead_bd(h:Hw):0<=ahead h/\ahead h<=4294967295:=by unfold ahead;omega
theorem go_zero(h:Hw)(h0:0<=h.count)(h1:h.count<=4294967295):go h 0=h:=by
 have:=ahead_bd h
 unfold go
 have e:decide (ahead h<0)=false:=by simp;omega
 rw[e]
 have e2:(h.count+0)%4294967296=h.count:=by omega
 rw[e2]
 cases h;simp
theorem advance_ok(h:Hw)(m:Int)(h0:0<=m)(h1:m<2147483648):advance h m=(go h m,0):=by
 have ha:=ahead_bd h
 unfold advance go hits
 rw[if_neg (by omega)]
 cases hr:h.armed
 ·simp
 ·by_cases hm:ahead h<m
  ·have:0<m:=by omega
   simp[hm,this]
  ·simp[hm]
theorem ahead_go(h:Hw)(t:Int)(h2:t<=ahead h)(h0:0<=t):ahead (go h t)=ahead h-t:=by
 unfold ahead go at *
 simp only at *
 omega
theorem go_go(h:Hw)(t n:Int)(h0:0<=t)(h1:0<=n):go (go h t) n=go h (t+n):=by
 have ha:=ahead_bd h
 have hg:=ahead_go h t
 by_cases hh:ahead h<t
 ·have e1:decide (ahead h<t)=true:=by simp[hh]
  have e2:decide (ahead h<t+n)=true:=by simp;omega
  unfold go
  simp only[e1,e2]
  have e3:((h.count+t)%4294967296+n)%4294967296=(h.count+(t+n))%4294967296:=by omega
  rw[e3];cases h.armed<;>simp
 ·have hg':=hg (by omega) h0
  have e1:decide (ahead h<t)=false:=by simp;omega
  have e2:decide (ahead (go h t)<n)=decide (ahead h<t+n):=by rw[hg',decide_eq_decide];omega
  have e4:(go h t).armed=h.armed:=by unfold go;simp[e1]
  have e5:(go h t).latch=h.latch:=by unfold go;simp[e1]
  have e6:(go h t).compare=h.compare:=rfl
  have e7:(go h t).count=(h.count+t)%4294967296:=rfl
  rw[go_def (go h t) n,e2,e4,e5,e6,e7]
  unfold go
  have e3:((h.count+t)%4294967296+n)%4294967296=(h.count+(t+n))%4294967296:=by omega
  rw[e3]
theorem go_count_bd(h:Hw)(t:Int):0<=(go h t).count/\(go h t).count<=4294967295:=by unfold go;simp only[];omega
def left(h:Hw):Int:=if h.armed then ahead h+1 else 0
end Vg
namespace Go.Proofs.YtlkdkgefjipjmaaGreatDoor
open Go.ChangeShapes Go.WideShapes Go.ChangeAt Go.RowKit
theorem hw_ahead(c n:Int)(b:Nat)(w:World)
  (h0:w.cell? ⟨b,0,none⟩=some (.int .u32 c))(h1:w.cell? ⟨b,1,none⟩=some (.int .u32 n)):
  Calls Tryz.prog 90 #[.pointer (some ⟨b,0,none⟩)] w fun e w'=>e=.returned (.int .u32 ((n-c-1)%4294967296))/\∃k,w'=w.drewN k:=by
 go_enter Tryz.func90,Tryz.ntmps90
 go_wp2
 go_region
 go_wp2
 go_ret
 exact⟨ret_int (by show _%_=_;omega),1,rfl⟩
theorem hw_hits(c n:Int)(ar la:Bool)(m:Int)(b:Nat)(w:World)
  (h0:w.cell? ⟨b,0,none⟩=some (.int .u32 c))(h1:w.cell? ⟨b,1,none⟩=some (.int .u32 n))(h2:w.cell? ⟨b,2,none⟩=some (.bool ar)):
  Calls Tryz.prog 173 #[.pointer (some ⟨b,0,none⟩),.int .u32 m] w fun e w'=>e=.returned (.bool (Vg.hits ⟨c,n,ar,la⟩ m))/\∃k,w'=w.drewN k:=by
 cases ar with
 | false=>
  go_enter Tryz.func173,Tryz.ntmps173
  go_wp2
  go_ret
  exact⟨ret_bool (by simp[Vg.hits]),0,rfl⟩
 | true=>
  by_cases h:0<m
  all_goals
   go_enter Tryz.func173,Tryz.ntmps173
   go_wp2_with ((go_at_call 90;refine(hw_ahead c n b _ h0 h1).mono ?_;rintro e w' ⟨rfl,k,rfl⟩))
   go_ret
  ·exact⟨ret_bool (by simp only[Vg.hits,Vg.ahead,h,decide_true,Bool.true_and];rfl),_,rfl⟩
  ·exact⟨ret_bool (by simp[Vg.hits];omega),0,rfl⟩
theorem hw_advance(c n:Int)(ar la:Bool)(m:Int)(w:World):
  Calls Tryz.prog 108 #[.agg #[.int .u32 c,.int .u32 n,.bool ar,.bool la],.int .u32 m] w fun e w'=>
   e=.returned (.tuple #[.agg #[.int .u32 (Vg.advance ⟨c,n,ar,la⟩ m).1.count,.int .u32 (Vg.advance ⟨c,n,ar,la⟩ m).1.compare,.bool (Vg.advance ⟨c,n,ar,la⟩ m).1.armed,.bool (Vg.advance ⟨c,n,ar,la⟩ m).1.latch],.int .i64 (Vg.advance ⟨c,n,ar,la⟩ m).2])/\Vg.Grows w w':=by
 by_cases hm:2147483648<=m
 ·go_enter Tryz.func108,Tryz.ntmps108
  go_wp2
  go_returns
  have e:Vg.advance ⟨c,n,ar,la⟩ m=(⟨c,n,ar,la⟩,1):=by unfold Vg.advance;rw[if_pos hm]
  rw[e]
  exact⟨rfl,Vg.gro⟩
 ·cases hh:Vg.hits ⟨c,n,ar,la⟩ m
  all_goals
   go_enter Tryz.func108,Tryz.ntmps108
   go_wp2_with ((go_at_call 173;refine(hw_hits c n ar la m _ _ (by go_simp) (by go_simp) (by go_simp)).mono ?_;rintro e w' ⟨rfl,k,rfl⟩))
   go_returns
  ·have e:Vg.advance ⟨c,n,ar,la⟩ m=(⟨(c+m)%4294967296,n,ar,la⟩,0):=by unfold Vg.advance;rw[if_neg (by omega),hh];rfl
   rw[e]
   exact⟨rfl,Vg.gro⟩
  ·have e:Vg.advance ⟨c,n,ar,la⟩ m=(⟨(c+m)%4294967296,n,false,true⟩,0):=by unfold Vg.advance;rw[if_neg (by omega),hh];rfl
   rw[e]
   exact⟨rfl,Vg.gro⟩
theorem hw_left(c n:Int)(ar la:Bool)(w:World):
  Calls Tryz.prog 53 #[.agg #[.int .u32 c,.int .u32 n,.bool ar,.bool la]] w fun e w'=>
   e=.returned (.tuple #[.int .i64 (Vg.left ⟨c,n,ar,la⟩),.bool ar])/\Vg.Grows w w':=by
 cases ar with
 | false=>
  go_enter Tryz.func53,Tryz.ntmps53
  go_wp2
  go_ret2
  exact⟨rfl,Vg.gro⟩
 | true=>
  go_enter Tryz.func53,Tryz.ntmps53
  go_wp2_with ((go_at_call 90;refine(hw_ahead c n _ _ (by go_simp) (by go_simp)).mono ?_;rintro e w' ⟨rfl,k,rfl⟩))
  go_ret2
  exact⟨rfl,Vg.gro⟩
theorem hw_arm(c n:Int)(ar la:Bool)(m:Int)(w:World):
  Calls Tryz.prog 148 #[.agg #[.int .u32 c,.int .u32 n,.bool ar,.bool la],.int .u32 m] w fun e w'=>
   e=.returned (.agg #[.int .u32 c,.int .u32 m,.bool true,.bool la])/\Vg.Grows w w':=by
 go_enter Tryz.func148,Tryz.ntmps148
 go_wp2
 go_returns
 exact⟨rfl,Vg.gro⟩
theorem hw_disarm(c n:Int)(ar la:Bool)(w:World):
  Calls Tryz.prog 176 #[.agg #[.int .u32 c,.int .u32 n,.bool ar,.bool la]] w fun e w'=>
   e=.returned (.agg #[.int .u32 c,.int .u32 n,.bool false,.bool la])/\Vg.Grows w w':=by
 go_enter Tryz.func176,Tryz.ntmps176
 go_wp2
 go_returns
 exact⟨rfl,Vg.gro⟩
theorem hw_ack(c n:Int)(ar la:Bool)(w:World):
  Calls Tryz.prog 110 #[.agg #[.int .u32 c,.int .u32 n,.bool ar,.bool la]] w fun e w'=>
   e=.returned (.tuple #[.agg #[.int .u32 c,.int .u32 n,.bool ar,.bool false],.bool la])/\Vg.Grows w w':=by
 go_enter Tryz.func110,Tryz.ntmps110
 go_wp2
 go_returns
 exact⟨rfl,Vg.gro⟩
end Go.Proofs.YtlkdkgefjipjmaaGreatDoor
namespace Vg
def ckNow(c last:Int):Int×Int:=if(extend last c).2≠0\/2147483648<=(extend last c).1-last then(0,2)else((extend last c).1,0)
theorem extend_ok{last lo t:Int}(h:extend last lo=(t,0)):(0<=last/\last<=4503599627370496)/\0<=t/\t<=4503599627370496/\t=last+(lo-low last)%4294967296:=by
 unfold extend at h
 by_cases h1:timeB last=true
 ·rw[h1]at h
  simp only[Bool.not_true,Bool.false_eq_true,if_false]at h
  by_cases h2:timeB (last+(lo-low last)%4294967296)=true
  ·rw[h2]at h
   simp only[Bool.not_true,Bool.false_eq_true,if_false,Prod.mk.injEq,and_true]at h
   have a:=timeB_true.1 h1
   have b:=timeB_true.1 h2
   omega
  ·simp only[Bool.not_eq_true]at h2
   rw[h2]at h
   simp at h
 ·simp only[Bool.not_eq_true]at h1
  rw[h1]at h
  simp at h
theorem ckNow_ok{c last t:Int}(h:ckNow c last=(t,0)):(0<=last/\last<=4503599627370496)/\0<=t/\t<=4503599627370496/\t=last+(c-low last)%4294967296/\t-last<2147483648:=by
 unfold ckNow at h
 split at h
 ·simp at h
 ·rename_i h1
  obtain⟨⟨t',no⟩,hx⟩:∃p,extend last c=p:=⟨_,rfl⟩
  rw[hx]at h h1
  simp only[Prod.mk.injEq]at h
  obtain⟨rfl,_⟩:=h
  have hno:no=0:=Decidable.byContradiction fun hh=>h1 (.inl hh)
  subst hno
  obtain⟨a,b,c,d⟩:=extend_ok hx
  refine⟨a,b,c,d,?_⟩
  have:¬2147483648<=t'-last:=fun hh=>h1 (.inr hh)
  omega
theorem ckNow_no{c last:Int}(h:(ckNow c last).2≠0):ckNow c last=(0,2):=by
 unfold ckNow at h ⊢
 split
 ·rfl
 ·rename_i h1;rw[if_neg h1]at h;exact absurd rfl h
end Vg
namespace Go.Proofs.YtlkdkgefjipjmaaGreatDoor
open Go.ChangeShapes Go.WideShapes Go.ChangeAt Go.RowKit
abbrev ckV(c n:Int)(ar la:Bool)(last:Int):Value:=.agg #[.int .u32 c,.int .u32 n,.bool ar,.bool la,.int .i64 last]
theorem clock_now(c n:Int)(ar la:Bool)(last:Int)(w:World)(hc:0<=c/\c<=4294967295):
  Calls Tryz.prog 106 #[ckV c n ar la last] w fun e w'=>e=.returned (.tuple #[.int .i64 (Vg.ckNow c last).1,.int .i64 (Vg.ckNow c last).2])/\Vg.Grows w w':=by
 obtain⟨⟨t,no⟩,hx⟩:∃p,Vg.extend last c=p:=⟨_,rfl⟩
 by_cases h0:no=0
 ·subst h0
  have hl:=(Vg.extend_ok hx).1
  have ht:0<=t/\t<=4503599627370496:=⟨(Vg.extend_ok hx).2.1,(Vg.extend_ok hx).2.2.1⟩
  by_cases h1:2147483648<=t-last
  ·have e:Vg.ckNow c last=(0,2):=by unfold Vg.ckNow;rw[hx,if_pos (.inr h1)]
   rw[e]
   have H_e:=h_ e;have H_hx:=h_ hx;clear e hx
   go_enter Tryz.func106,Tryz.ntmps106
   go_wp2_with ((go_at_call 171;refine(extend_any last c _).mono ?_;rintro e w1 ⟨rfl,rfl⟩;rw[H_hx.out]))
   go_ret2
   exact⟨rfl,Vg.gro⟩
  ·have e:Vg.ckNow c last=(t,0):=by unfold Vg.ckNow;rw[hx,if_neg (by simp;omega)]
   rw[e]
   have H_e:=h_ e;have H_hx:=h_ hx;clear e hx
   go_enter Tryz.func106,Tryz.ntmps106
   go_wp2_with ((go_at_call 171;refine(extend_any last c _).mono ?_;rintro e w1 ⟨rfl,rfl⟩;rw[H_hx.out]))
   go_ret2
   exact⟨rfl,Vg.gro⟩
 ·have e:Vg.ckNow c last=(0,2):=by unfold Vg.ckNow;rw[hx,if_pos (.inl h0)]
  have h0b:(no==0)=false:=by simp[h0]
  rw[e]
  have H_e:=h_ e;have H_hx:=h_ hx;have H_h0:=h_ h0;clear e hx h0
  go_enter Tryz.func106,Tryz.ntmps106
  go_wp2_with ((go_at_call 171;refine(extend_any last c _).mono ?_;rintro e w1 ⟨rfl,rfl⟩;rw[H_hx.out]))
  go_ret2
  exact⟨rfl,Vg.gro⟩
theorem clock_make(st:Int)(w:World):
  Calls Tryz.prog 43 #[.int .i64 st] w fun e w'=>e=.returned (if Vg.timeB st=true then .tuple #[ckV (Vg.low st) 0 false false st,.int .i64 0]else .tuple #[ckV 0 0 false false 0,.int .i64 1])/\Vg.Grows w w':=by
 cases h:Vg.timeB st with
 | true=>
  rw[if_pos rfl]
  have hb:=Vg.timeB_true.1 h
  go_enter Tryz.func43,Tryz.ntmps43
  go_wp2_with ((go_at_call 17;refine(low_any _ _).mono ?_;rintro e w' ⟨rfl,rfl⟩))
  go_returns
  exact⟨rfl,Vg.gro⟩
 | false=>
  rw[if_neg (by simp)]
  have hb:=Vg.timeB_false.1 h
  by_cases h1:st<0
  ·clear hb
   go_enter Tryz.func43,Tryz.ntmps43
   go_wp2_with ((go_at_call 17;refine(low_any _ _).mono ?_;rintro e w' ⟨rfl,rfl⟩))
   go_returns
   exact⟨rfl,Vg.gro⟩
  ·have h2:4503599627370496<st:=by omega
   clear hb
   go_enter Tryz.func43,Tryz.ntmps43
   go_wp2_with ((go_at_call 17;refine(low_any _ _).mono ?_;rintro e w' ⟨rfl,rfl⟩))
   go_returns
   exact⟨rfl,Vg.gro⟩
theorem clock_read(c n:Int)(ar la:Bool)(last:Int)(w:World)(hc:0<=c/\c<=4294967295):
  Calls Tryz.prog 109 #[ckV c n ar la last] w fun e w'=>e=.returned (if(Vg.ckNow c last).2=0 then .tuple #[ckV c n ar la (Vg.ckNow c last).1,.int .i64 (Vg.ckNow c last).1,.int .i64 0]else .tuple #[ckV 0 0 false false 0,.int .i64 0,.int .i64 2])/\Vg.Grows w w':=by
 by_cases h:(Vg.ckNow c last).2=0
 ·obtain⟨⟨t,no⟩,hx⟩:∃p,Vg.ckNow c last=p:=⟨_,rfl⟩
  rw[hx]at h ⊢
  have h:no=0:=h
  subst h
  rw[if_pos rfl]
  have H_hx:=h_ hx;clear hx
  go_enter Tryz.func109,Tryz.ntmps109
  go_wp2_with ((go_at_call 106;refine(clock_now c n ar la last _ hc).mono ?_;rintro e w1 ⟨rfl,xa,na,rfl⟩;rw[H_hx.out]))
  go_returns
  exact⟨rfl,Vg.gro⟩
 ·have hx:=Vg.ckNow_no h
  rw[if_neg h]
  have H_hx:=h_ hx;have H_h:=h_ h;clear hx h
  go_enter Tryz.func109,Tryz.ntmps109
  go_wp2_with ((go_at_call 106;refine(clock_now c n ar la last _ hc).mono ?_;rintro e w1 ⟨rfl,xa,na,rfl⟩;rw[H_hx.out]))
  go_returns
  exact⟨rfl,Vg.gro⟩
end Go.Proofs.YtlkdkgefjipjmaaGreatDoor
namespace Go.Proofs.YtlkdkgefjipjmaaGreatDoor
open Go.ChangeShapes Go.WideShapes Go.ChangeAt Go.RowKit
def armV(c n:Int)(ar la:Bool)(last mn mx dl:Int):Value:=
 if(Vg.ckNow c last).2=0 then
  (if(Vg.plan mn mx (Vg.ckNow c last).1 dl).2.2=0 then
   (if(Vg.plan mn mx (Vg.ckNow c last).1 dl).1=1 then .tuple #[ckV c n false la (Vg.ckNow c last).1,.int .u8 1,.int .i64 0]
   else .tuple #[ckV c (Vg.low (Vg.plan mn mx (Vg.ckNow c last).1 dl).2.1) true la (Vg.ckNow c last).1,.int .u8 (Vg.plan mn mx (Vg.ckNow c last).1 dl).1,.int .i64 0])
  else .tuple #[ckV 0 0 false false 0,.int .u8 0,.int .i64 (Vg.plan mn mx (Vg.ckNow c last).1 dl).2.2])
 else .tuple #[ckV 0 0 false false 0,.int .u8 0,.int .i64 2]
theorem shot_arm (c n:Int) (ar la:Bool) (last mn mx dl:Int) (w:World) (hc:0<=c/\c<=4294967295) (hm : -9223372036854775808<=mx) :
  Calls Tryz.prog 147 #[ckV c n ar la last,tmV mn mx,.int .i64 dl] w fun e w'=>e=.returned (armV c n ar la last mn mx dl)/\Vg.Grows w w':=by
 obtain⟨⟨t,no⟩,hx⟩:∃p,Vg.ckNow c last=p:=⟨_,rfl⟩
 by_cases h:no=0
 ·subst h
  obtain⟨⟨k,at_,np⟩,hp⟩:∃p,Vg.plan mn mx t dl=p:=⟨_,rfl⟩
  by_cases h1:np=0
  ·subst h1
   have hk:Vg.tmC mn mx=0:=by
    unfold Vg.tmC;unfold Vg.plan at hp
    by_cases q:Vg.tmB mn mx=true
    ·rw[if_pos q]
    ·rw[if_neg q]at hp;simp at hp
   by_cases h2:k=1
   ·subst h2
    have e:armV c n ar la last mn mx dl=.tuple #[ckV c n false la t,.int .u8 1,.int .i64 0]:=by unfold armV;rw[hx];simp[hp]
    rw[e]
    have H_e:=h_ e;have H_hx:=h_ hx;have H_hp:=h_ hp;have H_hk:=h_ hk;clear e hx hp hk
    go_enter Tryz.func147,Tryz.ntmps147
    go_wp2_with (first|(go_at_call 109;(with_reducible refine(clock_read c n ar la last _ hc).mono ?_);rintro e w1 ⟨rfl,xa,na,rfl⟩;rw[H_hx.out];(try simp only[if_true]))|(go_at_call 197;(with_reducible refine(shot_plan mn mx t dl _ hm).mono ?_);rintro e w1 ⟨rfl,xb,nb,rfl⟩;rw[H_hp.out])|(go_at_call 176;(with_reducible refine(hw_disarm _ _ _ _ _).mono ?_);rintro e w1 ⟨rfl,xd,nd,rfl⟩))
    go_returns
    exact⟨rfl,Vg.gro⟩
   ·have e:armV c n ar la last mn mx dl=.tuple #[ckV c (Vg.low at_) true la t,.int .u8 k,.int .i64 0]:=by unfold armV;rw[hx];simp[hp,h2]
    have h2b:(k==1)=false:=by simp[h2]
    rw[e]
    have H_e:=h_ e;have H_hx:=h_ hx;have H_hp:=h_ hp;have H_h2:=h_ h2;have H_hk:=h_ hk;clear e hx hp h2 hk
    go_enter Tryz.func147,Tryz.ntmps147
    go_wp2_with (first|(go_at_call 109;(with_reducible refine(clock_read c n ar la last _ hc).mono ?_);rintro e w1 ⟨rfl,xa,na,rfl⟩;rw[H_hx.out];(try simp only[if_true]))|(go_at_call 197;(with_reducible refine(shot_plan mn mx t dl _ hm).mono ?_);rintro e w1 ⟨rfl,xb,nb,rfl⟩;rw[H_hp.out])|(go_at_call 176;(with_reducible refine(hw_disarm _ _ _ _ _).mono ?_);rintro e w1 ⟨rfl,xd,nd,rfl⟩))
    go_region_with (first|(go_at_call 17;refine(low_any _ _).mono ?_;rintro e w' ⟨rfl,rfl⟩)|(go_at_call 148;(with_reducible refine(hw_arm _ _ _ _ _ _).mono ?_);rintro e w1 ⟨rfl,xe,ne,rfl⟩))
    all_goals go_wp2
    all_goals go_returns
    all_goals exact⟨rfl,Vg.gro⟩
  ·have e:armV c n ar la last mn mx dl=.tuple #[ckV 0 0 false false 0,.int .u8 0,.int .i64 np]:=by unfold armV;rw[hx];simp[hp,h1]
   have h1b:(np==0)=false:=by simp[h1]
   rw[e]
   have H_e:=h_ e;have H_hx:=h_ hx;have H_h1:=h_ h1;clear e hx h1
   have H_hp:=h_ hp;clear hp
   go_enter Tryz.func147,Tryz.ntmps147
   go_wp2_with (first|(go_at_call 109;(with_reducible refine(clock_read c n ar la last _ hc).mono ?_);rintro e w1 ⟨rfl,xa,na,rfl⟩;rw[H_hx.out];(try simp only[if_true]))|(go_at_call 197;(with_reducible refine(shot_plan mn mx t dl _ hm).mono ?_);rintro e w1 ⟨rfl,xb,nb,rfl⟩;rw[H_hp.out])|(go_at_call 176;(with_reducible refine(hw_disarm _ _ _ _ _).mono ?_);rintro e w1 ⟨rfl,xd,nd,rfl⟩))
   go_returns
   exact⟨rfl,Vg.gro⟩
 ·have h2:no=2:=by
   have:=Vg.ckNow_no (c:=c) (last:=last) (by rw[hx];exact h)
   rw[hx]at this
   exact(Prod.mk.inj this).2
  subst h2
  have e:armV c n ar la last mn mx dl=.tuple #[ckV 0 0 false false 0,.int .u8 0,.int .i64 2]:=by unfold armV;rw[hx];simp
  have hr:(if(2:Int)=0 then Value.tuple #[ckV c n ar la t,.int .i64 t,.int .i64 0]else .tuple #[ckV 0 0 false false 0,.int .i64 0,.int .i64 2])=.tuple #[ckV 0 0 false false 0,.int .i64 0,.int .i64 2]:=if_neg (by omega)
  rw[e]
  have H_e:=h_ e;have H_hx:=h_ hx;have H_h:=h_ h;have H_hr:=h_ hr;clear e hx h hr
  go_enter Tryz.func147,Tryz.ntmps147
  go_wp2_with ((go_at_call 109;(with_reducible refine(clock_read c n ar la last _ hc).mono ?_);rintro e w1 ⟨rfl,xa,na,rfl⟩;rw[H_hx.out];simp only[];rw[H_hr.out]))
  go_returns
  exact⟨rfl,Vg.gro⟩
end Go.Proofs.YtlkdkgefjipjmaaGreatDoor
namespace Vg
abbrev Part:={ x:Int // 0<x/\x<=1073741824 }
def psum:List Part->Int
 | []=>0
 | x::l=>x.1+psum l
theorem psum_append:∀l m:List Part,psum (l++m)=psum l+psum m
 | [],m=>by simp[psum]
 | x::l,m=>by simp only[List.cons_append,psum,psum_append l m];omega
theorem psum_len:∀l:List Part,(l.length:Int)<=psum l
 | []=>by simp[psum]
 | x::l=>by have:=psum_len l;have:=x.2.1;simp only[psum,List.length_cons,Int.natCast_add];omega
end Vg
namespace Go.Proofs.YtlkdkgefjipjmaaGreatDoor
open Go.ChangeShapes Go.WideShapes Go.ChangeAt Go.RowKit Go.Shelf
attribute [local go_sem] Oper.semAt_some
theorem clock_parts(n:Int)(w:World):
  Calls Tryz.prog 107 #[.int .i64 n] w fun e w'=>e=.returned (.func (.func 172) #[] #[.pointer (some ⟨w.heap.size,0,none⟩)])/\w'=w.alloc (.cells #[.int .i64 n] 2):=by
 go_enter Tryz.func107,Tryz.ntmps107
 go_wp2
 go_ret
 exact⟨rfl,rfl⟩
theorem parts_stops (n₀ k:Nat) (hk:1<=k) (Bn:Nat) (nn:Int) (h0:0<=nn) (h1:nn<=4503599627370496) (w:World) (hlt:Bn<w.heap.size) (hc:w.cell? ⟨Bn,0,none⟩=some (.int .i64 nn)) :
  SeqStopsK Fence.wide k Tryz.prog 172 #[.pointer (some ⟨Bn,0,none⟩)] (fun x:Vg.Part=>#[.int .u32 x.1]) (Below n₀) (fun xs=>Vg.psum xs=nn) (fun _=>True) (nn.toNat+1) w:=fun l J Jx W hW hJ hJx hY hJ0=>by
 refine callsIn_of_wp Tryz.func172 rfl trivial ?_ rfl
 simp only[Tryz.ntmps172,List.size_toArray,List.length_cons,List.length_nil,Nat.reduceAdd,Nat.reduceSub,Array.replicate_succ,Array.replicate_zero,List.push_toArray,List.append_toArray,List.nil_append,List.cons_append]
 have hcW:W.cell? ⟨Bn,0,none⟩=some (.int .i64 nn):=(hW.cell (p:=⟨Bn,0,none⟩) hlt).trans hc
 gi_wp2
 gi_loopw [3] (fun v wr=>∃(pre:List Vg.Part) (rem:Int),v=.int .i64 rem/\0<=rem/\Vg.psum pre+rem=nn/\J pre wr) (fun v _=>(intOf v).toNat)
 case atStart=>exact⟨[],nn,rfl,h0,by simp[Vg.psum],hJ0⟩
 case round=>
  obtain⟨pre,rem,rfl,g0,hs,hJp⟩:=hrel
  have hpl:=Vg.psum_len pre
  by_cases hz:0<rem
  ·by_cases hbig:1073741824<rem
   ·obtain⟨fn,tmps,assign,body,hy,hR⟩:=hY pre ⟨1073741824,by omega,by omega⟩ wr hJp (by omega)
    dsimp only at hy
    gi_wp2
    refine hR.mono ?_
    rintro e W3 (⟨rfl,hJ3,hk3⟩|⟨rfl,hJx3⟩)
    ·gi_wp2
     go_roundw
     case rel=>exact⟨_,rem-1073741824,rfl,by omega,by rw[Vg.psum_append];simp[Vg.psum];omega,hJ3⟩
     case measure=>simp[intOf];omega
    ·gi_wp2
     refine bodyPost_ret (results_none rfl _ _ _) rfl ?_
     exact⟨⟨_,rfl⟩,.inr ⟨_,trivial,hJx3⟩⟩
   ·obtain⟨fn,tmps,assign,body,hy,hR⟩:=hY pre ⟨rem,by omega,by omega⟩ wr hJp (by omega)
    dsimp only at hy
    gi_wp2
    refine hR.mono ?_
    rintro e W3 (⟨rfl,hJ3,hk3⟩|⟨rfl,hJx3⟩)
    ·gi_wp2
     go_roundw
     case rel=>exact⟨_,0,rfl,by omega,by rw[Vg.psum_append];simp[Vg.psum];omega,hJ3⟩
     case measure=>simp[intOf];omega
    ·gi_wp2
     refine bodyPost_ret (results_none rfl _ _ _) rfl ?_
     exact⟨⟨_,rfl⟩,.inr ⟨_,trivial,hJx3⟩⟩
  ·gi_wp2
   go_end0
   exact⟨⟨_,rfl⟩,.inl ⟨pre,by omega,hJp⟩⟩
end Go.Proofs.YtlkdkgefjipjmaaGreatDoor
