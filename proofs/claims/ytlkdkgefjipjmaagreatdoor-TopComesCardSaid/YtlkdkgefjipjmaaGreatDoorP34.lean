/- Vet, VetB, VetI (put together). -/
import Derived.Test.YtlkdkgefjipjmaaGreatDoorP19
import Derived.Test.YtlkdkgefjipjmaaGreatDoorP23
import Derived.Test.YtlkdkgefjipjmaaGreatDoorP27
import Derived.Test.YtlkdkgefjipjmaaGreatDoorP11
import Derived.Test.YtlkdkgefjipjmaaGreatDoorP31
import Derived.Test.YtlkdkgefjipjmaaGreatDoorP10
import Derived.Maps.OwnIn
import Derived.OwnWalkIn
import Derived.Test.YtlkdkgefjipjmaaGreatDoorQ0
set_option linter.all false
set_option maxHeartbeats 40000000
set_option maxRecDepth 100000
namespace Vg
open Go
structure Cf where
 mn:Int
 mx:Int
 sw:Int
 T:List Tk
 L:List Lin
 H:List Th
def Vt.task(t:Tk)(ch:Int):Int:=
 if t.kd≠1/\t.kd≠2 then 2 else
 if ¬(0<=t.pr/\t.pr<=63) \/ ¬(1<=t.ro/\t.ro<=16)\/16<=t.lk then 1 else
 if ¬(1<=t.pe/\t.pe<=1099511627776) \/ ¬(0<=t.og/\t.og<=1099511627776) \/ ¬(1<=t.dl/\t.dl<=1099511627776)then 1 else
 if t.kd=2/\0<t.og then 1 else
 if t.pe<t.dl then 11 else
 if ¬(1<=t.co/\t.co<=t.dl)\/t.dl-t.co<ch then 14 else
 if 0<=t.lk/\(t.fr<0\/t.tt<=t.fr\/t.co<t.tt)then 14 else 0
def Vt.line(x:Lin):Int:=if goodL [x]=true then(if 1099511627776<x.many*x.top then 10 else 0)else 1
def Vt.thread(t:Th):Int:=if goodT [t]=true then 0 else 1
def Vt.many(C:Cf):Int:=if ¬(1<=C.T.length/\C.T.length<=32)\/64<C.L.length\/C.H.length≠C.L.length then 1 else 0
def Vt.change(sw:Int):Int:=if 0<=sw/\sw<=1099511627776 then 0 else 1
end Vg
namespace Go.Proofs.YtlkdkgefjipjmaaGreatDoor
open Go.ChangeShapes Go.WideShapes Go.ChangeAt Go.RowKit
theorem vet_within(n l h:Int){b:Bool}(hb:(decide (l<=n)&&decide (n<=h))=b)(w:World):Calls Tryz.prog 193 #[.int .i64 n,.int .i64 l,.int .i64 h] w fun e w'=>e=.returned (.bool b)/\w=w':=by
 subst hb
 by_cases h1:l<=n
 ·go_enter Tryz.func193,Tryz.ntmps193
  go_wp2
  go_ret
  exact⟨by simp[h1],rfl⟩
 ·go_enter Tryz.func193,Tryz.ntmps193
  go_wp2
  go_ret
  exact⟨by(simp;omega),rfl⟩
theorem vet_in(n l h:Int)(h1:l<=n)(h2:n<=h)(w:World):Calls Tryz.prog 193 #[.int .i64 n,.int .i64 l,.int .i64 h] w fun e w'=>e=.returned (.bool true)/\w=w':=vet_within n l h (by simp[h1,h2]) w
theorem vet_out(n l h:Int)(h1:¬(l<=n/\n<=h))(w:World):Calls Tryz.prog 193 #[.int .i64 n,.int .i64 l,.int .i64 h] w fun e w'=>e=.returned (.bool false)/\w=w':=vet_within n l h (by by_cases h2:l<=n<;>by_cases h3:n<=h<;>simp[h2,h3]<;>omega) w
theorem vet_found(p a y:Int)(w:World):Calls Tryz.prog 130 #[.int .u8 p,.int .i64 a,.int .i64 y] w fun e w'=>e=.returned (.agg #[.int .u8 p,.int .i64 a,.int .i64 y])/\Vg.Grows w w':=by
 go_enter Tryz.func130,Tryz.ntmps130
 go_wp2
 go_returns
 exact⟨rfl,Vg.gro⟩
abbrev liV(x:Vg.Lin):Value:=.agg #[.int .i64 x.pr,.int .i64 x.top,.int .i64 x.many,.int .i64 x.wd]
abbrev htV(x:Vg.Th):Value:=.agg #[.int .i64 x.pr,.int .i64 x.bu,.int .i64 x.pe,.int .i64 x.dp]
theorem vet_task(t:Vg.Tk)(ch:Int){r:Int}(hr:Vg.Vt.task t ch=r)(w:World):Calls Tryz.prog 133 #[tkV t,.int .i64 ch] w fun e w'=>e=.returned (.int .i64 r)/\Vg.Grows w w':=by
 obtain⟨kd,pr,pe,og,dl,co,ro,lk,fr,tt⟩:=t
 unfold Vg.Vt.task at hr
 simp only at hr
 have fin:∀{x:Int}{w':World},x=r->Vg.Grows w w'->(Ending.returned (.int .i64 x)=.returned (.int .i64 r)/\Vg.Grows w w'):=fun h1 h2=>⟨by rw[h1],h2⟩
 by_cases a1:kd≠1/\kd≠2
 ·have b1:(kd==1)=false:=by simpa using a1.1
  have b2:(kd==2)=false:=by simpa using a1.2
  have d1:(kd != 1)=true:=by simp[bne,b1]
  have d2:(kd != 2)=true:=by simp[bne,b2]
  have e:2=r:=by rw[<-hr];(repeat' split)<;>first|rfl|omega
  have H_hr:=h_ hr;have H_e:=h_ e;clear hr e
  go_enter Tryz.func133,Tryz.ntmps133
  go_wp2_with (first|(go_at_call 193;(with_reducible refine(vet_in _ _ _ (by omega) (by omega) _).mono ?_);rintro e1 w1 ⟨rfl,rfl⟩)|(go_at_call 193;(with_reducible refine(vet_out _ _ _ (by omega) _).mono ?_);rintro e1 w1 ⟨rfl,rfl⟩))
  go_ret
  exact fin H_e.out (Vg.gro)
 have hk:kd=1\/kd=2:=by omega
 clear a1
 rcases hk with rfl|rfl
 ·skip
  by_cases c1:¬(0<=pr/\pr<=63)
  ·have e:1=r:=by rw[<-hr];(repeat' split)<;>first|rfl|omega
   have H_hr:=h_ hr;have H_e:=h_ e;clear hr e
   go_enter Tryz.func133,Tryz.ntmps133
   go_wp2_with (first|(go_at_call 193;(with_reducible refine(vet_in _ _ _ (by omega) (by omega) _).mono ?_);rintro e1 w1 ⟨rfl,rfl⟩)|(go_at_call 193;(with_reducible refine(vet_out _ _ _ (by omega) _).mono ?_);rintro e1 w1 ⟨rfl,rfl⟩))
   go_ret
   exact fin H_e.out (Vg.gro)
  by_cases c2:¬(1<=ro/\ro<=16)
  ·have e:1=r:=by rw[<-hr];(repeat' split)<;>first|rfl|omega
   have H_hr:=h_ hr;have H_e:=h_ e;clear hr e
   go_enter Tryz.func133,Tryz.ntmps133
   go_wp2_with (first|(go_at_call 193;(with_reducible refine(vet_in _ _ _ (by omega) (by omega) _).mono ?_);rintro e1 w1 ⟨rfl,rfl⟩)|(go_at_call 193;(with_reducible refine(vet_out _ _ _ (by omega) _).mono ?_);rintro e1 w1 ⟨rfl,rfl⟩))
   go_ret
   exact fin H_e.out (Vg.gro)
  by_cases c3:16<=lk
  ·have e:1=r:=by rw[<-hr];(repeat' split)<;>first|rfl|omega
   have H_hr:=h_ hr;have H_e:=h_ e;clear hr e
   go_enter Tryz.func133,Tryz.ntmps133
   go_wp2_with (first|(go_at_call 193;(with_reducible refine(vet_in _ _ _ (by omega) (by omega) _).mono ?_);rintro e1 w1 ⟨rfl,rfl⟩)|(go_at_call 193;(with_reducible refine(vet_out _ _ _ (by omega) _).mono ?_);rintro e1 w1 ⟨rfl,rfl⟩))
   go_ret
   exact fin H_e.out (Vg.gro)
  by_cases c4:¬(1<=pe/\pe<=1099511627776)
  ·have e:1=r:=by rw[<-hr];(repeat' split)<;>first|rfl|omega
   have H_hr:=h_ hr;have H_e:=h_ e;clear hr e
   go_enter Tryz.func133,Tryz.ntmps133
   go_wp2_with (first|(go_at_call 193;(with_reducible refine(vet_in _ _ _ (by omega) (by omega) _).mono ?_);rintro e1 w1 ⟨rfl,rfl⟩)|(go_at_call 193;(with_reducible refine(vet_out _ _ _ (by omega) _).mono ?_);rintro e1 w1 ⟨rfl,rfl⟩))
   go_ret
   exact fin H_e.out (Vg.gro)
  by_cases c5:¬(0<=og/\og<=1099511627776)
  ·have e:1=r:=by rw[<-hr];(repeat' split)<;>first|rfl|omega
   have H_hr:=h_ hr;have H_e:=h_ e;clear hr e
   go_enter Tryz.func133,Tryz.ntmps133
   go_wp2_with (first|(go_at_call 193;(with_reducible refine(vet_in _ _ _ (by omega) (by omega) _).mono ?_);rintro e1 w1 ⟨rfl,rfl⟩)|(go_at_call 193;(with_reducible refine(vet_out _ _ _ (by omega) _).mono ?_);rintro e1 w1 ⟨rfl,rfl⟩))
   go_ret
   exact fin H_e.out (Vg.gro)
  by_cases c6:¬(1<=dl/\dl<=1099511627776)
  ·have e:1=r:=by rw[<-hr];(repeat' split)<;>first|rfl|omega
   have H_hr:=h_ hr;have H_e:=h_ e;clear hr e
   go_enter Tryz.func133,Tryz.ntmps133
   go_wp2_with (first|(go_at_call 193;(with_reducible refine(vet_in _ _ _ (by omega) (by omega) _).mono ?_);rintro e1 w1 ⟨rfl,rfl⟩)|(go_at_call 193;(with_reducible refine(vet_out _ _ _ (by omega) _).mono ?_);rintro e1 w1 ⟨rfl,rfl⟩))
   go_ret
   exact fin H_e.out (Vg.gro)
  by_cases c8:pe<dl
  ·have e:11=r:=by rw[<-hr];(repeat' split)<;>first|rfl|omega
   have H_hr:=h_ hr;have H_e:=h_ e;clear hr e
   go_enter Tryz.func133,Tryz.ntmps133
   go_wp2_with (first|(go_at_call 193;(with_reducible refine(vet_in _ _ _ (by omega) (by omega) _).mono ?_);rintro e1 w1 ⟨rfl,rfl⟩)|(go_at_call 193;(with_reducible refine(vet_out _ _ _ (by omega) _).mono ?_);rintro e1 w1 ⟨rfl,rfl⟩))
   go_ret
   exact fin H_e.out (Vg.gro)
  by_cases c9:¬(1<=co/\co<=dl)
  ·have e:14=r:=by rw[<-hr];(repeat' split)<;>first|rfl|omega
   have H_hr:=h_ hr;have H_e:=h_ e;clear hr e
   go_enter Tryz.func133,Tryz.ntmps133
   go_wp2_with (first|(go_at_call 193;(with_reducible refine(vet_in _ _ _ (by omega) (by omega) _).mono ?_);rintro e1 w1 ⟨rfl,rfl⟩)|(go_at_call 193;(with_reducible refine(vet_out _ _ _ (by omega) _).mono ?_);rintro e1 w1 ⟨rfl,rfl⟩))
   go_ret
   exact fin H_e.out (Vg.gro)
  have hwr:IntKind.i64.wrap (dl-co)=dl-co:=by rw[IntKind.wrap_i64];omega
  by_cases c10:dl-co<ch
  ·have e:14=r:=by rw[<-hr];(repeat' split)<;>first|rfl|omega
   have H_hr:=h_ hr;have H_e:=h_ e;clear hr e
   go_enter Tryz.func133,Tryz.ntmps133
   go_wp2_with (first|(go_at_call 193;(with_reducible refine(vet_in _ _ _ (by omega) (by omega) _).mono ?_);rintro e1 w1 ⟨rfl,rfl⟩)|(go_at_call 193;(with_reducible refine(vet_out _ _ _ (by omega) _).mono ?_);rintro e1 w1 ⟨rfl,rfl⟩))
   go_ret
   exact fin H_e.out (Vg.gro)
  by_cases c11:0<=lk
  ·skip
   by_cases c12:fr<0
   ·have e:14=r:=by rw[<-hr];(repeat' split)<;>first|rfl|omega
    have H_hr:=h_ hr;have H_e:=h_ e;clear hr e
    go_enter Tryz.func133,Tryz.ntmps133
    go_wp2_with (first|(go_at_call 193;(with_reducible refine(vet_in _ _ _ (by omega) (by omega) _).mono ?_);rintro e1 w1 ⟨rfl,rfl⟩)|(go_at_call 193;(with_reducible refine(vet_out _ _ _ (by omega) _).mono ?_);rintro e1 w1 ⟨rfl,rfl⟩))
    go_ret
    exact fin H_e.out (Vg.gro)
   by_cases c13:tt<=fr
   ·have e:14=r:=by rw[<-hr];(repeat' split)<;>first|rfl|omega
    have H_hr:=h_ hr;have H_e:=h_ e;clear hr e
    go_enter Tryz.func133,Tryz.ntmps133
    go_wp2_with (first|(go_at_call 193;(with_reducible refine(vet_in _ _ _ (by omega) (by omega) _).mono ?_);rintro e1 w1 ⟨rfl,rfl⟩)|(go_at_call 193;(with_reducible refine(vet_out _ _ _ (by omega) _).mono ?_);rintro e1 w1 ⟨rfl,rfl⟩))
    go_ret
    exact fin H_e.out (Vg.gro)
   by_cases c14:co<tt
   ·have e:14=r:=by rw[<-hr];(repeat' split)<;>first|rfl|omega
    have H_hr:=h_ hr;have H_e:=h_ e;clear hr e
    go_enter Tryz.func133,Tryz.ntmps133
    go_wp2_with (first|(go_at_call 193;(with_reducible refine(vet_in _ _ _ (by omega) (by omega) _).mono ?_);rintro e1 w1 ⟨rfl,rfl⟩)|(go_at_call 193;(with_reducible refine(vet_out _ _ _ (by omega) _).mono ?_);rintro e1 w1 ⟨rfl,rfl⟩))
    go_ret
    exact fin H_e.out (Vg.gro)
   have e:0=r:=by rw[<-hr];(repeat' split)<;>first|rfl|omega
   have H_hr:=h_ hr;have H_e:=h_ e;clear hr e
   go_enter Tryz.func133,Tryz.ntmps133
   go_wp2_with (first|(go_at_call 193;(with_reducible refine(vet_in _ _ _ (by omega) (by omega) _).mono ?_);rintro e1 w1 ⟨rfl,rfl⟩)|(go_at_call 193;(with_reducible refine(vet_out _ _ _ (by omega) _).mono ?_);rintro e1 w1 ⟨rfl,rfl⟩))
   go_ret
   exact fin H_e.out (Vg.gro)
  ·have e:0=r:=by rw[<-hr];(repeat' split)<;>first|rfl|omega
   have H_hr:=h_ hr;have H_e:=h_ e;clear hr e
   go_enter Tryz.func133,Tryz.ntmps133
   go_wp2_with (first|(go_at_call 193;(with_reducible refine(vet_in _ _ _ (by omega) (by omega) _).mono ?_);rintro e1 w1 ⟨rfl,rfl⟩)|(go_at_call 193;(with_reducible refine(vet_out _ _ _ (by omega) _).mono ?_);rintro e1 w1 ⟨rfl,rfl⟩))
   go_ret
   exact fin H_e.out (Vg.gro)
 ·skip
  by_cases c1:¬(0<=pr/\pr<=63)
  ·have e:1=r:=by rw[<-hr];(repeat' split)<;>first|rfl|omega
   have H_hr:=h_ hr;have H_e:=h_ e;clear hr e
   go_enter Tryz.func133,Tryz.ntmps133
   go_wp2_with (first|(go_at_call 193;(with_reducible refine(vet_in _ _ _ (by omega) (by omega) _).mono ?_);rintro e1 w1 ⟨rfl,rfl⟩)|(go_at_call 193;(with_reducible refine(vet_out _ _ _ (by omega) _).mono ?_);rintro e1 w1 ⟨rfl,rfl⟩))
   go_ret
   exact fin H_e.out (Vg.gro)
  by_cases c2:¬(1<=ro/\ro<=16)
  ·have e:1=r:=by rw[<-hr];(repeat' split)<;>first|rfl|omega
   have H_hr:=h_ hr;have H_e:=h_ e;clear hr e
   go_enter Tryz.func133,Tryz.ntmps133
   go_wp2_with (first|(go_at_call 193;(with_reducible refine(vet_in _ _ _ (by omega) (by omega) _).mono ?_);rintro e1 w1 ⟨rfl,rfl⟩)|(go_at_call 193;(with_reducible refine(vet_out _ _ _ (by omega) _).mono ?_);rintro e1 w1 ⟨rfl,rfl⟩))
   go_ret
   exact fin H_e.out (Vg.gro)
  by_cases c3:16<=lk
  ·have e:1=r:=by rw[<-hr];(repeat' split)<;>first|rfl|omega
   have H_hr:=h_ hr;have H_e:=h_ e;clear hr e
   go_enter Tryz.func133,Tryz.ntmps133
   go_wp2_with (first|(go_at_call 193;(with_reducible refine(vet_in _ _ _ (by omega) (by omega) _).mono ?_);rintro e1 w1 ⟨rfl,rfl⟩)|(go_at_call 193;(with_reducible refine(vet_out _ _ _ (by omega) _).mono ?_);rintro e1 w1 ⟨rfl,rfl⟩))
   go_ret
   exact fin H_e.out (Vg.gro)
  by_cases c4:¬(1<=pe/\pe<=1099511627776)
  ·have e:1=r:=by rw[<-hr];(repeat' split)<;>first|rfl|omega
   have H_hr:=h_ hr;have H_e:=h_ e;clear hr e
   go_enter Tryz.func133,Tryz.ntmps133
   go_wp2_with (first|(go_at_call 193;(with_reducible refine(vet_in _ _ _ (by omega) (by omega) _).mono ?_);rintro e1 w1 ⟨rfl,rfl⟩)|(go_at_call 193;(with_reducible refine(vet_out _ _ _ (by omega) _).mono ?_);rintro e1 w1 ⟨rfl,rfl⟩))
   go_ret
   exact fin H_e.out (Vg.gro)
  by_cases c5:¬(0<=og/\og<=1099511627776)
  ·have e:1=r:=by rw[<-hr];(repeat' split)<;>first|rfl|omega
   have H_hr:=h_ hr;have H_e:=h_ e;clear hr e
   go_enter Tryz.func133,Tryz.ntmps133
   go_wp2_with (first|(go_at_call 193;(with_reducible refine(vet_in _ _ _ (by omega) (by omega) _).mono ?_);rintro e1 w1 ⟨rfl,rfl⟩)|(go_at_call 193;(with_reducible refine(vet_out _ _ _ (by omega) _).mono ?_);rintro e1 w1 ⟨rfl,rfl⟩))
   go_ret
   exact fin H_e.out (Vg.gro)
  by_cases c6:¬(1<=dl/\dl<=1099511627776)
  ·have e:1=r:=by rw[<-hr];(repeat' split)<;>first|rfl|omega
   have H_hr:=h_ hr;have H_e:=h_ e;clear hr e
   go_enter Tryz.func133,Tryz.ntmps133
   go_wp2_with (first|(go_at_call 193;(with_reducible refine(vet_in _ _ _ (by omega) (by omega) _).mono ?_);rintro e1 w1 ⟨rfl,rfl⟩)|(go_at_call 193;(with_reducible refine(vet_out _ _ _ (by omega) _).mono ?_);rintro e1 w1 ⟨rfl,rfl⟩))
   go_ret
   exact fin H_e.out (Vg.gro)
  by_cases c7:0<og
  ·have e:1=r:=by rw[<-hr];(repeat' split)<;>first|rfl|omega
   have H_hr:=h_ hr;have H_e:=h_ e;clear hr e
   go_enter Tryz.func133,Tryz.ntmps133
   go_wp2_with (first|(go_at_call 193;(with_reducible refine(vet_in _ _ _ (by omega) (by omega) _).mono ?_);rintro e1 w1 ⟨rfl,rfl⟩)|(go_at_call 193;(with_reducible refine(vet_out _ _ _ (by omega) _).mono ?_);rintro e1 w1 ⟨rfl,rfl⟩))
   go_ret
   exact fin H_e.out (Vg.gro)
  by_cases c8:pe<dl
  ·have e:11=r:=by rw[<-hr];(repeat' split)<;>first|rfl|omega
   have H_hr:=h_ hr;have H_e:=h_ e;clear hr e
   go_enter Tryz.func133,Tryz.ntmps133
   go_wp2_with (first|(go_at_call 193;(with_reducible refine(vet_in _ _ _ (by omega) (by omega) _).mono ?_);rintro e1 w1 ⟨rfl,rfl⟩)|(go_at_call 193;(with_reducible refine(vet_out _ _ _ (by omega) _).mono ?_);rintro e1 w1 ⟨rfl,rfl⟩))
   go_ret
   exact fin H_e.out (Vg.gro)
  by_cases c9:¬(1<=co/\co<=dl)
  ·have e:14=r:=by rw[<-hr];(repeat' split)<;>first|rfl|omega
   have H_hr:=h_ hr;have H_e:=h_ e;clear hr e
   go_enter Tryz.func133,Tryz.ntmps133
   go_wp2_with (first|(go_at_call 193;(with_reducible refine(vet_in _ _ _ (by omega) (by omega) _).mono ?_);rintro e1 w1 ⟨rfl,rfl⟩)|(go_at_call 193;(with_reducible refine(vet_out _ _ _ (by omega) _).mono ?_);rintro e1 w1 ⟨rfl,rfl⟩))
   go_ret
   exact fin H_e.out (Vg.gro)
  have hwr:IntKind.i64.wrap (dl-co)=dl-co:=by rw[IntKind.wrap_i64];omega
  by_cases c10:dl-co<ch
  ·have e:14=r:=by rw[<-hr];(repeat' split)<;>first|rfl|omega
   have H_hr:=h_ hr;have H_e:=h_ e;clear hr e
   go_enter Tryz.func133,Tryz.ntmps133
   go_wp2_with (first|(go_at_call 193;(with_reducible refine(vet_in _ _ _ (by omega) (by omega) _).mono ?_);rintro e1 w1 ⟨rfl,rfl⟩)|(go_at_call 193;(with_reducible refine(vet_out _ _ _ (by omega) _).mono ?_);rintro e1 w1 ⟨rfl,rfl⟩))
   go_ret
   exact fin H_e.out (Vg.gro)
  by_cases c11:0<=lk
  ·skip
   by_cases c12:fr<0
   ·have e:14=r:=by rw[<-hr];(repeat' split)<;>first|rfl|omega
    have H_hr:=h_ hr;have H_e:=h_ e;clear hr e
    go_enter Tryz.func133,Tryz.ntmps133
    go_wp2_with (first|(go_at_call 193;(with_reducible refine(vet_in _ _ _ (by omega) (by omega) _).mono ?_);rintro e1 w1 ⟨rfl,rfl⟩)|(go_at_call 193;(with_reducible refine(vet_out _ _ _ (by omega) _).mono ?_);rintro e1 w1 ⟨rfl,rfl⟩))
    go_ret
    exact fin H_e.out (Vg.gro)
   by_cases c13:tt<=fr
   ·have e:14=r:=by rw[<-hr];(repeat' split)<;>first|rfl|omega
    have H_hr:=h_ hr;have H_e:=h_ e;clear hr e
    go_enter Tryz.func133,Tryz.ntmps133
    go_wp2_with (first|(go_at_call 193;(with_reducible refine(vet_in _ _ _ (by omega) (by omega) _).mono ?_);rintro e1 w1 ⟨rfl,rfl⟩)|(go_at_call 193;(with_reducible refine(vet_out _ _ _ (by omega) _).mono ?_);rintro e1 w1 ⟨rfl,rfl⟩))
    go_ret
    exact fin H_e.out (Vg.gro)
   by_cases c14:co<tt
   ·have e:14=r:=by rw[<-hr];(repeat' split)<;>first|rfl|omega
    have H_hr:=h_ hr;have H_e:=h_ e;clear hr e
    go_enter Tryz.func133,Tryz.ntmps133
    go_wp2_with (first|(go_at_call 193;(with_reducible refine(vet_in _ _ _ (by omega) (by omega) _).mono ?_);rintro e1 w1 ⟨rfl,rfl⟩)|(go_at_call 193;(with_reducible refine(vet_out _ _ _ (by omega) _).mono ?_);rintro e1 w1 ⟨rfl,rfl⟩))
    go_ret
    exact fin H_e.out (Vg.gro)
   have e:0=r:=by rw[<-hr];(repeat' split)<;>first|rfl|omega
   have H_hr:=h_ hr;have H_e:=h_ e;clear hr e
   go_enter Tryz.func133,Tryz.ntmps133
   go_wp2_with (first|(go_at_call 193;(with_reducible refine(vet_in _ _ _ (by omega) (by omega) _).mono ?_);rintro e1 w1 ⟨rfl,rfl⟩)|(go_at_call 193;(with_reducible refine(vet_out _ _ _ (by omega) _).mono ?_);rintro e1 w1 ⟨rfl,rfl⟩))
   go_ret
   exact fin H_e.out (Vg.gro)
  ·have e:0=r:=by rw[<-hr];(repeat' split)<;>first|rfl|omega
   have H_hr:=h_ hr;have H_e:=h_ e;clear hr e
   go_enter Tryz.func133,Tryz.ntmps133
   go_wp2_with (first|(go_at_call 193;(with_reducible refine(vet_in _ _ _ (by omega) (by omega) _).mono ?_);rintro e1 w1 ⟨rfl,rfl⟩)|(go_at_call 193;(with_reducible refine(vet_out _ _ _ (by omega) _).mono ?_);rintro e1 w1 ⟨rfl,rfl⟩))
   go_ret
   exact fin H_e.out (Vg.gro)
theorem irq_one{w:World}{T:List Vg.Lin}{sa:Option Addr}{sc n:Nat}{b:Bool}(hr:Vg.LR w sa sc T)(hn:T.length=n)(hn2:n<=4398046511104)(hw0:0<w.heap.size)(hb:Vg.goodL T=b):
  Calls Tryz.prog 23 #[.slice sa n sc] w fun e w'=>(∃p,e=.returned (.tuple #[.pointer p,.int .i64 (if b=true then 0 else 1)]))/\Vg.Grows w w':=by
 refine(irq_new hr hn hn2 hw0).mono ?_
 rintro e w' (⟨hg,⟨OB,rfl,_⟩,hgr⟩|⟨hg,rfl,hgr⟩)
 ·rw[hg]at hb;subst hb;exact⟨⟨_,rfl⟩,hgr⟩
 ·rw[hg]at hb;subst hb;exact⟨⟨_,rfl⟩,hgr⟩
theorem bot_one{w:World}{T:List Vg.Th}{sa:Option Addr}{sc n:Nat}{b:Bool}(hr:Vg.TR w sa sc T)(hn:T.length=n)(hn2:n<=4398046511104)(hb:Vg.goodT T=b):
  Calls Tryz.prog 24 #[.slice sa n sc] w fun e w'=>(∃p,e=.returned (.tuple #[.pointer p,.int .i64 (if b=true then 0 else 1)]))/\Vg.Grows w w':=by
 cases b with
 | true=>
  refine(bs_new hr hn hn2 hb rfl rfl).mono ?_
  rintro e w' ⟨OB,rfl,_,hgr⟩
  exact⟨⟨_,rfl⟩,hgr⟩
 | false=>
  refine(bs_new_no hr hn hn2 hb).mono ?_
  rintro e w' ⟨rfl,hgr⟩
  exact⟨⟨_,rfl⟩,hgr⟩
theorem Vg.LR.one{w:World}{g:Nat}{x:Vg.Lin}(hb:Vg.blk w g=some (.cells #[.int .i64 x.pr,.int .i64 x.top,.int .i64 x.many,.int .i64 x.wd] 67)):Vg.LR w (some ⟨g,0,none⟩) 1 [x]:=by
 have hc:=Vg.cells_of hb
 refine⟨by simp,by unfold maxLen;omega,fun k hk=>?_⟩
 obtain rfl:k=0:=by simpa using hk
 exact⟨g,0,rfl,Vg.lt_of hb,by rw[hc];rfl,by rw[hc];rfl,by rw[hc];rfl,by rw[hc];rfl⟩
theorem Vg.TR.one{w:World}{g:Nat}{x:Vg.Th}(hb:Vg.blk w g=some (.cells #[.int .i64 x.pr,.int .i64 x.bu,.int .i64 x.pe,.int .i64 x.dp] 69)):Vg.TR w (some ⟨g,0,none⟩) 1 [x]:=by
 have hc:=Vg.cells_of hb
 refine⟨by simp,by unfold maxLen;omega,fun k hk=>?_⟩
 obtain rfl:k=0:=by simpa using hk
 exact⟨g,0,rfl,Vg.lt_of hb,by rw[hc];rfl,by rw[hc];rfl,by rw[hc];rfl,by rw[hc];rfl⟩
theorem vet_line (x:Vg.Lin) {r:Int} (hr:Vg.Vt.line x=r) (w:World):Calls Tryz.prog 134 #[liV x] w fun e w'=>e=.returned (.int .i64 r)/\Vg.Grows w w':=by
 obtain⟨b,hb⟩:∃b,Vg.goodL [x]=b:=⟨_,rfl⟩
 have hn:∀wz g,Vg.blk wz g=some (.cells #[.int .i64 x.pr,.int .i64 x.top,.int .i64 x.many,.int .i64 x.wd] 67)->Calls Tryz.prog 23 #[.slice (some ⟨g,0,none⟩) 1 1] wz fun e w'=>(∃p,e=.returned (.tuple #[.pointer p,.int .i64 (if b=true then 0 else 1)]))/\Vg.Grows wz w':=fun wz g h=>irq_one (Vg.LR.one h) rfl (by omega) (by have:=Vg.lt_of h;omega) hb
 have hxx:x=⟨x.pr,x.top,x.many,x.wd⟩:=rfl
 obtain⟨pr,top,many,wd⟩:=x
 unfold Vg.Vt.line at hr
 rw[hb]at hr
 simp only at hr hn
 have hx1:Vg.blk (w.alloc (.cells #[.int .i64 pr,.int .i64 top,.int .i64 many,.int .i64 wd] 67)) w.heap.size=some (.cells #[.int .i64 pr,.int .i64 top,.int .i64 many,.int .i64 wd] 67):=Vg.alloc_heap_at rfl
 have hx2:Vg.blk ((w.alloc (.cells #[.int .i64 pr,.int .i64 top,.int .i64 many,.int .i64 wd] 67)).alloc (.cells #[.int .i64 pr,.int .i64 top,.int .i64 many,.int .i64 wd] 67)) (w.heap.size+1)=some (.cells #[.int .i64 pr,.int .i64 top,.int .i64 many,.int .i64 wd] 67):=Vg.alloc_heap_at (by simp)
 cases b with
 | false=>
  simp only[Bool.false_eq_true,if_false]at hr hn
  subst hr
  have H_hn:=h_ hn;have H_hb:=h_ hb;have H_hx1:=h_ hx1;have H_hx2:=h_ hx2;clear hn hb hx1 hx2
  go_enter Tryz.func134,Tryz.ntmps134
  go_wp2_with ((go_at_call 23;(with_reducible refine(H_hn.out _ _ H_hx2.out).mono ?_);rintro e w1 ⟨⟨p,rfl⟩,hg⟩;have H_hg:=h_ hg;clear hg))
  go_ret
  exact⟨rfl,Vg.Grows.trans (Vg.gro) H_hg.out⟩
 | true=>
  have hm:1<=many/\many<=64/\1<=top/\top<=1099511627776:=by
   unfold Vg.goodL at hb
   simp only[List.any_cons,List.any_nil,Bool.or_false,Bool.and_eq_true,Bool.not_eq_true']at hb
   have:=Vg.oddL_no hb.1.1
   simp only at this
   omega
  have hmul:0<=many*top/\many*top<=64*1099511627776:=by
   refine⟨Int.mul_nonneg (by omega) (by omega),?_⟩
   have h1:many*top<=64*top:=Int.mul_le_mul_of_nonneg_right hm.2.1 (by omega)
   omega
  have hwr:IntKind.i64.wrap (many*top)=many*top:=by rw[IntKind.wrap_i64];omega
  simp only[if_true]at hr hn
  by_cases h10:1099511627776<many*top
  ·rw[if_pos h10]at hr
   subst hr
   have H_hn:=h_ hn;have H_hb:=h_ hb;have H_hx1:=h_ hx1;have H_hx2:=h_ hx2;clear hn hb hx1 hx2
   go_enter Tryz.func134,Tryz.ntmps134
   go_wp2_with ((go_at_call 23;(with_reducible refine(H_hn.out _ _ H_hx2.out).mono ?_);rintro e w1 ⟨⟨p,rfl⟩,hg⟩;have y1:=hg.blk (((Vg.Grows.refl _).alloc _).blk H_hx1.out);obtain⟨c_y1,f_y1,p_y1,l_y1,H_y1⟩:=Vg.lay y1;clear y1;have H_hg:=h_ hg;clear hg))
   go_ret
   exact⟨rfl,Vg.Grows.trans (Vg.gro) H_hg.out⟩
  ·rw[if_neg h10]at hr
   subst hr
   have H_hn:=h_ hn;have H_hb:=h_ hb;have H_hx1:=h_ hx1;have H_hx2:=h_ hx2;clear hn hb hx1 hx2
   go_enter Tryz.func134,Tryz.ntmps134
   go_wp2_with ((go_at_call 23;(with_reducible refine(H_hn.out _ _ H_hx2.out).mono ?_);rintro e w1 ⟨⟨p,rfl⟩,hg⟩;have y1:=hg.blk (((Vg.Grows.refl _).alloc _).blk H_hx1.out);obtain⟨c_y1,f_y1,p_y1,l_y1,H_y1⟩:=Vg.lay y1;clear y1;have H_hg:=h_ hg;clear hg))
   go_ret
   exact⟨rfl,Vg.Grows.trans (Vg.gro) H_hg.out⟩
theorem vet_thread(x:Vg.Th){r:Int}(hr:Vg.Vt.thread x=r)(w:World):Calls Tryz.prog 135 #[htV x] w fun e w'=>e=.returned (.int .i64 r)/\Vg.Grows w w':=by
 have hn:∀wz g,Vg.blk wz g=some (.cells #[.int .i64 x.pr,.int .i64 x.bu,.int .i64 x.pe,.int .i64 x.dp] 69)->Calls Tryz.prog 24 #[.slice (some ⟨g,0,none⟩) 1 1] wz fun e w'=>(∃p,e=.returned (.tuple #[.pointer p,.int .i64 r]))/\Vg.Grows wz w':=fun wz g h=>by
  subst hr
  exact bot_one (Vg.TR.one h) rfl (by omega) rfl
 obtain⟨pr,bu,pe,dp⟩:=x
 simp only at hn
 have hx2:Vg.blk ((w.alloc (.cells #[.int .i64 pr,.int .i64 bu,.int .i64 pe,.int .i64 dp] 69)).alloc (.cells #[.int .i64 pr,.int .i64 bu,.int .i64 pe,.int .i64 dp] 69)) (w.heap.size+1)=some (.cells #[.int .i64 pr,.int .i64 bu,.int .i64 pe,.int .i64 dp] 69):=Vg.alloc_heap_at (by simp)
 have H_hn:=h_ hn;have H_hx2:=h_ hx2;have H_hr:=h_ hr;clear hn hx2 hr
 go_enter Tryz.func135,Tryz.ntmps135
 go_wp2_with ((go_at_call 24;(with_reducible refine(H_hn.out _ _ H_hx2.out).mono ?_);rintro e w1 ⟨⟨p,rfl⟩,hg⟩;have H_hg:=h_ hg;clear hg))
 go_ret
 exact⟨rfl,Vg.Grows.trans (Vg.gro) H_hg.out⟩
end Go.Proofs.YtlkdkgefjipjmaaGreatDoor
namespace Go.Proofs.YtlkdkgefjipjmaaGreatDoor
open Go.ChangeShapes Go.WideShapes Go.ChangeAt Go.RowKit
structure Cv where
 ta:Option Addr
 tc:Nat
 la:Option Addr
 lc:Nat
 ha:Option Addr
 hc:Nat
abbrev cfV(C:Vg.Cf)(v:Cv):Value:=.agg #[.int .i64 C.mn,.int .i64 C.mx,.int .i64 C.sw,.slice v.ta C.T.length v.tc,.slice v.la C.L.length v.lc,.slice v.ha C.H.length v.hc]
abbrev cfO(C:Vg.Cf)(v:Cv):Obj:=.cells #[.int .i64 C.mn,.int .i64 C.mx,.int .i64 C.sw,.slice v.ta C.T.length v.tc,.slice v.la C.L.length v.lc,.slice v.ha C.H.length v.hc] 30
def CR(w:World)(C:Vg.Cf)(v:Cv):Prop:=Vg.TK w v.ta v.tc C.T/\Vg.LR w v.la v.lc C.L/\Vg.TR w v.ha v.hc C.H
theorem CR.grows{w w':World}{C:Vg.Cf}{v:Cv}(h:CR w C v)(hg:Vg.Grows w w'):CR w' C v:=⟨h.1.grows hg,h.2.1.grows hg,h.2.2.grows hg⟩
theorem vet_change(C:Vg.Cf)(v:Cv){r:Int}(hr:Vg.Vt.change C.sw=r)(w:World):Calls Tryz.prog 131 #[cfV C v] w fun e w'=>e=.returned (.int .i64 r)/\Vg.Grows w w':=by
 unfold Vg.Vt.change at hr
 obtain⟨sw,hsw⟩:∃sw,C.sw=sw:=⟨_,rfl⟩
 simp only[cfV]
 rw[hsw]at hr ⊢
 by_cases h:0<=sw/\sw<=1099511627776
 ·rw[if_pos h]at hr
  subst hr
  go_enter Tryz.func131,Tryz.ntmps131
  go_wp2_with ((go_at_call 193;(with_reducible refine(vet_in sw 0 1099511627776 (by omega) (by omega) _).mono ?_);rintro e1 w1 ⟨rfl,rfl⟩))
  go_ret
  exact⟨rfl,Vg.gro⟩
 ·rw[if_neg h]at hr
  subst hr
  go_enter Tryz.func131,Tryz.ntmps131
  go_wp2_with ((go_at_call 193;(with_reducible refine(vet_out sw 0 1099511627776 (by omega) _).mono ?_);rintro e1 w1 ⟨rfl,rfl⟩))
  go_ret
  exact⟨rfl,Vg.gro⟩
theorem vet_many(C:Vg.Cf)(v:Cv){r:Int}(hr:Vg.Vt.many C=r)(w:World):Calls Tryz.prog 132 #[cfV C v] w fun e w'=>e=.returned (.int .i64 r)/\Vg.Grows w w':=by
 unfold Vg.Vt.many at hr
 obtain⟨nt,hnt⟩:∃nt,C.T.length=nt:=⟨_,rfl⟩
 obtain⟨nl,hnl⟩:∃nl,C.L.length=nl:=⟨_,rfl⟩
 obtain⟨nh,hnh⟩:∃nh,C.H.length=nh:=⟨_,rfl⟩
 simp only[cfV]
 rw[hnt,hnl,hnh]at hr ⊢
 clear hnt hnl hnh
 by_cases h1:¬(1<=nt/\nt<=32)
 ·rw[if_pos (.inl h1)]at hr
  subst hr
  go_enter Tryz.func132,Tryz.ntmps132
  go_wp2_with ((go_at_call 193;(with_reducible refine(vet_out nt 1 32 (by omega) _).mono ?_);rintro e1 w1 ⟨rfl,rfl⟩))
  go_ret
  exact⟨rfl,Vg.gro⟩
 ·by_cases h2:64<nl
  ·rw[if_pos (.inr (.inl h2))]at hr
   subst hr
   have h2':(64:Int)<nl:=by omega
   go_enter Tryz.func132,Tryz.ntmps132
   go_wp2_with ((go_at_call 193;(with_reducible refine(vet_in nt 1 32 (by omega) (by omega) _).mono ?_);rintro e1 w1 ⟨rfl,rfl⟩))
   go_ret
   exact⟨rfl,Vg.gro⟩
  ·have h2':¬(64:Int)<nl:=by omega
   by_cases h3:nh=nl
   ·rw[if_neg (by omega)]at hr
    subst hr h3
    go_enter Tryz.func132,Tryz.ntmps132
    go_wp2_with ((go_at_call 193;(with_reducible refine(vet_in nt 1 32 (by omega) (by omega) _).mono ?_);rintro e1 w1 ⟨rfl,rfl⟩))
    go_ret
    exact⟨rfl,Vg.gro⟩
   ·rw[if_pos (.inr (.inr h3))]at hr
    subst hr
    have h3':((nh:Int) != (nl:Int))=true:=by simp;omega
    go_enter Tryz.func132,Tryz.ntmps132
    go_wp2_with ((go_at_call 193;(with_reducible refine(vet_in nt 1 32 (by omega) (by omega) _).mono ?_);rintro e1 w1 ⟨rfl,rfl⟩))
    go_ret
    exact⟨rfl,Vg.gro⟩
end Go.Proofs.YtlkdkgefjipjmaaGreatDoor
namespace Vg
open Go Go.RowKit Go.Maps
structure Fau where
 pt:Int
 at_:Int
 why:Int
def Vt.ps(C:Cf):List Int:=C.T.map (·.pr)++C.H.map (·.pr)
def Vt.pf(L:List Int)(i:Nat)(p:Int):Fau:=⟨7,i,if p∈L.take i then 12 else 0⟩
def Vt.prios(C:Cf):List Fau:=(Vt.ps C).mapIdx (Vt.pf (Vt.ps C))
def Vt.heads(C:Cf):List Fau:=[⟨1,0,tmC C.mn C.mx⟩,⟨2,0,Vt.change C.sw⟩,⟨3,0,Vt.many C⟩]
def Vt.tasks(C:Cf):List Fau:=C.T.mapIdx fun i t=>⟨4,i,Vt.task t C.sw⟩
def Vt.lines(C:Cf):List Fau:=C.L.mapIdx fun i x=>⟨5,i,Vt.line x⟩
def Vt.threads(C:Cf):List Fau:=C.H.mapIdx fun i t=>⟨6,i,Vt.thread t⟩
def Vt.looks(C:Cf):List Fau:=Vt.heads C++Vt.tasks C++Vt.lines C++Vt.threads C++Vt.prios C
def Vt.good(C:Cf):Prop:=∀x∈Vt.looks C,x.why=0
section
variable {F:Fence}{nF:Nat}
theorem wpListIn_que1{P:Program}{w:World}{ops:Array Oper}{rest:List Oper}{o:Oper}{a:Act}{Q:Exit->Act->World->Prop}(hgd:o.guard=none)(s x:Operand)(t:TypeId)
  (hop:o.op=.call { callee:=.builtin .append,args:=#[s,x],argTypes:=#[t,t] })
  (base:Nat)(e:TypeId)(i:TypeInfo)(z:Value)(size bytes:Nat)(ht:P.underlying t=some (.slice e))(hi:P.info? e=some i)(hz:i.zero=some z)
  (hsize:i.size=size)(hby:i.bytes=bytes)(hzs:z.cells.size=size)(hsz:0<size)
  (v:Value)(n:Nat)(xs:List Value)(hs:a.eval s=v)(hown:Que w base e size v n xs)
  (ad:Addr)(c:Nat)(news:List Value)(hx:a.eval x=.slice (some ad) 1 c)(hl:news.length=1*size)(hnews:∀j u,news[j]? = some u->w.cell? (ad.add j)=some u)(h1:∀u∈news,u.oneCell'=true) 
  (h63:n+1<=maxLen)(hbytes:((n+1)+(n+1)/4+192)*bytes<=281474976710656)(hb2:bytes<=1000)(hbase:base<=w.heap.size)
  (h:∀v' W1 y k,Que (plus W1 y k) base e size v' (n+1) (xs++news)->Same (fun j=>v.ownBlock=some j) w W1->(v'.ownBlock=v.ownBlock\/v'.ownBlock=some w.heap.size)->wpListIn F nF P ops Q rest (a.put o.dst v') (plus W1 y k)):wpListIn F nF P ops Q (o::rest) a w:=by
 refine wpListIn_plain hgd fun _ hK=>?_
 obtain⟨v',w',hr,h2,h3,h4⟩:=run_append_que1 (P:=P) w base t o.type e i z size bytes ht hi hz hsize hby hzs hsz v n xs hown ad c news hl hnews h1 h63 hbytes hb2 hbase
 obtain⟨W1,y,k,rfl,hsame⟩:=grownBy_split h3
 unfold Oper.wpIn
 refine⟨?_,?_⟩
 ·simp[Oper.about,hop,resolve,Target.leads,Sem.run_pure]
 ·rw[Oper.semAt_plain F _ _ (by rw[hop];intro c hc';cases hc')]
  simp[execOp,hop,resolve,invoke,builtin,hs,hx,hr,Result.andThen]
  exact hK _ _ (h v' W1 y k h2 hsame h4)
theorem BMap.keep{P:Program}{k e:TypeId}{w w':World}{b n:Nat}{f:Int->Bool}(h:BMap w P k e b n f)(hb:w'.heap[b]? = w.heap[b]?):BMap w' P k e b n f:=by
 obtain⟨D,⟨es,clock,hb0,G,hs,hD⟩,h2,h3⟩:=h
 exact⟨D,⟨es,clock,hb.trans hb0,G,hs,hD⟩,h2,h3⟩
theorem wpListIn_lookup_bool{P:Program}{b n:Nat}{f:Int->Bool}(w:World){ops:Array Oper}{rest:List Oper}{o:Oper}{a:Act}{Q:Exit->Act->World->Prop}
  (hg:o.guard=none)(m x:Operand)(t:TypeId)(hop:o.op=Op.lookup t m x false)
  (k e:TypeId)(hk:P.underlying k=some (.int .i64))(ht:P.underlying t=some (.map k e))(he:P.underlying e=some .bool)(hz:(zeroValue e).run P w=.ok (.bool false) w)
  (hm:a.eval m=.map (some b))(hown:BMap w P k e b n f)(y:Int)(hx:a.eval x=.int .i64 y)(hy:(Lit.int .i64 y).wf=true)
  (hK:wpListIn F nF P ops Q rest (a.put o.dst (.bool (f y))) w):
  wpListIn F nF P ops Q (o::rest) a w:=by
 obtain⟨D,h1,h2,h3⟩:=hown
 refine wpListIn_plain hg fun K' hK'=>?_
 obtain⟨v,ps,hrun,hv⟩:=h1.lookup (int_keyed hk) ht hz (plainElem_bool he false) (keyOf_int_mk hk hy)
 obtain⟨c,rfl,hc⟩:=plainElem_bool_inv he hv
 rw[h3 y]at hc
 simp only[Prod.mk.injEq,DataW.lit.injEq,Lit.bool.injEq]at hc
 obtain⟨hc,-⟩:=hc
 subst hc
 unfold Oper.wpIn
 refine⟨by simp[Oper.about,hop],?_⟩
 rw[Oper.semAt_plain F _ _ (by rw[hop];intro c hc';cases hc')]
 simp[execOp,hop,hm,hx,hrun,Result.andThen]
 exact hK' _ _ hK
theorem wpListIn_mapUpdate_bool{P:Program}{b n:Nat}{f:Int->Bool}(w:World){ops:Array Oper}{rest:List Oper}{o:Oper}{a:Act}{Q:Exit->Act->World->Prop}
  (hg:o.guard=none)(m x v:Operand)(t:TypeId)(hop:o.op=Op.mapUpdate t m x v)
  (k e:TypeId)(hk:P.underlying k=some (.int .i64))(ht:P.underlying t=some (.map k e))(he:P.underlying e=some .bool)
  (hm:a.eval m=.map (some b))(hown:BMap w P k e b n f)(hn:n<maxLen)(y:Int)(hx:a.eval x=.int .i64 y)(hy:(Lit.int .i64 y).wf=true)(c:Bool)(hv:a.eval v=.bool c)
  (hK:∀w',BMap w' P k e b (n+1) (fun z=>if z=y then c else f z)->Touch (fun j=>j=b) w w'->wpListIn F nF P ops Q rest (a.put o.dst undef) w'):
  wpListIn F nF P ops Q (o::rest) a w:=by
 obtain⟨D,h1,h2,h3⟩:=hown
 refine wpListIn_mapUpdate_own w hg m x v t hop k e (int_keyed hk) ht (plainElem P e) b n D hm h1 hn (.int .i64 y) (.bool c) _ hx hv (keyOf_int_mk hk hy) (.lit (.bool c)) [] (plainElem_bool he c) fun w' hown hgr=>?_
 refine hK w' ⟨_,hown,h2.put _ _,fun z=>?_⟩ (by
  obtain⟨W1,y1,m1,rfl,hs1⟩:=grownBy_split hgr
  exact((Touch.of_same hs1).mono (fun j _ hj=>by cases hj;rfl)).trans (Touch.of_grows ((Grows.refl W1).plus y1 m1)))
 by_cases h:z=y
 ·subst h
  rw[atKey_put_same h2 (k:=.int .i64 z) trivial]
  simp
 ·rw[atKey_put_other (by simp[h])]
  simp only[if_neg h]
  exact h3 z
end
end Vg
