/- Kq, Stats, StatsA, StatsB, Ex (put together). -/
import Derived.Test.YtlkdkgefjipjmaaGreatDoorP27
import Derived.Test.YtlkdkgefjipjmaaGreatDoorP21
import Derived.Test.YtlkdkgefjipjmaaGreatDoorQ0
import Derived.Test.YtlkdkgefjipjmaaGreatDoorP15
import Derived.Test.YtlkdkgefjipjmaaGreatDoorP20
import Derived.Test.YtlkdkgefjipjmaaGreatDoorP23
set_option linter.all false
set_option maxHeartbeats 40000000
set_option maxRecDepth 100000
namespace Go.Proofs.YtlkdkgefjipjmaaGreatDoor
open Go.ChangeShapes Go.WideShapes Go.ChangeAt Go.RowKit
def KQ(w:World)(b:Nat)(K:List Vg.Kt)(M:List Vg.Mx)(OB:Nat->Prop):Prop:=
 ∃xs rv cb cv,KT w b xs rv cb M cv/\xs.map (·.2)=K/\(∀k,kown b xs rv cb cv k->OB k)/\∀k,OB k->k<w.heap.size
def KQn(w w':World)(b:Nat)(K':List Vg.Kt)(M':List Vg.Mx)(OB:Nat->Prop):Prop:=
 ∃OB',KQ w' b K' M' OB'/\(∀k,OB' k->OB k\/w.heap.size<=k)/\Vg.Touch OB w w'
section
variable {w w' w0:World}{b n k:Nat}{K K':List Vg.Kt}{M M':List Vg.Mx}{OB:Nat->Prop}{r x d1 d2 d3 m:Int}{is:Bool}
theorem KQ.touch{t:Nat->Prop}(h:KQ w b K M OB)(ht:Vg.Touch t w w')(hv:∀k,OB k->¬t k):KQ w' b K M OB:=by
 obtain⟨xs,rv,cb,cv,h1,h2,h3,h4⟩:=h
 exact⟨xs,rv,cb,cv,h1.touch ht fun k hk=>hv k (h3 k hk),h2,h3,fun k hk=>Nat.lt_of_lt_of_le (h4 k hk) ht.size⟩
theorem KQn.of{xs:List Vg.Kp}{rv cv:Value}{cb:Nat}(h3:∀k,kown b xs rv cb cv k->OB k)(hn:KTn w w' b xs rv cb M' cv K'):KQn w w' b K' M' OB:=by
 obtain⟨ys,k1,k2,k3,k4⟩:=hn
 refine⟨kown b ys rv cb cv,⟨ys,rv,cb,cv,k1,k2,fun k hk=>hk,fun k hk=>(k1.own k hk).2⟩,fun k hk=>?_,k4.mono fun k _ hk=>h3 k hk⟩
 rcases k3 k hk with h9|h9
 ·exact .inl (h3 k h9)
 ·exact .inr h9
theorem kq_release(i c a:Int)(h:KQ w b K M OB)(hI:Vg.Kn.Inv k K)(hk:k<=1000000)(hx:Vg.Kn.release K i c a=(K',r)):
  Calls Tryz.prog 115 #[.pointer (some ⟨b,0,none⟩),.int .i64 i,.int .i64 c,.int .i64 a] w fun e w'=>e=.returned (.int .i64 r)/\KQn w w' b K' M OB:=by
 obtain⟨xs,rv,cb,cv,h1,rfl,h3,h4⟩:=h
 refine(kern_release i c a h1 (fun j hj=>(hI _ (List.mem_map.2 ⟨_,List.getElem_mem hj,rfl⟩)).ok hk) hx).mono ?_
 rintro e w' ⟨rfl,hs⟩
 exact⟨rfl,KQn.of h3 hs⟩
theorem kq_run(h:KQ w b K M OB)(hI:Vg.Kn.Inv k K)(hx:Vg.Kn.run K M m=(K',M',(d1,d2,d3),is,r)):
  Calls Tryz.prog 59 #[.pointer (some ⟨b,0,none⟩),.int .i64 m] w fun e w'=>e=.returned (.tuple #[.agg #[.int .i64 d1,.int .i64 d2,.int .i64 d3],.bool is,.int .i64 r])/\KQn w w' b K' M' OB:=by
 obtain⟨xs,rv,cb,cv,h1,rfl,h3,h4⟩:=h
 refine(kern_run m h1 hI hx).mono ?_
 rintro e w' ⟨rfl,hs⟩
 exact⟨rfl,KQn.of h3 hs⟩
theorem kq_pick(h:KQ w b K M OB)(hr:Vg.Kn.best K M=r)(hm:max r 0=m)(his:decide (0<=r)=is):
  Calls Tryz.prog 102 #[.pointer (some ⟨b,0,none⟩)] w fun e w'=>e=.returned (.tuple #[.int .i64 m,.bool is])/\Vg.Grows w w':=by
 obtain⟨xs,rv,cb,cv,h1,rfl,h3,h4⟩:=h
 exact kern_pick h1 hr hm his
theorem kq_left(h:KQ w b K M OB)(hI:Vg.Kn.Inv k K)(hx:Vg.Kn.left K M=x):
  Calls Tryz.prog 157 #[.pointer (some ⟨b,0,none⟩)] w fun e w'=>e=.returned (.int .i64 x)/\Vg.Grows w w':=by
 obtain⟨xs,rv,cb,cv,h1,rfl,h3,h4⟩:=h
 exact kern_left h1 hI hx
theorem kq_new{T:List Vg.Tk}{sa:Option Addr}{sc:Nat}(hr:Vg.TK w sa sc T)(hn:T.length=n)(hx:Vg.Kn.check T=0)(hK:Vg.Kn.K0 T=K)(hM:Vg.Kn.M0 T=M):
  Calls Tryz.prog 22 #[.slice sa n sc] w fun e w'=>∃b OB,e=.returned (.tuple #[.pointer (some ⟨b,0,none⟩),.int .i64 0])/\KQ w' b K M OB/\(∀k,OB k->w.heap.size<=k)/\Vg.Grows w w':=by
 subst hK hM
 refine(kern_new hr hn hx).mono ?_
 rintro e w' ⟨b,xs,rv,cb,cv,rfl,h1,h2,h3,h4⟩
 exact⟨b,kown b xs rv cb cv,rfl,⟨xs,rv,cb,cv,h1,h2,fun k hk=>hk,fun k hk=>(h1.own k hk).2⟩,fun k hk=>Nat.le_trans h3 (h1.own k hk).1,h4⟩
end
end Go.Proofs.YtlkdkgefjipjmaaGreatDoor
namespace Vg
open Go
structure St where
 j:Int
 m:Int
 w:Int
 s:Int
 l:Int
structure Sj where
 t:Int
 a:Int
 r:Int
 d:Int
 l:Int
def St.zero:St:=⟨0,0,0,0,0⟩
def St.el(x:St):Nat->Int
 | 0=>x.j
 | 1=>x.m
 | 2=>x.w
 | 3=>x.s
 | _=>x.l
def St.OK(x:St):Prop:=timeB x.j=true/\timeB x.m=true/\timeB x.w=true/\timeB x.s=true/\timeB x.l=true/\x.m<=x.j/\x.w<=x.s/\(x.j=0->x.m=0/\x.w=0/\x.s=0/\x.l=0)
instance (x:St):Decidable x.OK:=by unfold St.OK;exact inferInstance
def St.ck(x:St):Int:=if x.OK then 0 else 2
theorem St.ck_ok{x:St}(h:x.OK):x.ck=0:=if_pos h
theorem St.ck_no{x:St}(h:¬x.OK):x.ck=2:=if_neg h
theorem St.el_bad{x:St}(k:Nat)(hk:k<5)(h:timeB (x.el k)=false):¬x.OK:=by
 rintro⟨h0,h1,h2,h3,h4,_⟩
 rcases(by omega:k=0\/k=1\/k=2\/k=3\/k=4)with rfl|rfl|rfl|rfl|rfl<;>simp_all [St.el]
theorem St.el_all{x:St}(h:∀i,i<5->timeB (x.el i)=true):timeB x.j=true/\timeB x.m=true/\timeB x.w=true/\timeB x.s=true/\timeB x.l=true:=
 ⟨h 0 (by omega),h 1 (by omega),h 2 (by omega),h 3 (by omega),h 4 (by omega)⟩
theorem St.OK.bd{x:St}(h:x.OK):0<=x.j/\x.j<=4503599627370496/\0<=x.m/\x.m<=x.j/\0<=x.w/\x.w<=x.s/\x.s<=4503599627370496/\0<=x.l/\x.l<=4503599627370496:=by
 obtain⟨h0,h1,h2,h3,h4,h5,h6,_⟩:=h
 have a0:=timeB_true.1 h0
 have a1:=timeB_true.1 h1
 have a2:=timeB_true.1 h2
 have a3:=timeB_true.1 h3
 have a4:=timeB_true.1 h4
 omega
def Sj.rb(x:Sj):Bool:=decide (0<=x.a)&&decide (x.a<=x.r)&&decide (x.r<=x.d)&&timeB x.d&&timeB x.l
theorem Sj.rb_true{x:Sj}:x.rb=true↔0<=x.a/\x.a<=x.r/\x.r<=x.d/\x.d<=4503599627370496/\0<=x.l/\x.l<=4503599627370496:=by
 unfold Sj.rb
 simp only[Bool.and_eq_true,decide_eq_true_eq,timeB_true]
 omega
def Sj.st(x:Sj):St:=⟨1,if x.l<x.d-x.a then 1 else 0,x.d-x.a,x.d-x.a,x.r-x.a⟩
theorem Sj.st_ok{x:Sj}(h:x.rb=true):x.st.OK:=by
 have:=Sj.rb_true.1 h
 have e:x.st.m=if x.l<x.d-x.a then 1 else 0:=rfl
 have e2:0<=x.st.m/\x.st.m<=1:=by rw[e];split<;>omega
 refine⟨timeB_true.2 ?_,timeB_true.2 ⟨e2.1,by omega⟩,timeB_true.2 ?_,timeB_true.2 ?_,timeB_true.2 ?_,?_,?_,?_⟩
 ·show(0:Int)<=1/\(1:Int)<=_;omega
 ·show 0<=x.d-x.a/\x.d-x.a<=_;omega
 ·show 0<=x.d-x.a/\x.d-x.a<=_;omega
 ·show 0<=x.r-x.a/\x.r-x.a<=_;omega
 ·exact e2.2
 ·exact Int.le_refl _
 ·intro h;exact absurd (show(1:Int)=0 from h) (by omega)
def St.jo(x y:St):St:=⟨x.j+y.j,x.m+y.m,max x.w y.w,x.s+y.s,max x.l y.l⟩
def St.fit(x y:St):Bool:=decide (x.j+y.j<=4503599627370496)&&decide (x.s+y.s<=4503599627370496)
def St.add(x:St)(y:Sj):St×Int:=if x.OK/\y.rb=true then(if x.fit y.st=true then(x.jo y.st,0)else(x,10))else(St.zero,2)
end Vg
namespace Go.Proofs.YtlkdkgefjipjmaaGreatDoor
open Go.ChangeShapes Go.WideShapes Go.ChangeAt Go.RowKit
abbrev stV(x:Vg.St):Value:=.agg #[.int .i64 x.j,.int .i64 x.m,.int .i64 x.w,.int .i64 x.s,.int .i64 x.l]
abbrev sjV(x:Vg.Sj):Value:=.agg #[.int .i64 x.t,.int .i64 x.a,.int .i64 x.r,.int .i64 x.d,.int .i64 x.l]
theorem stime_any (t : Int) (w : World) :
  Calls Tryz.prog 205 #[.int .i64 t] w fun e w' => e = .returned (.bool (Vg.timeB t)) /\ w = w' := by
 go_enter Tryz.func205, Tryz.ntmps205
 go_wp2
 all_goals go_ret
 all_goals exact ⟨ret_bool (by first | (simp [Vg.timeB, *]; done) | (simp [Vg.timeB]; omega)), rfl⟩
theorem stats_check(x:Vg.St)(w:World):Calls Tryz.prog 167 #[stV x] w fun e w'=>e=.returned (.int .i64 x.ck)/\Vg.Grows w w':=by
 obtain⟨j,m,wo,s,l⟩:=x
 have d0:∀w,(Instr.index 356 (.agg #[.int .i64 j,.int .i64 m,.int .i64 wo,.int .i64 s,.int .i64 l]) (.int .i64 0)).run Tryz.prog w=.ok (.int .i64 j) w:=fun _=>by kernel_rfl
 have d1:∀w,(Instr.index 356 (.agg #[.int .i64 j,.int .i64 m,.int .i64 wo,.int .i64 s,.int .i64 l]) (.int .i64 1)).run Tryz.prog w=.ok (.int .i64 m) w:=fun _=>by kernel_rfl
 have d2:∀w,(Instr.index 356 (.agg #[.int .i64 j,.int .i64 m,.int .i64 wo,.int .i64 s,.int .i64 l]) (.int .i64 2)).run Tryz.prog w=.ok (.int .i64 wo) w:=fun _=>by kernel_rfl
 have d3:∀w,(Instr.index 356 (.agg #[.int .i64 j,.int .i64 m,.int .i64 wo,.int .i64 s,.int .i64 l]) (.int .i64 3)).run Tryz.prog w=.ok (.int .i64 s) w:=fun _=>by kernel_rfl
 have d4:∀w,(Instr.index 356 (.agg #[.int .i64 j,.int .i64 m,.int .i64 wo,.int .i64 s,.int .i64 l]) (.int .i64 4)).run Tryz.prog w=.ok (.int .i64 l) w:=fun _=>by kernel_rfl
 obtain⟨c,hc⟩:∃c,Vg.St.ck ⟨j,m,wo,s,l⟩=c:=⟨_,rfl⟩
 rw[hc]
 have HC:=h_ hc
 clear hc
 go_enter Tryz.func167,Tryz.ntmps167
 go_wp2
 go_loopw [19] (fun i wr=>∃k:Nat,k<=5/\i=.int .i64 k/\(∀i,i<k->Vg.timeB (Vg.St.el ⟨j,m,wo,s,l⟩ i)=true)/\wr=(w.alloc (.cells #[.int .i64 j,.int .i64 m,.int .i64 wo,.int .i64 s,.int .i64 l] 93)).alloc (.cells #[.int .i64 j,.int .i64 m,.int .i64 wo,.int .i64 s,.int .i64 l] 356)) (fun i _=>5-(intOf i).toNat)
 case atStart=>exact⟨0,by omega,rfl,fun i hi=>by omega,rfl⟩
 case round=>
  obtain⟨k,hk,rfl,hall,rfl⟩:=hrel
  have HA:=h_ hall
  clear hall
  by_cases hlt:k<5
  ·obtain⟨v,hv⟩:∃v,Vg.St.el ⟨j,m,wo,s,l⟩ k=v:=⟨_,rfl⟩
   cases ht:Vg.timeB v with
   | false=>
    have e:c=2:=by rw[<-HC.out];exact Vg.St.ck_no (Vg.St.el_bad k hlt (by rw[hv];exact ht))
    have HE:=h_ e
    clear e
    rcases(by omega:k=0\/k=1\/k=2\/k=3\/k=4)with rfl|rfl|rfl|rfl|rfl<;>simp only[Vg.St.el]at hv<;>subst hv
    all_goals
     clear hlt
     go_wp2_with ((go_at_call 205;refine(stime_any _ _).mono ?_;rintro e w' ⟨rfl,rfl⟩))
     go_ret
     exact⟨by rw[HE.out];rfl,Vg.gro⟩
   | true=>
    have hn:∀i,i<k+1->Vg.timeB (Vg.St.el ⟨j,m,wo,s,l⟩ i)=true:=fun i hi=>by
     by_cases h:i=k
     ·rw[h,hv];exact ht
     ·exact HA.out i (by omega)
    have HN:=h_ hn
    clear hn
    rcases(by omega:k=0\/k=1\/k=2\/k=3\/k=4)with rfl|rfl|rfl|rfl|rfl<;>simp only[Vg.St.el]at hv<;>subst hv
    ·clear hlt
     go_wp2_with ((go_at_call 205;refine(stime_any _ _).mono ?_;rintro e w' ⟨rfl,rfl⟩))
     exact⟨⟨1,by omega,rfl,HN.out,by trivial⟩,by simp[intOf]⟩
    ·clear hlt
     go_wp2_with ((go_at_call 205;refine(stime_any _ _).mono ?_;rintro e w' ⟨rfl,rfl⟩))
     exact⟨⟨2,by omega,rfl,HN.out,by trivial⟩,by simp[intOf]⟩
    ·clear hlt
     go_wp2_with ((go_at_call 205;refine(stime_any _ _).mono ?_;rintro e w' ⟨rfl,rfl⟩))
     exact⟨⟨3,by omega,rfl,HN.out,by trivial⟩,by simp[intOf]⟩
    ·clear hlt
     go_wp2_with ((go_at_call 205;refine(stime_any _ _).mono ?_;rintro e w' ⟨rfl,rfl⟩))
     exact⟨⟨4,by omega,rfl,HN.out,by trivial⟩,by simp[intOf]⟩
    ·clear hlt
     go_wp2_with ((go_at_call 205;refine(stime_any _ _).mono ?_;rintro e w' ⟨rfl,rfl⟩))
     exact⟨⟨5,by omega,rfl,HN.out,by trivial⟩,by simp[intOf]⟩
  ·obtain rfl:k=5:=by omega
   obtain⟨t0,t1,t2,t3,t4⟩:=Vg.St.el_all HA.out
   have a1:=Vg.timeB_true.1 t1
   have T:Hid (Vg.timeB j=true/\Vg.timeB m=true/\Vg.timeB wo=true/\Vg.timeB s=true/\Vg.timeB l=true):=h_ ⟨t0,t1,t2,t3,t4⟩
   clear t0 t1 t2 t3 t4 hlt hk
   simp only[]at a1
   by_cases q1:j<m
   ·have e:c=2:=by rw[<-HC.out];exact Vg.St.ck_no (fun h=>by have:=h.2.2.2.2.2.1;simp only[]at this;omega)
    have HE:=h_ e
    clear e
    go_wp2
    go_ret
    exact⟨by rw[HE.out];rfl,Vg.gro⟩
   ·by_cases q2:s<wo
    ·have e:c=2:=by rw[<-HC.out];exact Vg.St.ck_no (fun h=>by have:=h.2.2.2.2.2.2.1;simp only[]at this;omega)
     have HE:=h_ e
     clear e
     go_wp2
     go_ret
     exact⟨by rw[HE.out];rfl,Vg.gro⟩
    ·by_cases q3:j=0
     ·subst q3
      obtain rfl:m=0:=by omega
      by_cases q4:wo=0/\s=0/\l=0
      ·obtain⟨rfl,rfl,rfl⟩:=q4
       have e:c=0:=by rw[<-HC.out];rfl
       have HE:=h_ e
       clear e
       go_wp2
       go_ret
       exact⟨by rw[HE.out];rfl,Vg.gro⟩
      ·have e:c=2:=by rw[<-HC.out];exact Vg.St.ck_no (fun h=>by have:=h.2.2.2.2.2.2.2 rfl;simp only[]at this;omega)
       have HE:=h_ e
       clear e
       go_wp2
       all_goals go_ret
       all_goals exact⟨by rw[HE.out];rfl,Vg.gro⟩
     ·have e:c=0:=by rw[<-HC.out];exact Vg.St.ck_ok ⟨T.out.1,T.out.2.1,T.out.2.2.1,T.out.2.2.2.1,T.out.2.2.2.2,by simp only[];omega,by simp only[];omega,fun h=>absurd h q3⟩
      have HE:=h_ e
      clear e
      have q3b:(j==0)=false:=by simp[q3]
      go_wp2
      go_ret
      exact⟨by rw[HE.out];rfl,Vg.gro⟩
end Go.Proofs.YtlkdkgefjipjmaaGreatDoor
namespace Go.Proofs.YtlkdkgefjipjmaaGreatDoor
open Go.ChangeShapes Go.WideShapes Go.ChangeAt Go.RowKit
theorem stats_right(x:Vg.Sj)(w:World):Calls Tryz.prog 168 #[sjV x] w fun e w'=>e=.returned (.bool x.rb)/\Vg.Grows w w':=by
 obtain⟨t,a,r,d,l⟩:=x
 obtain⟨c,hc⟩:∃c,Vg.Sj.rb ⟨t,a,r,d,l⟩=c:=⟨_,rfl⟩
 rw[hc]
 have HC:=h_ hc
 clear hc
 have hc0:∀(p:Bool),Vg.Sj.rb ⟨t,a,r,d,l⟩=p->c=p:=fun p h=>by rw[<-HC.out];exact h
 have HC0:=h_ hc0
 clear hc0
 by_cases q1:0<=a
 ·by_cases q2:a<=r
  ·by_cases q3:r<=d
   ·cases q4:Vg.timeB d with
    | true=>
     cases q5:Vg.timeB l with
     | true=>
      have e:=HC0.out true (by unfold Vg.Sj.rb;simp[q1,q2,q3,q4,q5])
      have HE:=h_ e
      clear e
      go_enter Tryz.func168,Tryz.ntmps168
      go_wp2_with ((go_at_call 205;refine(stime_any _ _).mono ?_;rintro e w' ⟨rfl,rfl⟩))
      go_ret
      exact⟨by rw[HE.out];rfl,Vg.gro⟩
     | false=>
      have e:=HC0.out false (by unfold Vg.Sj.rb;simp[q1,q2,q3,q4,q5])
      have HE:=h_ e
      clear e
      go_enter Tryz.func168,Tryz.ntmps168
      go_wp2_with ((go_at_call 205;refine(stime_any _ _).mono ?_;rintro e w' ⟨rfl,rfl⟩))
      go_ret
      exact⟨by rw[HE.out];rfl,Vg.gro⟩
    | false=>
     have e:=HC0.out false (by unfold Vg.Sj.rb;simp[q1,q2,q3,q4])
     have HE:=h_ e
     clear e
     go_enter Tryz.func168,Tryz.ntmps168
     go_wp2_with ((go_at_call 205;refine(stime_any _ _).mono ?_;rintro e w' ⟨rfl,rfl⟩))
     go_ret
     exact⟨by rw[HE.out];rfl,Vg.gro⟩
   ·have e:=HC0.out false (by unfold Vg.Sj.rb;simp[q3])
    have HE:=h_ e
    clear e
    go_enter Tryz.func168,Tryz.ntmps168
    go_wp2
    go_ret
    exact⟨by rw[HE.out];rfl,Vg.gro⟩
  ·have e:=HC0.out false (by unfold Vg.Sj.rb;simp[q2])
   have HE:=h_ e
   clear e
   go_enter Tryz.func168,Tryz.ntmps168
   go_wp2
   go_ret
   exact⟨by rw[HE.out];rfl,Vg.gro⟩
 ·have e:=HC0.out false (by unfold Vg.Sj.rb;simp[q1])
  have HE:=h_ e
  clear e
  go_enter Tryz.func168,Tryz.ntmps168
  go_wp2
  go_ret
  exact⟨by rw[HE.out];rfl,Vg.gro⟩
theorem stats_of(x:Vg.Sj)(w:World)(h:x.rb=true):Calls Tryz.prog 170 #[sjV x] w fun e w'=>e=.returned (stV x.st)/\Vg.Grows w w':=by
 have hb:=Vg.Sj.rb_true.1 h
 obtain⟨t,a,r,d,l⟩:=x
 simp only[]at hb
 clear h
 by_cases q:l<d-a
 ·have e:Vg.Sj.st ⟨t,a,r,d,l⟩=⟨1,1,d-a,d-a,r-a⟩:=by unfold Vg.Sj.st;simp only[if_pos q]
  rw[e]
  clear e
  go_enter Tryz.func170,Tryz.ntmps170
  go_wp2
  go_returns
  exact⟨rfl,Vg.gro⟩
 ·have e:Vg.Sj.st ⟨t,a,r,d,l⟩=⟨1,0,d-a,d-a,r-a⟩:=by unfold Vg.Sj.st;simp only[if_neg q]
  rw[e]
  clear e
  go_enter Tryz.func170,Tryz.ntmps170
  go_wp2
  go_returns
  exact⟨rfl,Vg.gro⟩
theorem stats_jo(x y:Vg.St)(w:World)(hx:x.OK)(hy:y.OK):Calls Tryz.prog 169 #[stV x,stV y] w fun e w'=>e=.returned (.tuple #[stV (x.jo y),.bool (x.fit y)])/\Vg.Grows w w':=by
 have a:=hx.bd
 have b:=hy.bd
 obtain⟨j,m,wo,s,l⟩:=x
 obtain⟨j',m',wo',s',l'⟩:=y
 simp only[]at a b
 clear hx hy
 obtain⟨f,hf⟩:∃f,Vg.St.fit ⟨j,m,wo,s,l⟩ ⟨j',m',wo',s',l'⟩=f:=⟨_,rfl⟩
 rw[hf]
 obtain⟨mw,hmw⟩:∃mw,max wo wo'=mw:=⟨_,rfl⟩
 obtain⟨ml,hml⟩:∃ml,max l l'=ml:=⟨_,rfl⟩
 have e:Vg.St.jo ⟨j,m,wo,s,l⟩ ⟨j',m',wo',s',l'⟩=⟨j+j',m+m',mw,s+s',ml⟩:=by unfold Vg.St.jo;simp only[hmw,hml]
 rw[e]
 clear e
 have hf2:f=(decide (j+j'<=4503599627370496)&&decide (s+s'<=4503599627370496)):=by rw[<-hf];rfl
 have HF:=h_ hf2
 clear hf hf2
 have c1:(wo<wo'/\mw=wo')\/(¬wo<wo'/\mw=wo):=by omega
 have c2:(l<l'/\ml=l')\/(¬l<l'/\ml=l):=by omega
 have c3:decide (j+j'<=4503599627370496)=true\/decide (j+j'<=4503599627370496)=false:=by cases decide (j+j'<=4503599627370496)<;>simp
 clear hmw hml
 rcases c3 with q3|q3<;>rcases c1 with⟨q1,rfl⟩|⟨q1,rfl⟩<;>rcases c2 with⟨q2,rfl⟩|⟨q2,rfl⟩
 all_goals
  go_enter Tryz.func169,Tryz.ntmps169
  go_wp2
  go_region
 all_goals
  go_wp2
  go_region
 all_goals
  go_wp2
  go_returns
  exact⟨by rw[HF.out];simp[*],Vg.gro⟩
end Go.Proofs.YtlkdkgefjipjmaaGreatDoor
namespace Vg
open Go
end Vg
namespace Go.Proofs.YtlkdkgefjipjmaaGreatDoor
open Go.ChangeShapes Go.WideShapes Go.ChangeAt Go.RowKit
set_option maxHeartbeats 4000000 in
theorem stats_add(x:Vg.St)(y:Vg.Sj)(w:World):Calls Tryz.prog 105 #[stV x,sjV y] w fun e w'=>e=.returned (.tuple #[stV (x.add y).1,.int .i64 (x.add y).2])/\Vg.Grows w w':=by
 by_cases h1:x.OK
 ·cases h2:y.rb with
  | true=>
   have hck:=Vg.St.ck_ok h1
   have hy:=Vg.Sj.st_ok h2
   cases h3:x.fit y.st with
   | true=>
    have e:x.add y=(x.jo y.st,0):=by unfold Vg.St.add;rw[if_pos ⟨h1,h2⟩,if_pos h3]
    rw[e]
    have H_e:=h_ e;have H_hck:=h_ hck;have H_h1:=h_ h1;have H_h2:=h_ h2;have H_h3:=h_ h3;have H_hy:=h_ hy;clear e hck h1 h2 h3 hy
    go_enter Tryz.func105,Tryz.ntmps105
    go_wp2_with (first|(go_at_call 167;(with_reducible refine(stats_check x _).mono ?_);rintro e w1 ⟨rfl,xa,na,rfl⟩;rw[H_hck.out])|(go_at_call 168;(with_reducible refine(stats_right y _).mono ?_);rintro e w1 ⟨rfl,xb,nb,rfl⟩;rw[H_h2.out]))
    go_region_held3 (fun w'=>Vg.Grows w w'/\w.heap.size+2<w'.heap.size/\w'.cell? ⟨w.heap.size,0,none⟩=some (.int .i64 x.j)/\w'.cell? ⟨w.heap.size,1,none⟩=some (.int .i64 x.m)/\w'.cell? ⟨w.heap.size,2,none⟩=some (.int .i64 x.w)/\w'.cell? ⟨w.heap.size,3,none⟩=some (.int .i64 x.s)/\w'.cell? ⟨w.heap.size,4,none⟩=some (.int .i64 x.l)/\w'.cell? ⟨w.heap.size+1,0,none⟩=some (.int .i64 y.t)/\w'.cell? ⟨w.heap.size+1,1,none⟩=some (.int .i64 y.a)/\w'.cell? ⟨w.heap.size+1,2,none⟩=some (.int .i64 y.r)/\w'.cell? ⟨w.heap.size+1,3,none⟩=some (.int .i64 y.d)/\w'.cell? ⟨w.heap.size+1,4,none⟩=some (.int .i64 y.l)/\w'.cell? ⟨w.heap.size+1+1,0,none⟩=some (.int .i64 0)/\w'.frozen? ⟨w.heap.size+1+1,0,none⟩=false)
     ((go_split_ands;(try dsimp only);refine⟨Vg.gro,?_⟩;go_simp))
     (first|(go_at_call 170;(with_reducible refine(stats_of y _ H_h2.out).mono ?_);rintro e w1 ⟨rfl,xc,nc,rfl⟩)|(go_at_call 169;(with_reducible refine(stats_jo x y.st _ H_h1.out H_hy.out).mono ?_);rintro e w1 ⟨rfl,xd,nd,rfl⟩;rw[H_h3.out]))
    all_goals go_wp2
    all_goals go_returns
    all_goals exact⟨rfl,Vg.gro⟩
   | false=>
    have e:x.add y=(x,10):=by unfold Vg.St.add;rw[if_pos ⟨h1,h2⟩,if_neg (by rw[h3];simp)]
    rw[e]
    have H_e:=h_ e;have H_hck:=h_ hck;have H_h1:=h_ h1;have H_h2:=h_ h2;have H_h3:=h_ h3;have H_hy:=h_ hy;clear e hck h1 h2 h3 hy
    go_enter Tryz.func105,Tryz.ntmps105
    go_wp2_with (first|(go_at_call 167;(with_reducible refine(stats_check x _).mono ?_);rintro e w1 ⟨rfl,xa,na,rfl⟩;rw[H_hck.out])|(go_at_call 168;(with_reducible refine(stats_right y _).mono ?_);rintro e w1 ⟨rfl,xb,nb,rfl⟩;rw[H_h2.out]))
    go_region_held3 (fun w'=>Vg.Grows w w'/\w.heap.size+2<w'.heap.size/\w'.cell? ⟨w.heap.size,0,none⟩=some (.int .i64 x.j)/\w'.cell? ⟨w.heap.size,1,none⟩=some (.int .i64 x.m)/\w'.cell? ⟨w.heap.size,2,none⟩=some (.int .i64 x.w)/\w'.cell? ⟨w.heap.size,3,none⟩=some (.int .i64 x.s)/\w'.cell? ⟨w.heap.size,4,none⟩=some (.int .i64 x.l)/\w'.cell? ⟨w.heap.size+1,0,none⟩=some (.int .i64 y.t)/\w'.cell? ⟨w.heap.size+1,1,none⟩=some (.int .i64 y.a)/\w'.cell? ⟨w.heap.size+1,2,none⟩=some (.int .i64 y.r)/\w'.cell? ⟨w.heap.size+1,3,none⟩=some (.int .i64 y.d)/\w'.cell? ⟨w.heap.size+1,4,none⟩=some (.int .i64 y.l)/\w'.cell? ⟨w.heap.size+1+1,0,none⟩=some (.int .i64 0)/\w'.frozen? ⟨w.heap.size+1+1,0,none⟩=false)
     ((go_split_ands;(try dsimp only);refine⟨Vg.gro,?_⟩;go_simp))
     (first|(go_at_call 170;(with_reducible refine(stats_of y _ H_h2.out).mono ?_);rintro e w1 ⟨rfl,xc,nc,rfl⟩)|(go_at_call 169;(with_reducible refine(stats_jo x y.st _ H_h1.out H_hy.out).mono ?_);rintro e w1 ⟨rfl,xd,nd,rfl⟩;rw[H_h3.out]))
    all_goals go_wp2
    all_goals go_returns
    all_goals exact⟨rfl,Vg.gro⟩
  | false=>
   have hck:=Vg.St.ck_ok h1
   have e:x.add y=(⟨0,0,0,0,0⟩,2):=by unfold Vg.St.add;rw[if_neg (by rw[h2];simp)];rfl
   rw[e]
   have H_e:=h_ e;have H_hck:=h_ hck;have H_h1:=h_ h1;have H_h2:=h_ h2;clear e hck h1 h2
   go_enter Tryz.func105,Tryz.ntmps105
   go_wp2_with (first|(go_at_call 167;(with_reducible refine(stats_check x _).mono ?_);rintro e w1 ⟨rfl,xa,na,rfl⟩;rw[H_hck.out])|(go_at_call 168;(with_reducible refine(stats_right y _).mono ?_);rintro e w1 ⟨rfl,xb,nb,rfl⟩;rw[H_h2.out]))
   go_returns
   exact⟨rfl,Vg.gro⟩
 ·have hck:=Vg.St.ck_no h1
  have e:x.add y=(⟨0,0,0,0,0⟩,2):=by unfold Vg.St.add;rw[if_neg (fun h=>h1 h.1)];rfl
  rw[e]
  have H_e:=h_ e;have H_hck:=h_ hck;have H_h1:=h_ h1;clear e hck h1
  go_enter Tryz.func105,Tryz.ntmps105
  go_wp2_with ((go_at_call 167;(with_reducible refine(stats_check x _).mono ?_);rintro e w1 ⟨rfl,xa,na,rfl⟩;rw[H_hck.out]))
  go_returns
  exact⟨rfl,Vg.gro⟩
end Go.Proofs.YtlkdkgefjipjmaaGreatDoor
namespace Vg
open Go
structure Bk where
 co:Int
 wh:List Int
 st:St
structure Mrk where
 t:Int
 k:Int
 n:Int
 a:Int
def mkcells:List Mrk->List Value
 | []=>[]
 | x::l=>.int .i64 x.t :: .int .u8 x.k :: .int .i64 x.n :: .int .i64 x.a::mkcells l
theorem mkcells_append:∀l m:List Mrk,mkcells (l++m)=mkcells l++mkcells m
 | [],m=>rfl
 | x::l,m=>by simp[mkcells,mkcells_append l m]
theorem mkcells_ones:∀(l:List Mrk),∀u∈mkcells l,u.oneCell'=true
 | [],u,h=>by simp[mkcells]at h
 | x::l,u,h=>by
  simp only[mkcells,List.mem_cons]at h
  rcases h with rfl|rfl|rfl|rfl|h
  ·rfl
  ·rfl
  ·rfl
  ·rfl
  ·exact mkcells_ones l u h
def bkcells:List (Bk×Value)->List Value
 | []=>[]
 | x::l=>.int .i64 x.1.co::x.2 :: .int .i64 x.1.st.j :: .int .i64 x.1.st.m :: .int .i64 x.1.st.w :: .int .i64 x.1.st.s :: .int .i64 x.1.st.l::bkcells l
theorem bkcells_length:∀l:List (Bk×Value),(bkcells l).length=l.length*7
 | []=>rfl
 | x::l=>by simp[bkcells,bkcells_length l];omega
theorem bkcells_get:∀(l:List (Bk×Value))(k:Nat)(h:k<l.length),(bkcells l)[k*7]? = some (.int .i64 l[k].1.co)/\(bkcells l)[k*7+1]? = some l[k].2/\(bkcells l)[k*7+2]? = some (.int .i64 l[k].1.st.j)/\(bkcells l)[k*7+3]? = some (.int .i64 l[k].1.st.m)/\(bkcells l)[k*7+4]? = some (.int .i64 l[k].1.st.w)/\(bkcells l)[k*7+5]? = some (.int .i64 l[k].1.st.s)/\(bkcells l)[k*7+6]? = some (.int .i64 l[k].1.st.l)
 | [],k,h=>by simp at h
 | x::l,0,_=>by simp[bkcells]
 | x::l,k+1,h=>by
  have:=bkcells_get l k (by simpa using h)
  rw[show(k+1)*7=k*7+1+1+1+1+1+1+1 from by omega]
  simpa[bkcells]using this
theorem bkcells_co:∀(l:List (Bk×Value))(k:Nat)(h:k<l.length)(c:Int),(bkcells l).set (k*7) (.int .i64 c)=bkcells (l.set k (⟨c,l[k].1.wh,l[k].1.st⟩,l[k].2))
 | [],k,h,_=>by simp at h
 | x::l,0,_,c=>by simp[bkcells]
 | x::l,k+1,h,c=>by
  have:=bkcells_co l k (by simpa using h) c
  rw[show(k+1)*7=k*7+1+1+1+1+1+1+1 from by omega]
  simpa[bkcells]using this
theorem bkcells_wh:∀(l:List (Bk×Value))(k:Nat)(h:k<l.length)(wh:List Int)(v:Value),(bkcells l).set (k*7+1) v=bkcells (l.set k (⟨l[k].1.co,wh,l[k].1.st⟩,v))
 | [],k,h,_,_=>by simp at h
 | x::l,0,_,wh,v=>by simp[bkcells]
 | x::l,k+1,h,wh,v=>by
  have:=bkcells_wh l k (by simpa using h) wh v
  rw[show(k+1)*7+1=k*7+1+1+1+1+1+1+1+1 from by omega]
  simpa[bkcells]using this
theorem bkcells_st:∀(l:List (Bk×Value))(k:Nat)(h:k<l.length)(s:St),(((((bkcells l).set (k*7+2) (.int .i64 s.j)).set (k*7+3) (.int .i64 s.m)).set (k*7+4) (.int .i64 s.w)).set (k*7+5) (.int .i64 s.s)).set (k*7+6) (.int .i64 s.l)=bkcells (l.set k (⟨l[k].1.co,l[k].1.wh,s⟩,l[k].2))
 | [],k,h,_=>by simp at h
 | x::l,0,_,s=>by simp[bkcells]
 | x::l,k+1,h,s=>by
  have:=bkcells_st l k (by simpa using h) s
  rw[show(k+1)*7=k*7+1+1+1+1+1+1+1 from by omega]
  simpa[bkcells]using this
structure Ad where
 mn:Int
 mx:Int
 sw:Int
 T:List Tk
 tv:Value
 lv:Value
 hv:Value
 sb:Nat
 kb:Nat
 qb:Nat
 tb:Nat
 gb:Nat
 gm:Nat
 nl:Nat
 Q:List Wq
 lb:Nat
structure Xp where
 t:Int
 t0:Int
 V:Int->Option Int
 P:Int->Option Int
 K:List Kt
 M:List Mx
 B:List Bk
 rk:Int
 rn:Int
 ms:List Mrk
 idle:Int
theorem TK.touch {t:Nat->Prop} {w w':World} {sa:Option Addr} {c n:Nat} {T:List Tk} (h:TK w sa c T) (ht:Touch t w w') (hv:∀k,(Value.slice sa n c).ownBlock=some k->¬t k):TK w' sa c T:=
 ⟨h.1,h.2.1,fun k hk=>by
  obtain⟨g,off,e,hlt,hc⟩:=h.2.2 k hk
  exact⟨g,off,e,Nat.lt_of_lt_of_le hlt ht.size,fun j hj=>(World.cell?_of_block (w:=w) (a:=⟨g,off+k*10+j,none⟩) (ht.block g hlt (hv g (by rw[e];rfl)))).trans (hc j hj)⟩⟩
end Vg
namespace Go.Proofs.YtlkdkgefjipjmaaGreatDoor
open Go.ChangeShapes Go.WideShapes Go.ChangeAt Go.RowKit
abbrev exC(A:Vg.Ad)(s:Vg.Xp)(mv:Value):Obj:=
 .cells #[.int .i64 A.mn,.int .i64 A.mx,.int .i64 A.sw,A.tv,A.lv,A.hv,.pointer (some ⟨A.sb,0,none⟩),.pointer (some ⟨A.kb,0,none⟩),.pointer (some ⟨A.qb,0,none⟩),.pointer (some ⟨A.tb,0,none⟩),.slice (some ⟨A.gb,0,none⟩) A.T.length A.T.length,.slice (some ⟨A.gm,0,none⟩) A.nl A.nl,.int .u8 s.rk,.int .i64 s.rn,mv,.int .i64 0,.int .i64 s.idle] 84
structure EX(w:World)(xb lo:Nat)(A:Vg.Ad)(s:Vg.Xp)(N k:Nat)(mv:Value)(ws:List Value)(Bs:List Vg.Bp)(ql:Int)(ow:Nat->Nat):Prop where
 tab:Vg.blk w xb=some (exC A s mv)
 sx:∃fr,SX w A.sb (fun j=>ow j=2) A.mn A.mx s.t s.t0 s.V s.P fr N
 kq:KQ w A.kb s.K s.M (fun j=>ow j=3)
 ki:Vg.Kn.Inv k s.K
 qz:QZ w A.qb A.nl ql (fun j=>ow j=4)
 ql:ql<=s.t
 bs:BS w A.tb A.lb Bs A.Q (fun j=>ow j=5)
 bi:Vg.Bo.Inv 0 Bs A.Q
 bk:Vg.blk w A.gb=some (.cells (Vg.bkcells (s.B.zip ws)).toArray 95)
 bl:s.B.length=A.T.length/\ws.length=A.T.length
 wq:∀i (h:i<s.B.length)(h':i<ws.length),Vg.Que w 1 2 1 ws[i] s.B[i].wh.length (Vg.ics s.B[i].wh)/\∀j,ws[i].ownBlock=some j->ow j=20+i
 mq:Vg.Que w 1 60 4 mv s.ms.length (Vg.mkcells s.ms)
 mo:∀j,mv.ownBlock=some j->ow j=8
 gm:Vg.blk w A.gm=some (.cells (List.replicate A.nl (Value.bool false)).toArray 4)
 tk:∃ta tc,A.tv=.slice ta A.T.length tc/\Vg.TK w ta tc A.T/\∀j,A.tv.ownBlock=some j->ow j=10
 ox:ow xb=1
 og:ow A.gb=6
 om:ow A.gm=9
 hw:∀j,ow j≠0->lo<=j/\j<w.heap.size
def ES(w:World)(xb lo:Nat)(A:Vg.Ad)(s:Vg.Xp)(N k:Nat)(OB:Nat->Prop):Prop:=
 ∃mv ws Bs ql ow,EX w xb lo A s N k mv ws Bs ql ow/\(∀j,ow j≠0->OB j)/\∀j,OB j->lo<=j/\j<w.heap.size
def ESn(w w':World)(xb lo:Nat)(A:Vg.Ad)(s':Vg.Xp)(N' k':Nat)(OB:Nat->Prop):Prop:=
 ∃OB',ES w' xb lo A s' N' k' OB'/\(∀j,OB' j->OB j\/w.heap.size<=j)/\Vg.Touch OB w w'
section
variable {w w' w0 w2:World}{xb lo N k N' k':Nat}{A:Vg.Ad}{s s':Vg.Xp}{mv:Value}{ws:List Value}{Bs:List Vg.Bp}{ql:Int}{ow:Nat->Nat}{OB:Nat->Prop}
theorem EX.touch{t:Nat->Prop}(h:EX w xb lo A s N k mv ws Bs ql ow)(ht:Vg.Touch t w w')(hv:∀j,ow j≠0->¬t j):EX w' xb lo A s N k mv ws Bs ql ow:=by
 have hl:∀l,l≠0->∀j,ow j=l->¬t j:=fun l hl j hj=>hv j (by rw[hj];exact hl)
 obtain⟨fr,hsx⟩:=h.sx
 obtain⟨ta,tc,hta,htk,hto⟩:=h.tk
 exact⟨(ht.block xb (Vg.lt_of h.tab) (hl 1 (by omega) _ h.ox)).trans h.tab,⟨fr,hsx.touch ht (hl 2 (by omega))⟩,h.kq.touch ht (hl 3 (by omega)),h.ki,h.qz.touch ht (hl 4 (by omega)),h.ql,h.bs.touch ht (hl 5 (by omega)),h.bi,
  (ht.block A.gb (Vg.lt_of h.bk) (hl 6 (by omega) _ h.og)).trans h.bk,h.bl,fun i hi hi'=>⟨(h.wq i hi hi').1.kept fun j hj=>ht.block j ((h.wq i hi hi').1.lt j hj).2 (hl (20+i) (by omega) _ ((h.wq i hi hi').2 j hj)),(h.wq i hi hi').2⟩,
  h.mq.kept fun j hj=>ht.block j (h.mq.lt j hj).2 (hl 8 (by omega) _ (h.mo j hj)),h.mo,(ht.block A.gm (Vg.lt_of h.gm) (hl 9 (by omega) _ h.om)).trans h.gm,
  ⟨ta,tc,hta,htk.touch (n:=A.T.length) ht fun j hj=>hl 10 (by omega) _ (hto j (by rw[hta];exact hj)),hto⟩,h.ox,h.og,h.om,fun j hj=>⟨(h.hw j hj).1,Nat.lt_of_lt_of_le (h.hw j hj).2 ht.size⟩⟩
theorem ES.touch{t:Nat->Prop}(h:ES w xb lo A s N k OB)(ht:Vg.Touch t w w')(hv:∀j,OB j->¬t j):ES w' xb lo A s N k OB:=by
 obtain⟨mv,ws,Bs,ql,ow,h1,h2,h3⟩:=h
 exact⟨mv,ws,Bs,ql,ow,h1.touch ht fun j hj=>hv j (h2 j hj),h2,fun j hj=>⟨(h3 j hj).1,Nat.lt_of_lt_of_le (h3 j hj).2 ht.size⟩⟩
theorem ES.grows(h:ES w xb lo A s N k OB)(hg:Vg.Grows w w'):ES w' xb lo A s N k OB:=h.touch (t:=fun _=>False) (Vg.Touch.of_grows hg) fun _ _ hh=>hh
theorem ESn.refl(h:ES w xb lo A s N k OB):ESn w w xb lo A s N k OB:=⟨OB,h,fun j hj=>.inl hj,Vg.Touch.refl _ _⟩
theorem ESn.grows(h:ESn w0 w xb lo A s N k OB)(hg:Vg.Grows w w'):ESn w0 w' xb lo A s N k OB:=by
 obtain⟨OB',h1,h2,h3⟩:=h
 exact⟨OB',h1.grows hg,h2,h3.trans (Vg.Touch.of_grows hg)⟩
theorem ESn.pre(hg:Vg.Grows w0 w)(h:ESn w w' xb lo A s N k OB):ESn w0 w' xb lo A s N k OB:=by
 obtain⟨OB',h1,h2,h3⟩:=h
 exact⟨OB',h1,fun j hj=>(h2 j hj).imp id fun hh=>Nat.le_trans hg.size hh,(Vg.Touch.of_grows hg).trans h3⟩
theorem ESn.of{mv':Value}{ws':List Value}{Bs':List Vg.Bp}{ql':Int}{ow':Nat->Nat}(hO:∀j,ow j≠0->OB j)(h1:EX w' xb lo A s' N' k' mv' ws' Bs' ql' ow')(h2:∀j,ow' j≠0->ow j≠0\/w.heap.size<=j)(ht:Vg.Touch (fun j=>ow j≠0) w w'):ESn w w' xb lo A s' N' k' OB:=
 ⟨fun j=>ow' j≠0,⟨mv',ws',Bs',ql',ow',h1,fun j hj=>hj,h1.hw⟩,fun j hj=>(h2 j hj).imp (hO j) id,ht.mono fun j _ hj=>hO j hj⟩
end
end Go.Proofs.YtlkdkgefjipjmaaGreatDoor
