/- KernR, KernS (put together). -/
import Derived.Test.YtlkdkgefjipjmaaGreatDoorP25
import Derived.Test.YtlkdkgefjipjmaaGreatDoorQ0
set_option linter.all false
set_option maxHeartbeats 40000000
set_option maxRecDepth 100000
namespace Vg
open Go
def Jb.ok(j:Jb):Prop:=(1<=j.cost/\j.cost<=1099511627776)/\(0<=j.went/\j.went<j.cost)/\(0<=j.at_/\j.at_<=4503599627370496)
def Tk.ok(t:Tk):Prop:=(0<=t.pr/\t.pr<=63)/\(1<=t.ro/\t.ro<=16)/\(0<=t.lk->t.lk<16/\0<=t.fr/\t.fr<t.tt/\t.tt<=1099511627776)
structure Kt.good(k:Nat)(x:Kt):Prop where
 t:x.t.ok
 lo:0<=x.lost/\x.lost<=k
 len:(x.J.length:Int)<=x.t.ro
 js:∀j∈x.J,j.ok
 tl:∀j∈x.J.tail,j.went=0
theorem Kt.good.ok{k:Nat}{x:Kt}(h:x.good k)(hk:k<=1000000):x.ok:=⟨⟨h.t.2.1.2,h.t.2.1.1⟩,⟨h.lo.1,by have:=h.lo.2;omega⟩,h.len⟩
theorem Kt.good.mono{k k':Nat}{x:Kt}(h:x.good k)(hk:k<=k'):x.good k':=⟨h.t,⟨h.lo.1,by have:=h.lo.2;omega⟩,h.len,h.js,h.tl⟩
def Kn.Inv(k:Nat)(K:List Kt):Prop:=∀x∈K,x.good k
theorem Kn.Inv.mono{k k':Nat}{K:List Kt}(h:Kn.Inv k K)(hk:k<=k'):Kn.Inv k' K:=fun x hx=>(h x hx).mono hk
def Kn.leftJ(t:Tk)(j:Jb):Int:=if 0<=t.lk/\j.went<t.tt/\t.tt<j.cost then t.tt-j.went else j.cost-j.went
def Kn.leftAt(K:List Kt)(i:Nat):Int:=match K[i]? with|none=>0|some x=>match x.J with | []=>0|j::_=>Kn.leftJ x.t j
def Kn.left(K:List Kt)(M:List Mx):Int:=if Kn.best K M<0 then 0 else Kn.leftAt K (Kn.best K M).toNat
theorem Kn.leftJ_pos{t:Tk}{j:Jb}(hj:j.ok):1<=Kn.leftJ t j/\Kn.leftJ t j<=1099511627776/\Kn.leftJ t j<=j.cost-j.went:=by
 obtain⟨⟨a1,a2⟩,⟨a3,a4⟩,a5⟩:=hj
 unfold Kn.leftJ
 split<;>omega
theorem Kn.level_nonneg{k:Nat}{K:List Kt}{M:List Mx}(h:Kn.Inv k K)(i:Nat):0<=Kn.level K M i:=by
 by_cases hi:i<K.length
 ·rw[Kn.level_in hi]
  have hp:=(h _ (List.getElem_mem hi)).t.1.1
  have:∀(l:List Nat)(p:Int),0<=p->0<=Tb.level M l p:=by
   intro l
   induction l with
   | nil=>intro p hp;exact hp
   | cons a l ih=>intro p hp;exact ih _ (by omega)
  exact this _ _ hp
 ·rw[Kn.level_out (.inr (by omega))]
  exact Int.le_refl _
theorem Kn.pk_spec(K:List Kt)(M:List Mx):∀(l:List Nat)(r:Int×Int),
  (Kn.pk K M l r=r \/ ∃i∈l,Kn.pk K M l r=((i:Int),Kn.level K M i)/\(r.2<Kn.level K M i\/(Kn.level K M i=r.2/\Kn.holds K M i=true))) /\
  (∀j∈l,Kn.level K M j<=(Kn.pk K M l r).2) /\
  (∀j∈l,Kn.holds K M j=true->Kn.level K M j=(Kn.pk K M l r).2->∃i∈l,Kn.pk K M l r=((i:Int),Kn.level K M i)/\Kn.holds K M i=true)
 | [],r=>⟨.inl rfl,by simp,by simp⟩
 | i::l,r=>by
  simp only[Kn.pk]
  obtain⟨r',hr'⟩:∃r',(if r.2<Kn.level K M i\/(Kn.level K M i=r.2/\Kn.holds K M i=true)then((i:Int),Kn.level K M i)else r)=r':=⟨_,rfl⟩
  rw[hr']
  obtain⟨A,B,C⟩:=Kn.pk_spec K M l r'
  have hge:r'.2<=(Kn.pk K M l r').2:=by
   rcases A with A|⟨i2,_,A,A2⟩
   ·rw[A];exact Int.le_refl _
   ·rw[A];rcases A2 with A2|A2
    ·exact Int.le_of_lt A2
    ·show r'.2<=Kn.level K M i2;omega
  by_cases hc:r.2<Kn.level K M i\/(Kn.level K M i=r.2/\Kn.holds K M i=true)
  ·rw[if_pos hc]at hr'
   have e2:r'.2=Kn.level K M i:=by rw[<-hr']
   refine⟨?_,?_,?_⟩
   ·rcases A with A|⟨i2,h2,A,A2⟩
    ·exact .inr ⟨i,by simp,by rw[A,<-hr'],hc⟩
    ·refine .inr ⟨i2,List.mem_cons_of_mem _ h2,A,?_⟩
     rcases A2 with A2|⟨A2,A3⟩
     ·left;rcases hc with hc|hc<;>omega
     ·rcases hc with hc|hc
      ·left;omega
      ·right;exact⟨by omega,A3⟩
   ·intro j hj
    rcases List.mem_cons.1 hj with rfl|hj
    ·omega
    ·exact B j hj
   ·intro j hj hh hl
    rcases List.mem_cons.1 hj with rfl|hj
    ·rcases A with A|⟨i2,h2,A,A2⟩
     ·exact⟨j,by simp,by rw[A,<-hr'],hh⟩
     ·rcases A2 with A2|⟨A2,A3⟩
      ·rw[A]at hl;simp only[]at hl;omega
      ·exact⟨i2,List.mem_cons_of_mem _ h2,A,A3⟩
    ·obtain⟨i2,h2,h3⟩:=C j hj hh hl
     exact⟨i2,List.mem_cons_of_mem _ h2,h3⟩
  ·rw[if_neg hc]at hr'
   subst hr'
   have h1:Kn.level K M i<=r.2:=Int.not_lt.1 fun h=>hc (.inl h)
   refine⟨?_,?_,?_⟩
   ·rcases A with A|⟨i2,h2,A,A2⟩
    ·exact .inl A
    ·exact .inr ⟨i2,List.mem_cons_of_mem _ h2,A,A2⟩
   ·intro j hj
    rcases List.mem_cons.1 hj with rfl|hj
    ·omega
    ·exact B j hj
   ·intro j hj hh hl
    rcases List.mem_cons.1 hj with rfl|hj
    ·exact absurd (.inr ⟨by omega,hh⟩) hc
    ·obtain⟨i2,h2,h3⟩:=C j hj hh hl
     exact⟨i2,List.mem_cons_of_mem _ h2,h3⟩
theorem Kn.mem_ables{K:List Kt}{k i:Nat}:i∈Kn.ables K k↔i<k/\Kn.ableK K i=true:=by unfold Kn.ables;simp
theorem Kn.ableK_lt{K:List Kt}{i:Nat}(h:Kn.ableK K i=true):i<K.length:=by
 unfold Kn.ableK at h
 by_cases hi:i<K.length
 ·exact hi
 ·rw[List.getElem?_eq_none (by omega)]at h;cases h
theorem Kn.ableK_in{K:List Kt}{i:Nat}(hi:i<K.length):Kn.ableK K i=(decide (0<K[i].J.length) && !K[i].out):=by unfold Kn.ableK;rw[List.getElem?_eq_getElem hi]
theorem Kn.best_cases{k:Nat}{K:List Kt}{M:List Mx}(h:Kn.Inv k K):(Kn.best K M=-1/\∀j,Kn.ableK K j=false) \/
  ∃i:Nat,i<K.length/\Kn.best K M=i/\Kn.ableK K i=true/\(∀j:Nat,Kn.ableK K j=true->Kn.level K M j<=Kn.level K M i)/\(∀j:Nat,Kn.ableK K j=true->Kn.level K M j=Kn.level K M i->Kn.holds K M j=true->Kn.holds K M i=true):=by
 obtain⟨A,B,C⟩:=Kn.pk_spec K M (Kn.ables K K.length) (-1,-1)
 have hno:(∀j,Kn.ableK K j=false) \/ ∃i,Kn.ableK K i=true:=by
  by_cases hh:∃i,Kn.ableK K i=true
  ·exact .inr hh
  ·left
   intro j
   cases hj:Kn.ableK K j with
   | false=>rfl
   | true=>exact absurd ⟨j,hj⟩ hh
 rcases hno with hno|⟨j0,hj0⟩
 ·left
  refine⟨?_,hno⟩
  rcases A with A|⟨i,hi,_⟩
  ·show(Kn.pk K M _ _).1=-1;rw[A]
  ·have:=(Kn.mem_ables.1 hi).2;rw[hno i]at this;cases this
 ·right
  rcases A with A|⟨i,hi,A,_⟩
  ·have:=B j0 (Kn.mem_ables.2 ⟨Kn.ableK_lt hj0,hj0⟩)
   have h0:=Kn.level_nonneg (M:=M) h j0
   rw[A]at this;simp only[]at this;omega
  ·obtain⟨h1,h2⟩:=Kn.mem_ables.1 hi
   refine⟨i,h1,by show(Kn.pk K M _ _).1=_;rw[A],h2,fun j hj=>?_,fun j hj hl hh=>?_⟩
   ·have:=B j (Kn.mem_ables.2 ⟨Kn.ableK_lt hj,hj⟩)
    rw[A]at this;exact this
   ·obtain⟨i2,_,h3,h4⟩:=C j (Kn.mem_ables.2 ⟨Kn.ableK_lt hj,hj⟩) hh (by rw[A];exact hl)
    rw[A]at h3
    simp only[Prod.mk.injEq]at h3
    have:i=i2:=by omega
    rw[this];exact h4
def Kn.lockd(M:List Mx)(t:Tk)(i went:Int)(done:Bool):List Mx:=
 if t.lk<0 then M else
 if(done=false/\t.fr<went/\went<t.tt)then(if((Tb.holder M t.lk).2=true/\(Tb.holder M t.lk).1=i)then M else(Tb.lock M t.lk i t.pr).1)
 else(if((Tb.holder M t.lk).2=true/\(Tb.holder M t.lk).1=i)then(Tb.unlock M t.lk i).1 else M)
def Kn.runAt(K:List Kt)(M:List Mx)(i:Nat)(x:Kt)(j:Jb)(l:List Jb)(n:Int):List Kt×List Mx×(Int×Int×Int)×Bool×Int:=
 if n<0\/Kn.leftJ x.t j<n then(K,M,(0,0,0),false,1)else
 if j.went+n=j.cost then(K.set i ⟨x.t,l,x.lost,x.out⟩,Kn.lockd M x.t i (j.went+n) true,(i,j.cost,j.at_),true,0)
 else(K.set i ⟨x.t,⟨j.cost,j.at_,j.went+n⟩::l,x.lost,x.out⟩,Kn.lockd M x.t i (j.went+n) false,(0,0,0),false,0)
def Kn.run(K:List Kt)(M:List Mx)(n:Int):List Kt×List Mx×(Int×Int×Int)×Bool×Int:=
 if Kn.best K M<0 then(K,M,(0,0,0),false,7)else
 match K[(Kn.best K M).toNat]? with
 | none=>(K,M,(0,0,0),false,7)
 | some x=>match x.J with
  | []=>(K,M,(0,0,0),false,7)
  | j::l=>Kn.runAt K M (Kn.best K M).toNat x j l n
theorem Kn.run_none{K:List Kt}{M:List Mx}{n:Int}(h:Kn.best K M=-1):Kn.run K M n=(K,M,(0,0,0),false,7):=by unfold Kn.run;rw[h];rfl
theorem Kn.run_some{K:List Kt}{M:List Mx}{n:Int}{i:Nat}{t:Tk}{j:Jb}{l:List Jb}{lo:Int}{ou:Bool}(h:Kn.best K M=i)(hi:i<K.length)(hx:K[i]=⟨t,j::l,lo,ou⟩):Kn.run K M n=Kn.runAt K M i ⟨t,j::l,lo,ou⟩ j l n:=by
 unfold Kn.run
 rw[h,if_neg (by omega),Int.toNat_natCast,List.getElem?_eq_getElem hi,hx]
theorem Kn.left_none{K:List Kt}{M:List Mx}(h:Kn.best K M=-1):Kn.left K M=0:=by unfold Kn.left;rw[h];rfl
theorem Kn.left_some{K:List Kt}{M:List Mx}{i:Nat}{t:Tk}{j:Jb}{l:List Jb}{lo:Int}{ou:Bool}(h:Kn.best K M=i)(hi:i<K.length)(hx:K[i]=⟨t,j::l,lo,ou⟩):Kn.left K M=Kn.leftJ t j:=by
 unfold Kn.left Kn.leftAt
 rw[h,if_neg (by omega),Int.toNat_natCast,List.getElem?_eq_getElem hi,hx]
end Vg
namespace Go.Proofs.YtlkdkgefjipjmaaGreatDoor
open Go.ChangeShapes Go.WideShapes Go.ChangeAt Go.RowKit
section
variable {w w':World}{b cb n:Nat}{xs:List Vg.Kp}{rv cv:Value}{M M':List Vg.Mx}{x r:Int}{is:Bool}{K':List Vg.Kt}
theorem task_left{g o c i:Nat}{u:Value}{t:Vg.Tk}{j:Vg.Jb}{l:List Vg.Jb}{lo:Int}{ou:Bool}(hi:i<xs.length)(hn:xs.length=n)(h:KT w b xs (.slice (some ⟨g,o,none⟩) n c) cb M cv)(hx:xs[i]=(u,⟨t,j::l,lo,ou⟩))(hj:j.ok)(ht:t.ok)(hr:Vg.Kn.leftJ t j=r):
  Calls Tryz.prog 103 #[.pointer (some ⟨g,o+i*13,none⟩)] w fun e w'=>e=.returned (.int .i64 r)/\Vg.Grows w w':=by
 have hrow:=h.row
 rw[hn]at hrow
 obtain⟨g',o',he,-,hg,-,-,hcx⟩:=hrow.task hn i hi
 simp only[Option.some.injEq,Addr.mk.injEq,and_true]at he
 obtain⟨rfl,rfl⟩:=he
 have c7:=hcx 7 (by decide)
 have c9:=hcx 9 (by decide)
 have c10:=hcx 10 (by decide)
 have hq:=h.job i hi
 rw[hx]at c7 c9 c10 hq
 simp only[Vg.kcell]at c7 c9 c10 hq
 obtain⟨jg,jo,jc,rfl,-,hjg,hjc1,hjc2,d0,d1,d2⟩:=hq.job (by simp)
 obtain⟨⟨a1,a2⟩,⟨a3,a4⟩,a5,a6⟩:=hj
 obtain⟨b1,b2,b3⟩:=ht
 obtain⟨jc',ja,jw⟩:=j
 obtain⟨kd,pr,pe,og,dl,co,ro,lk,fr,tt⟩:=t
 simp only[]at c7 c9 d0 d1 d2 a1 a2 a3 a4 b3 hr
 have hl1:0<(jc'::([]:List Int)).length:=by simp
 have hw0:IntKind.i64.wrap (jc'-jw)=jc'-jw:=by rw[IntWalk.i64_in _ (by omega)]
 unfold Vg.Kn.leftJ at hr
 simp only[]at hr
 clear hcx hrow
 by_cases h1:0<=lk
 ·obtain⟨k1,k2,k3,k4⟩:=b3 h1
  by_cases h2:jw<tt
  ·by_cases h3:tt<jc'
   ·rw[if_pos ⟨h1,h2,h3⟩]at hr
    have hw1:IntKind.i64.wrap (tt-jw)=tt-jw:=by rw[IntWalk.i64_in _ (by omega)]
    subst hr
    have H_h:=h_ h;have H_hx:=h_ hx;have H_hq:=h_ hq;have H_hn:=h_ hn;have H_b3:=h_ b3;clear h hx hq hn b3
    go_enter Tryz.func103,Tryz.ntmps103
    go_wp2
    go_quiet (fail)
    go_wp2_with fail
    go_quiet (fail)
    go_wp2_with fail
    go_ret
    exact⟨rfl,Vg.gro⟩
   ·rw[if_neg (fun hh=>h3 hh.2.2)]at hr
    subst hr
    have H_h:=h_ h;have H_hx:=h_ hx;have H_hq:=h_ hq;have H_hn:=h_ hn;have H_b3:=h_ b3;clear h hx hq hn b3
    go_enter Tryz.func103,Tryz.ntmps103
    go_wp2
    go_quiet (fail)
    go_wp2_with fail
    go_ret
    exact⟨rfl,Vg.gro⟩
  ·rw[if_neg (fun hh=>h2 hh.2.1)]at hr
   have hd2:decide (jw<tt)=false:=by simp;omega
   subst hr
   have H_h:=h_ h;have H_hx:=h_ hx;have H_hq:=h_ hq;have H_hn:=h_ hn;have H_b3:=h_ b3;clear h hx hq hn b3
   go_enter Tryz.func103,Tryz.ntmps103
   go_wp2
   go_quiet (fail)
   go_wp2_with fail
   go_ret
   exact⟨rfl,Vg.gro⟩
 ·rw[if_neg (fun hh=>h1 hh.1)]at hr
  have hd2:decide (0<=lk)=false:=by simp;omega
  subst hr
  have H_h:=h_ h;have H_hx:=h_ hx;have H_hq:=h_ hq;have H_hn:=h_ hn;have H_b3:=h_ b3;clear h hx hq hn b3
  go_enter Tryz.func103,Tryz.ntmps103
  go_wp2
  go_quiet (fail)
  go_wp2_with fail
  go_ret
  exact⟨rfl,Vg.gro⟩
theorem kern_at{k i:Nat}(hI:Vg.Kn.Inv k (xs.map (·.2)))(hi:i<xs.length)(ha:Vg.Kn.ableK (xs.map (·.2)) i=true):
  ∃u t j l lo ou,xs[i]=(u,⟨t,j::l,lo,ou⟩)/\Vg.Kt.good k ⟨t,j::l,lo,ou⟩/\(xs.map (·.2))[i]'(by simpa using hi)=⟨t,j::l,lo,ou⟩:=by
 have hl:i<(xs.map (·.2)).length:=by simpa using hi
 rw[Vg.Kn.ableK_in hl]at ha
 have hg:=hI _ (List.getElem_mem hl)
 rw[List.getElem_map]at ha hg
 obtain⟨⟨u,⟨t,J,lo,ou⟩⟩,hx⟩:∃y,xs[i]=y:=⟨_,rfl⟩
 rw[hx]at ha hg
 cases J with
 | nil=>simp at ha
 | cons j l=>exact⟨u,t,j,l,lo,ou,hx,hg,by rw[List.getElem_map,hx]⟩
theorem kern_left{k:Nat}(h:KT w b xs rv cb M cv)(hI:Vg.Kn.Inv k (xs.map (·.2)))(hx:Vg.Kn.left (xs.map (·.2)) M=x):
  Calls Tryz.prog 157 #[.pointer (some ⟨b,0,none⟩)] w fun e w'=>e=.returned (.int .i64 x)/\Vg.Grows w w':=by
 rcases Vg.Kn.best_cases (M:=M) hI with⟨hb,_⟩|⟨i,hi,hb,ha,-,-⟩
 ·rw[Vg.Kn.left_none hb]at hx
  subst hx
  have hm:max (-1:Int) 0=0:=by decide
  have his:decide ((0:Int) <= -1)=false:=by decide
  have H_h:=h_ h;have H_hb:=h_ hb;have H_hI:=h_ hI;clear h hb hI
  go_enter Tryz.func157,Tryz.ntmps157
  go_wp2_with ((go_at_call 102;refine(kern_pick H_h.out H_hb.out hm his).mono ?_;rintro e w1 ⟨rfl,x1,n1,rfl⟩))
  go_ret
  exact⟨rfl,Vg.gro⟩
 ·have hix:i<xs.length:=by simpa using hi
  obtain⟨u,t,j,l,lo,ou,hxi,hg,hki⟩:=kern_at hI hix ha
  rw[Vg.Kn.left_some hb hi hki]at hx
  have hj:=hg.js j (by simp)
  have ht:=hg.t
  have hm:max (i:Int) 0=i:=by omega
  have his:decide ((0:Int)<=i)=true:=by simp
  obtain⟨n,hn⟩:∃n,xs.length=n:=⟨_,rfl⟩
  obtain⟨a,c,hrv⟩:=h.row.shape
  subst hrv
  rw[hn]at h
  have hq:=h.row
  rw[hn]at hq
  obtain⟨g,o,rfl,-,hgl,hcc,hcm,-⟩:=hq.task hn i hix
  have c0:=Vg.cells_of h.tab 0
  simp at c0
  have hbl:=h.lt
  have hin:i<n:=by omega
  have H_h:=h_ h;have H_hb:=h_ hb;have H_hI:=h_ hI;have H_hn:=h_ hn;have H_hxi:=h_ hxi;have H_hj:=h_ hj;have H_ht:=h_ ht;have H_hx:=h_ hx;have H_hq:=h_ hq;have H_hg:=h_ hg;have H_hki:=h_ hki;clear h hb hI hn hxi hj ht hx hq hg hki
  go_enter Tryz.func157,Tryz.ntmps157
  go_wp2_with (first|(go_at_call 102;refine(kern_pick H_h.out H_hb.out hm his).mono ?_;rintro e w1 ⟨rfl,x1,n1,rfl⟩)|(go_at_call 103;refine(task_left hix H_hn.out (H_h.out.grows (Vg.gro)) H_hxi.out H_hj.out H_ht.out H_hx.out).mono ?_;rintro e w2 ⟨rfl,x2,n2,rfl⟩))
  go_ret
  exact⟨rfl,Vg.gro⟩
theorem KT.locked(h:KT w b xs rv cb M cv)(hc:CE w' cb (cb+1) M' cv)(ht:Vg.Touch (fun k=>cv.ownBlock=some k) w w'):KT w' b xs rv cb M' cv:=
 ⟨ht.bk h.tab fun hh=>(h.cof b (.inr hh)).1 rfl,h.row.kept fun k hk=>ht.block k (h.row.lt k hk).2 fun hh=>(h.cof k (.inr hh)).2 hk,fun i hi=>(h.job i hi).kept fun k hk=>ht.block k ((h.job i hi).lt k hk).2 fun hh=>h.cofj i hi k hk (.inr hh),h.dis,h.off,hc,h.cof,h.cofj,h.clo⟩
theorem kern_lock{u:Value}{y:Vg.Kt}{i:Nat}(went:Int)(done:Bool)(h:KT w b xs rv cb M cv)(hi:i<xs.length)(hxi:xs[i]=(u,y))(hx:Vg.Kn.lockd M y.t i went done=M'):
  Calls Tryz.prog 104 #[.pointer (some ⟨b,0,none⟩),.int .i64 i,.int .i64 went,.bool done] w fun e w'=>e=.returned (.tuple #[])/\KT w' b xs rv cb M' cv/\Vg.Touch (fun k=>cv.ownBlock=some k) w w':=by
 obtain⟨n,hn⟩:∃n,xs.length=n:=⟨_,rfl⟩
 obtain⟨a,c,hrv⟩:=h.row.shape
 subst hrv
 rw[hn]at h ⊢
 have hq:=h.row
 rw[hn]at hq
 obtain⟨g,o,rfl,-,hgl,hcc,hcm,hcx⟩:=hq.task hn i hi
 have e0:=Vg.cells_of h.tab 0
 have e1:=Vg.cells_of h.tab 1
 simp at e0 e1
 have hbl:=h.lt
 have hin:i<n:=by omega
 have c1:=hcx 1 (by decide)
 have c7:=hcx 7 (by decide)
 have c8:=hcx 8 (by decide)
 have c9:=hcx 9 (by decide)
 have hho:Vg.Kn.holds (xs.map (·.2)) M i=if y.t.lk<0 then false else(Vg.Tb.holder M y.t.lk).2&&decide ((Vg.Tb.holder M y.t.lk).1=(i:Int)):=by
  rw[Vg.Kn.holds_in (by simpa using hi),List.getElem_map,hxi]
 rw[hxi]at c1 c7 c8 c9
 obtain⟨⟨kd,pr,pe,og,dl,co,ro,lk,fr,tt⟩,J,lo,ou⟩:=y
 simp only[Vg.kcell]at c1 c7 c8 c9 hho hx
 have hce:=h.ceil
 clear hcx
 unfold Vg.Kn.lockd at hx
 simp only[]at hx
 by_cases hl:lk<0
 ·rw[if_pos hl]at hx
  subst hx
  have H_h:=h_ h;have H_hn:=h_ hn;have H_hq:=h_ hq;have H_hxi:=h_ hxi;have H_hho:=h_ hho;have H_hce:=h_ hce;clear h hn hq hxi hho hce
  go_enter Tryz.func104,Tryz.ntmps104
  go_wp2
  (first|go_end0|refine bodyPost_ret (results_none rfl _ _ _) rfl ?_)
  exact⟨rfl,H_h.out,Vg.Touch.refl _ _⟩
 ·rw[if_neg hl]at hx
  rw[if_neg hl]at hho
  obtain⟨hd,hhd⟩:∃hd,((Vg.Tb.holder M lk).2&&decide ((Vg.Tb.holder M lk).1=(i:Int)))=hd:=⟨_,rfl⟩
  rw[hhd]at hho
  have hiff:((Vg.Tb.holder M lk).2=true/\(Vg.Tb.holder M lk).1=(i:Int))↔hd=true:=by rw[<-hhd];simp
  by_cases hw:done=false/\fr<went/\went<tt
  ·rw[if_pos hw]at hx
   obtain⟨rfl,hw1,hw2⟩:=hw
   cases hd with
   | true=>
    rw[if_pos (hiff.2 rfl)]at hx
    subst hx
    have H_h:=h_ h;have H_hn:=h_ hn;have H_hq:=h_ hq;have H_hxi:=h_ hxi;have H_hho:=h_ hho;have H_hce:=h_ hce;have H_hhd:=h_ hhd;have H_hiff:=h_ hiff;clear h hn hq hxi hho hce hhd hiff
    go_enter Tryz.func104,Tryz.ntmps104
    go_wp2_with ((go_at_call 164;refine(kern_holds i (H_h.out.grows (Vg.gro)) H_hho.out).mono ?_;rintro e w1 ⟨rfl,x1,n1,rfl⟩))
    (first|go_end0|refine bodyPost_ret (results_none rfl _ _ _) rfl ?_)
    exact⟨rfl,H_h.out.grows (Vg.gro),Vg.Touch.of_grows (Vg.gro)⟩
   | false=>
    rw[if_neg (fun hh=>by have:=hiff.1 hh;cases this)]at hx
    subst hx
    have H_h:=h_ h;have H_hn:=h_ hn;have H_hq:=h_ hq;have H_hxi:=h_ hxi;have H_hho:=h_ hho;have H_hce:=h_ hce;have H_hhd:=h_ hhd;have H_hiff:=h_ hiff;clear h hn hq hxi hho hce hhd hiff
    go_enter Tryz.func104,Tryz.ntmps104
    go_wp2_with ((go_at_call 164;refine(kern_holds i (H_h.out.grows (Vg.gro)) H_hho.out).mono ?_;rintro e w1 ⟨rfl,hg1⟩;have k1:=(hg1.below.cell (p:=⟨g,o+i*13+1,none⟩) hgl).trans c1;have k7:=(hg1.below.cell (p:=⟨g,o+i*13+7,none⟩) hgl).trans c7;have ke:=(hg1.below.cell (p:=⟨b,1,none⟩) hbl).trans e1;have hce1:=H_hce.out.grows hg1;have h1:=H_h.out.grows hg1;have hgl1:=Nat.lt_of_lt_of_le hgl hg1.size;have hbl1:=Nat.lt_of_lt_of_le hbl hg1.size;have HG1:=h_ hg1;clear hg1;have H_hce1:=h_ hce1;have H_h1:=h_ h1;clear hce1 h1))
    go_region_with ((go_at_call 165;refine(ce_lock lk i pr (H_hce1.out.grows (Vg.gro)) (Nat.lt_succ_self _)).mono ?_;rintro e w3 ⟨rfl,hc3,ht3⟩;have H_hc3:=h_ hc3;have H_ht3:=h_ ht3;clear hc3 ht3))
    all_goals go_wp2_with fail
    all_goals(first|go_end0|refine bodyPost_ret (results_none rfl _ _ _) rfl ?_)
    all_goals exact⟨rfl,KT.locked (H_h1.out.grows (Vg.gro)) H_hc3.out H_ht3.out,(Vg.Touch.of_grows (HG1.out.trans (Vg.gro))).trans H_ht3.out⟩
  ·rw[if_neg hw]at hx
   have hcase:done=true\/(done=false/\¬fr<went)\/(done=false/\fr<went/\¬went<tt):=by
    cases done with
    | true=>exact .inl rfl
    | false=>
     by_cases h1:fr<went
     ·exact .inr (.inr ⟨rfl,h1,fun h2=>hw ⟨rfl,h1,h2⟩⟩)
     ·exact .inr (.inl ⟨rfl,h1⟩)
   clear hw
   cases hd with
   | false=>
    rw[if_neg (fun hh=>by have:=hiff.1 hh;cases this)]at hx
    subst hx
    rcases hcase with rfl|⟨rfl,h1⟩|⟨rfl,h1,h2⟩
    all_goals
     have H_h:=h_ h;have H_hn:=h_ hn;have H_hq:=h_ hq;have H_hxi:=h_ hxi;have H_hho:=h_ hho;have H_hce:=h_ hce;have H_hhd:=h_ hhd;have H_hiff:=h_ hiff;clear h hn hq hxi hho hce hhd hiff
     go_enter Tryz.func104,Tryz.ntmps104
     go_wp2_with ((go_at_call 164;refine(kern_holds i (H_h.out.grows (Vg.gro)) H_hho.out).mono ?_;rintro e w1 ⟨rfl,x1,n1,rfl⟩))
     (first|go_end0|refine bodyPost_ret (results_none rfl _ _ _) rfl ?_)
     exact⟨rfl,H_h.out.grows (Vg.gro),Vg.Touch.of_grows (Vg.gro)⟩
   | true=>
    rw[if_pos (hiff.2 rfl)]at hx
    subst hx
    rcases hcase with rfl|⟨rfl,h1⟩|⟨rfl,h1,h2⟩
    all_goals
     have H_h:=h_ h;have H_hn:=h_ hn;have H_hq:=h_ hq;have H_hxi:=h_ hxi;have H_hho:=h_ hho;have H_hce:=h_ hce;have H_hhd:=h_ hhd;have H_hiff:=h_ hiff;clear h hn hq hxi hho hce hhd hiff
     go_enter Tryz.func104,Tryz.ntmps104
     go_wp2_with ((go_at_call 164;refine(kern_holds i (H_h.out.grows (Vg.gro)) H_hho.out).mono ?_;rintro e w1 ⟨rfl,hg1⟩;have k1:=(hg1.below.cell (p:=⟨g,o+i*13+1,none⟩) hgl).trans c1;have k7:=(hg1.below.cell (p:=⟨g,o+i*13+7,none⟩) hgl).trans c7;have ke:=(hg1.below.cell (p:=⟨b,1,none⟩) hbl).trans e1;have hce1:=H_hce.out.grows hg1;have h1:=H_h.out.grows hg1;have hgl1:=Nat.lt_of_lt_of_le hgl hg1.size;have hbl1:=Nat.lt_of_lt_of_le hbl hg1.size;have HG1:=h_ hg1;clear hg1;have H_hce1:=h_ hce1;have H_h1:=h_ h1;clear hce1 h1))
     go_region_with ((go_at_call 166;refine(ce_unlock lk i (H_hce1.out.grows (Vg.gro)) (Nat.lt_succ_self _)).mono ?_;rintro e w3 ⟨rfl,hc3,ht3⟩;have H_hc3:=h_ hc3;have H_ht3:=h_ ht3;clear hc3 ht3))
     all_goals go_wp2_with fail
     all_goals(first|go_end0|refine bodyPost_ret (results_none rfl _ _ _) rfl ?_)
     all_goals exact⟨rfl,KT.locked (H_h1.out.grows (Vg.gro)) H_hc3.out H_ht3.out,(Vg.Touch.of_grows (HG1.out.trans (Vg.gro))).trans H_ht3.out⟩
end
end Go.Proofs.YtlkdkgefjipjmaaGreatDoor
namespace Vg
open Go
theorem set3k{w:World}{rb:Nat}{ty:TypeId}{x y z:Value}(h:blk w rb=some (.cells #[x,y,z] ty))(a b c:Value):((w.setCell ⟨rb,0,none⟩ a).setCell ⟨rb,1,none⟩ b).setCell ⟨rb,2,none⟩ c=put w rb (.cells #[a,b,c] ty):=by
 rw[setCell_of h,setCell_of (put_heap_same (lt_of h)),setCell_of (put_heap_same (by rw[put_size];exact lt_of h))]
 simp[put]
end Vg
namespace Go.Proofs.YtlkdkgefjipjmaaGreatDoor
open Go.ChangeShapes Go.WideShapes Go.ChangeAt Go.RowKit
abbrev doneC(a b c:Int):Obj:=.cells #[.int .i64 a,.int .i64 b,.int .i64 c] 181
section
variable {w w':World}{b cb n:Nat}{xs:List Vg.Kp}{rv cv:Value}{M M':List Vg.Mx}{x r d1 d2 d3:Int}{is:Bool}{K':List Vg.Kt}
theorem kern_run {k:Nat} (m:Int) (h:KT w b xs rv cb M cv) (hI:Vg.Kn.Inv k (xs.map (·.2))) (hx:Vg.Kn.run (xs.map (·.2)) M m=(K',M',(d1,d2,d3),is,r)) :
  Calls Tryz.prog 59 #[.pointer (some ⟨b,0,none⟩),.int .i64 m] w fun e w'=>e=.returned (.tuple #[.agg #[.int .i64 d1,.int .i64 d2,.int .i64 d3],.bool is,.int .i64 r])/\KTn w w' b xs rv cb M' cv K':=by
 rcases Vg.Kn.best_cases (M:=M) hI with⟨hb,_⟩|⟨i,hi,hb,ha,-,-⟩
 ·rw[Vg.Kn.run_none hb]at hx
  simp only[Prod.mk.injEq]at hx
  obtain⟨rfl,rfl,⟨rfl,rfl,rfl⟩,rfl,rfl⟩:=hx
  have hm:max (-1:Int) 0=0:=by decide
  have his:decide ((0:Int) <= -1)=false:=by decide
  have H_h:=h_ h;have H_hb:=h_ hb;have H_hI:=h_ hI;clear h hb hI
  go_enter Tryz.func59,Tryz.ntmps59
  go_wp2_with ((go_at_call 102;refine(kern_pick (H_h.out.grows (Vg.gro)) H_hb.out hm his).mono ?_;rintro e w1 ⟨rfl,x1,n1,rfl⟩))
  go_returns
  exact⟨rfl,KTn.same H_h.out (Vg.gro)⟩
 ·have hix:i<xs.length:=by simpa using hi
  obtain⟨u,t,j,l,lo,ou,hxi,hg,hki⟩:=kern_at hI hix ha
  rw[Vg.Kn.run_some hb hi hki]at hx
  unfold Vg.Kn.runAt at hx
  simp only[]at hx
  have hj:=hg.js j (by simp)
  have ht:=hg.t
  have hm:max (i:Int) 0=i:=by omega
  have his:decide ((0:Int)<=i)=true:=by simp
  obtain⟨n,hn⟩:∃n,xs.length=n:=⟨_,rfl⟩
  obtain⟨a,c,hrv⟩:=h.row.shape
  subst hrv
  rw[hn]at h ⊢
  have hq:=h.row
  rw[hn]at hq
  obtain⟨g,o,rfl,-,hgl,hcc,hcm,hcx⟩:=hq.task hn i hix
  have c10:=hcx 10 (by decide)
  rw[hxi]at c10
  simp only[Vg.kcell]at c10
  have c0:=Vg.cells_of h.tab 0
  simp at c0
  have hbl:=h.lt
  have hin:i<n:=by omega
  have hown:=h.own
  obtain⟨L,hL⟩:∃L,Vg.Kn.leftJ t j=L:=⟨_,rfl⟩
  have hLb:=Vg.Kn.leftJ_pos (t:=t) hj
  rw[hL]at hx hLb
  clear hcx
  by_cases hbad:m<0\/L<m
  ·rw[if_pos hbad]at hx
   simp only[Prod.mk.injEq]at hx
   obtain⟨rfl,rfl,⟨rfl,rfl,rfl⟩,rfl,rfl⟩:=hx
   have H_h:=h_ h;have H_hb:=h_ hb;have H_hI:=h_ hI;have H_hn:=h_ hn;have H_hxi:=h_ hxi;have H_hj:=h_ hj;have H_ht:=h_ ht;have H_hq:=h_ hq;have H_hg:=h_ hg;have H_hki:=h_ hki;have H_hL:=h_ hL;have H_hown:=h_ hown;clear h hb hI hn hxi hj ht hq hg hki hL hown
   by_cases h0:m<0
   ·clear hbad
    go_enter Tryz.func59,Tryz.ntmps59
    go_wp2_with ((go_at_call 102;refine(kern_pick (H_h.out.grows (Vg.gro)) H_hb.out hm his).mono ?_;rintro e w1 ⟨rfl,x1,n1,rfl⟩))
    go_returns
    exact⟨rfl,KTn.same H_h.out (Vg.gro)⟩
   ·have h1:L<m:=by omega
    clear hbad
    go_enter Tryz.func59,Tryz.ntmps59
    go_wp2_with (first|(go_at_call 102;refine(kern_pick (H_h.out.grows (Vg.gro)) H_hb.out hm his).mono ?_;rintro e w1 ⟨rfl,x1,n1,rfl⟩)|(go_at_call 103;refine(task_left hix H_hn.out (H_h.out.grows (Vg.gro)) H_hxi.out H_hj.out H_ht.out H_hL.out).mono ?_;rintro e w2 ⟨rfl,x2,n2,rfl⟩))
    go_returns
    exact⟨rfl,KTn.same H_h.out (Vg.gro)⟩
  ·rw[if_neg hbad]at hx
   have k1:¬m<0:=by omega
   have k2:¬L<m:=by omega
   clear hbad
   obtain⟨⟨a1,a2⟩,⟨a3,a4⟩,a5,a6⟩:=hj
   obtain⟨jc,ja,jw⟩:=j
   simp only[]at a1 a2 a3 a4 a5 a6 hLb hx
   have hsum:IntKind.i64.wrap (jw+m)=jw+m:=by rw[IntWalk.i64_in _ (by omega)]
   obtain⟨wn,hwn⟩:∃wn,jw+m=wn:=⟨_,rfl⟩
   rw[hwn]at hx hsum
   have hj':Vg.Jb.ok ⟨jc,ja,jw⟩:=⟨⟨a1,a2⟩,⟨a3,a4⟩,a5,a6⟩
   have hno:¬kown b xs (.slice (some ⟨g,o,none⟩) n c) cb cv w.heap.size:=fun hh=>by have:=(hown _ hh).2;omega
   have H_h:=h_ h;have H_hb:=h_ hb;have H_hI:=h_ hI;have H_hn:=h_ hn;have H_hxi:=h_ hxi;have H_hj':=h_ hj';have H_ht:=h_ ht;have H_hq:=h_ hq;have H_hg:=h_ hg;have H_hki:=h_ hki;have H_hL:=h_ hL;have H_hown:=h_ hown;have H_hno:=h_ hno;clear h hb hI hn hxi hj' ht hq hg hki hL hown hno
   go_enter Tryz.func59,Tryz.ntmps59
   go_upto_region 6 with(first|(go_at_call 102;refine(kern_pick (H_h.out.grows (Vg.gro)) H_hb.out hm his).mono ?_;rintro e W1 ⟨rfl,hg1⟩;have c01:=(hg1.below.cell (p:=⟨b,0,none⟩) (by simp;omega)).trans (Eq.trans (by simp[go_sem,hbl]) c0);have h1:=H_h.out.grows (((Vg.Grows.refl w).alloc (doneC 0 0 0)).trans hg1);have hbl1:=h1.lt;have HG1:=h_ hg1;clear hg1;have H_h1:=h_ h1;clear h1)|(go_at_call 103;refine(task_left hix H_hn.out H_h1.out H_hxi.out H_hj'.out H_ht.out H_hL.out).mono ?_;rintro e W2 ⟨rfl,hg2⟩;have HG2:=h_ hg2;clear hg2))
   have hG2:=(((Vg.Grows.refl w).alloc (doneC 0 0 0)).trans HG1.out).trans HG2.out
   have z2:Vg.blk W2 w.heap.size=some (doneC 0 0 0):=(HG1.out.trans HG2.out).blk (Vg.alloc_heap_at rfl)
   have hz2:=Vg.lt_of z2
   have h2:=H_h.out.grows hG2
   have hq2:=H_hq.out.grows hG2
   have hj2:=h2.job i hix
   obtain⟨p,hp⟩:∃p,l.length=p:=⟨_,rfl⟩
   have d10:=(hG2.below.cell (p:=⟨g,o+i*13+10,none⟩) hgl).trans c10
   have d0:=(hG2.below.cell (p:=⟨b,0,none⟩) hbl).trans c0
   have hgl2:=Nat.lt_of_lt_of_le hgl hG2.size
   have hbl2:=Nat.lt_of_lt_of_le hbl hG2.size
   have hofi:=H_h.out.off i hix
   have hcvl:∀k,cv.ownBlock=some k->k<w.heap.size:=fun k hk=>(H_h.out.ceil.own k hk).2
   rw[H_hxi.out]at hj2
   simp only[List.length_cons,hp]at hj2
   obtain⟨jg,jo,jcap,rfl,hjB,hjg,hjc1,hjc2,f0,f1,f2⟩:=hj2.job (congrArg (· + 1) hp)
   simp only[]at f0 f1 f2
   have hgne:jg≠g:=fun hh=>hofi jg (by unfold kfp;rw[H_hxi.out];rfl) (by rw[hh];rfl)
   have hjw:jg<w.heap.size:=H_hown.out jg (.inr (.inr (.inl ⟨i,hix,by unfold kfp;rw[H_hxi.out];rfl⟩))) |>.2
   have hfj:=hj2.frozen
   have q3:=hj2.set (j:=2) (u:=.int .i64 wn) (by simp[Vg.jcells])
   rw[show(Vg.jcells (⟨jc,ja,jw⟩ :: l)).set 2 (.int .i64 wn)=Vg.jcells (⟨jc,ja,wn⟩ :: l)from by simp[Vg.jcells]]at q3
   obtain⟨W3,hW3⟩:∃W3,W2.setCell ⟨jg,jo+2,none⟩ (.int .i64 wn)=W3:=⟨_,rfl⟩
   rw[hW3]at q3
   obtain⟨q3,s3⟩:=q3
   have t3:=Vg.Touch.of_same s3
   have hrow3:=hq2.kept (w':=W3) fun k hk=>s3.block k fun hh=>hgne (by simp[Value.ownBlock]at hk;omega)
   obtain⟨K1,K2,K3⟩:=kt_jobs_in (J2:=⟨jc,ja,wn⟩ :: l) H_hn.out hix h2 H_hxi.out (t3.mono fun k _ hk=>by rw[hk];rfl) hrow3 (by simpa[hp]using q3)
   obtain⟨xs1,K1,K2,K3,⟨hi1,hx1⟩,hn1,hm1⟩:∃xs1:List Vg.Kp,KT W3 b xs1 (.slice (some ⟨g,o,none⟩) n c) cb M cv/\(∀k,kown b xs1 (.slice (some ⟨g,o,none⟩) n c) cb cv k->kown b xs (.slice (some ⟨g,o,none⟩) n c) cb cv k\/W2.heap.size<=k)/\Vg.Touch (kown b xs (.slice (some ⟨g,o,none⟩) n c) cb cv) W2 W3 /\
     (∃hi1:i<xs1.length,xs1[i]=(.slice (some ⟨jg,jo,none⟩) (p+1) jcap,⟨t,⟨jc,ja,wn⟩ :: l,lo,ou⟩))/\xs1.length=n/\xs1.map (·.2)=(xs.map (·.2)).set i ⟨t,⟨jc,ja,wn⟩ :: l,lo,ou⟩:=
    ⟨_,K1,K2,K3,⟨by rw[List.length_set];exact hix,List.getElem_set_self _⟩,by rw[List.length_set];exact H_hn.out,by rw[List.map_set]⟩
   have z3:=t3.bk z2 (by omega)
   obtain⟨jg',jo',jcap',he,-,hjg3,-,-,e0,e1,e2⟩:=q3.job (congrArg (· + 1) hp)
   simp only[Value.slice.injEq,Option.some.injEq,Addr.mk.injEq,and_true,true_and]at he
   obtain⟨⟨rfl,rfl⟩,rfl⟩:=he
   simp only[]at e0 e1 e2
   have hno1:¬kown b xs1 (.slice (some ⟨g,o,none⟩) n c) cb cv w.heap.size:=fun hh=>by
    rcases K2 _ hh with h|h
    ·exact H_hno.out h
    ·omega
   have hz3:=Vg.lt_of z3
   by_cases hd:wn=jc
   ·have hbq:(wn==jc)=true:=by simp[hd]
    rw[if_pos hd]at hx
    simp only[Prod.mk.injEq]at hx
    obtain⟨rfl,rfl,⟨rfl,rfl,rfl⟩,rfl,rfl⟩:=hx
    clear hd
    have H_h2:=h_ h2;have H_hq2:=h_ hq2;have H_hj2:=h_ hj2;have H_hp:=h_ hp;have H_q3:=h_ q3;have H_s3:=h_ s3;have H_t3:=h_ t3;have H_hrow3:=h_ hrow3;have H_K1:=h_ K1;have H_K2:=h_ K2;have H_K3:=h_ K3;have H_hx1:=h_ hx1;have H_hn1:=h_ hn1;have H_hm1:=h_ hm1;have H_z2:=h_ z2;have H_z3:=h_ z3;have H_hno1:=h_ hno1;have H_hofi:=h_ hofi;have H_hcvl:=h_ hcvl;clear h2 hq2 hj2 hp q3 s3 t3 hrow3 K1 K2 K3 hx1 hn1 hm1 z2 z3 hno1 hofi hcvl
    go_upto_region 9 with(fail)
    (try rw[hW3])
    go_quiet (fail)
    go_wp2_with (fail)
    refine(kern_lock wn true (H_K1.out.grows (w':=W3.drewN nq) (Vg.gro)) hi1 H_hx1.out rfl).mono ?_
    rintro e W4 ⟨rfl,h4,t4⟩
    have z4:=t4.bk (k:=w.heap.size) H_z3.out (fun hh=>Nat.lt_irrefl _ (H_hcvl.out _ hh))
    have hz4:=Vg.lt_of z4
    have hq4:=h4.row
    have hj4:=h4.job i hi1
    rw[H_hn1.out]at hq4
    rw[H_hx1.out]at hj4
    simp only[List.length_cons,H_hp.out]at hj4
    obtain⟨jg',jo',jcap',he,-,hjg4,-,-,e0,e1,e2⟩:=hj4.job (congrArg (· + 1) H_hp.out)
    simp only[Value.slice.injEq,Option.some.injEq,Addr.mk.injEq,and_true,true_and]at he
    obtain⟨⟨rfl,rfl⟩,rfl⟩:=he
    obtain⟨g',o',he,-,hg4,-,-,hcx⟩:=hq4.task H_hn1.out i hi1
    simp only[Option.some.injEq,Addr.mk.injEq,and_true]at he
    obtain⟨rfl,rfl⟩:=he
    have m10:=hcx 10 (by decide)
    rw[H_hx1.out]at m10
    simp only[Vg.kcell]at m10 e0 e1 e2
    have hfq:=hq4.frozen
    clear hcx
    have f5:∀(v:Value),Vg.blk (W4.setCell ⟨g,o+i*13+10,none⟩ v) w.heap.size=some (doneC 0 0 0):=fun v=>(Vg.setCell_heap_other (by omega)).trans z4
    have hT4:Vg.Touch (kown b xs (.slice (some ⟨g,o,none⟩) n c) cb cv) W2 W4:=H_K3.out.trans ((Vg.Touch.of_grows (w':=W3.drewN nq) (Vg.gro)).trans (t4.mono fun k _ hk=>.inr (.inr (.inr (.inr hk)))))
    have hend:∀(v:Value) (Jn:List Vg.Jb) (oo:Obj),KTn W4 (W4.setCell ⟨g,o+i*13+10,none⟩ v) b xs1 (.slice (some ⟨g,o,none⟩) n c) cb (Vg.Kn.lockd M t i wn true) cv ((xs1.map (·.2)).set i ⟨t,Jn,lo,ou⟩)->KTn w (Vg.put (W4.setCell ⟨g,o+i*13+10,none⟩ v) w.heap.size oo) b xs (.slice (some ⟨g,o,none⟩) n c) cb (Vg.Kn.lockd M t i wn true) cv ((xs.map (·.2)).set i ⟨t,Jn,lo,ou⟩):=fun v Jn oo hk=>by
     have k6:=KTn.next H_K2.out hT4 hk
     rw[H_hm1.out,List.set_set]at k6
     exact KTn.put H_h2.out k6 hG2 (Nat.le_refl _) hz2 H_hno.out
    have H_h4:=h_ h4;have H_t4:=h_ t4;have H_hq4:=h_ hq4;have H_hj4:=h_ hj4;have H_z4:=h_ z4;have H_f5:=h_ f5;have H_hT4:=h_ hT4;have H_hend:=h_ hend;clear h4 t4 hq4 hj4 z4 f5 hT4 hend
    have z4:=H_z4.out
    obtain⟨c_z4,f_z4,p_z4,l_z4,H_z4⟩:=Vg.lay z4;clear z4
    go_wp2_with fail
    go_region
    all_goals go_wp2_with fail
    ·have hq5:=H_hj4.out
     rw[show jcap=1 from by first|assumption|omega]at hq5
     have hq5:=hq5.tail1
     rw[show(Vg.jcells (⟨jc,ja,wn⟩ :: l)).drop 3=Vg.jcells l from by simp[Vg.jcells]]at hq5
     have k5:=kt_jobs_end (J2:=l) H_hn1.out hi1 H_h4.out H_hx1.out (Vg.Touch.refl _ _) H_hq4.out (by rw[H_hp.out];exact hq5) (fun k hk=>.inl (by simpa[Value.ownBlock]using hk))
     have k6:=H_hend.out _ _ (doneC i jc ja) k5
     rw[Vg.set3k (H_f5.out _)]
     have z6:Vg.blk (Vg.put (W4.setCell ⟨g,o+i*13+10,none⟩ (.slice (some ⟨jg,jo,none⟩) p 0)) w.heap.size (doneC i jc ja)) w.heap.size=some (doneC i jc ja):=Vg.put_heap_same (Vg.lt_of (H_f5.out _))
     obtain⟨W6,hW6⟩:∃W6,Vg.put (W4.setCell ⟨g,o+i*13+10,none⟩ (.slice (some ⟨jg,jo,none⟩) p 0)) w.heap.size (doneC i jc ja)=W6:=⟨_,rfl⟩
     rw[hW6]at k6 z6 ⊢
     obtain⟨c_z6,f_z6,p_z6,l_z6,H_z6⟩:=Vg.lay z6;clear z6
     have k7:=k6.grows (w3:=(W6.alloc (doneC i jc ja)).drew) (Vg.gro)
     have H_k7:=h_ k7;clear k7
     refine bodyPost_ret (by simp[results,Tryz.results59,go_sem,c_z6,l_z6] <;> try rfl) rfl ?_
     exact⟨rfl,H_k7.out⟩
    ·have hq5:=H_hj4.out.tail
     rw[show(Vg.jcells (⟨jc,ja,wn⟩ :: l)).drop 3=Vg.jcells l from by simp[Vg.jcells]]at hq5
     have k5:=kt_jobs_end (J2:=l) H_hn1.out hi1 H_h4.out H_hx1.out (Vg.Touch.refl _ _) H_hq4.out (by rw[H_hp.out];exact hq5) (fun k hk=>.inl (by simpa[Value.ownBlock]using hk))
     have k6:=H_hend.out _ _ (doneC i jc ja) k5
     rw[Vg.set3k (H_f5.out _)]
     have z6:Vg.blk (Vg.put (W4.setCell ⟨g,o+i*13+10,none⟩ (.slice (some ⟨jg,jo+3,none⟩) p (jcap-1))) w.heap.size (doneC i jc ja)) w.heap.size=some (doneC i jc ja):=Vg.put_heap_same (Vg.lt_of (H_f5.out _))
     obtain⟨W6,hW6⟩:∃W6,Vg.put (W4.setCell ⟨g,o+i*13+10,none⟩ (.slice (some ⟨jg,jo+3,none⟩) p (jcap-1))) w.heap.size (doneC i jc ja)=W6:=⟨_,rfl⟩
     rw[hW6]at k6 z6 ⊢
     obtain⟨c_z6,f_z6,p_z6,l_z6,H_z6⟩:=Vg.lay z6;clear z6
     have k7:=k6.grows (w3:=(W6.alloc (doneC i jc ja)).drew) (Vg.gro)
     have H_k7:=h_ k7;clear k7
     refine bodyPost_ret (by simp[results,Tryz.results59,go_sem,c_z6,l_z6] <;> try rfl) rfl ?_
     exact⟨rfl,H_k7.out⟩
   ·have hbq:(wn==jc)=false:=by simp[hd]
    rw[if_neg hd]at hx
    simp only[Prod.mk.injEq]at hx
    obtain⟨rfl,rfl,⟨rfl,rfl,rfl⟩,rfl,rfl⟩:=hx
    clear hd
    have H_h2:=h_ h2;have H_hq2:=h_ hq2;have H_hj2:=h_ hj2;have H_hp:=h_ hp;have H_q3:=h_ q3;have H_s3:=h_ s3;have H_t3:=h_ t3;have H_hrow3:=h_ hrow3;have H_K1:=h_ K1;have H_K2:=h_ K2;have H_K3:=h_ K3;have H_hx1:=h_ hx1;have H_hn1:=h_ hn1;have H_hm1:=h_ hm1;have H_z2:=h_ z2;have H_z3:=h_ z3;have H_hno1:=h_ hno1;have H_hofi:=h_ hofi;have H_hcvl:=h_ hcvl;clear h2 hq2 hj2 hp q3 s3 t3 hrow3 K1 K2 K3 hx1 hn1 hm1 z2 z3 hno1 hofi hcvl
    go_upto_region 9 with(fail)
    (try rw[hW3])
    go_quiet (fail)
    go_wp2_with (fail)
    refine(kern_lock wn false (H_K1.out.grows (w':=W3.drewN nq) (Vg.gro)) hi1 H_hx1.out rfl).mono ?_
    rintro e W4 ⟨rfl,h4,t4⟩
    have z4:=t4.bk (k:=w.heap.size) H_z3.out (fun hh=>Nat.lt_irrefl _ (H_hcvl.out _ hh))
    have hz4:=Vg.lt_of z4
    have hT4:Vg.Touch (kown b xs (.slice (some ⟨g,o,none⟩) n c) cb cv) W2 W4:=H_K3.out.trans ((Vg.Touch.of_grows (w':=W3.drewN nq) (Vg.gro)).trans (t4.mono fun k _ hk=>.inr (.inr (.inr (.inr hk)))))
    have k5:KTn W4 W4 b xs1 (.slice (some ⟨g,o,none⟩) n c) cb (Vg.Kn.lockd M t i wn false) cv ((xs.map (·.2)).set i ⟨t,⟨jc,ja,wn⟩ :: l,lo,ou⟩):=⟨xs1,h4,H_hm1.out,fun k hk=>.inl hk,Vg.Touch.refl _ _⟩
    have k6:=KTn.put (o:=doneC 0 0 0) H_h2.out (KTn.next H_K2.out hT4 k5) hG2 (Nat.le_refl _) hz2 H_hno.out
    have hput:=Vg.put_self z4
    obtain⟨c_z4,f_z4,p_z4,l_z4,H_z4⟩:=Vg.lay z4;clear z4
    have H_h4:=h_ h4;have H_t4:=h_ t4;have H_hT4:=h_ hT4;have H_k5:=h_ k5;have H_k6:=h_ k6;have H_hput:=h_ hput;clear h4 t4 hT4 k5 k6 hput
    go_wp2_with fail
    have z6:Vg.blk (Vg.put W4 w.heap.size (doneC 0 0 0)) w.heap.size=some (doneC 0 0 0):=Vg.put_heap_same hz4
    have k6:=H_k6.out
    obtain⟨W6,hW6⟩:∃W6,Vg.put W4 w.heap.size (doneC 0 0 0)=W6:=⟨_,rfl⟩
    rw[hW6]at k6 z6 ⊢
    obtain⟨c_z6,f_z6,p_z6,l_z6,H_z6⟩:=Vg.lay z6;clear z6
    have H_k6:=h_ k6;clear k6
    refine bodyPost_ret (by simp[results,Tryz.results59,go_sem,c_z6,l_z6] <;> try rfl) rfl ?_
    exact⟨rfl,H_k6.out⟩
end
end Go.Proofs.YtlkdkgefjipjmaaGreatDoor
