/- ExP, ExR, ExQ, ExN (put together). -/
import Derived.Test.YtlkdkgefjipjmaaGreatDoorP32
import Derived.Test.YtlkdkgefjipjmaaGreatDoorP30
import Derived.Laws.CopyRow
import Derived.Test.YtlkdkgefjipjmaaGreatDoorQ0
set_option linter.all false
set_option maxHeartbeats 40000000
set_option maxRecDepth 100000
namespace Vg
open Go
def sm(f:Nat->Nat):Nat->Nat
 | 0=>0
 | n+1=>sm f n+f n
theorem sm_congr{f g:Nat->Nat}:∀n,(∀i,i<n->f i=g i)->sm f n=sm g n
 | 0,_=>rfl
 | n+1,h=>by
  simp only[sm]
  rw[sm_congr n (fun i hi=>h i (by omega)),h n (by omega)]
theorem sm_set{f g:Nat->Nat}{i:Nat}:∀n,i<n->(∀j,j<n->j≠i->f j=g j)->sm f n+g i=sm g n+f i
 | 0,h,_=>absurd h (by omega)
 | n+1,h,hj=>by
  simp only[sm]
  by_cases e:i=n
  ·subst e
   rw[sm_congr i (fun j hj'=>hj j (by omega) (by omega))]
   omega
  ·have h1:=sm_set n (by omega:i<n) (fun j h1 h2=>hj j (by omega) h2)
   have h2:=hj n (by omega) (fun e2=>e e2.symm)
   omega
def tms(en p:Int):Option Int->Nat
 | none=>0
 | some v=>if v<=en then((en-v)/p).toNat+1 else 0
theorem tms_next{en p v:Int}(hp:1<=p)(hv:v<=en):tms en p (some (v+p))+1=tms en p (some v):=by
 simp only[tms]
 rw[if_pos hv]
 by_cases h:v+p<=en
 ·rw[if_pos h]
  have e:en-(v+p)=(en-v)+(-1)*p:=by omega
  have e2:(en-(v+p))/p=(en-v)/p + -1:=by rw[e,Int.add_mul_ediv_right _ _ (by omega)]
  have h0:0<=(en-(v+p))/p:=Int.ediv_nonneg (by omega) (by omega)
  omega
 ·rw[if_neg h]
  have e2:(en-v)/p=0:=Int.ediv_eq_zero_of_lt (by omega) (by omega)
  rw[e2];rfl
theorem tms_last{en p v:Int}(hp:1<=p)(hv:v<=en)(hn:en<v+p):tms en p (some v)=1:=by
 simp only[tms]
 rw[if_pos hv,Int.ediv_eq_zero_of_lt (by omega) (by omega)];rfl
def Ad.pe(A:Ad)(i:Nat):Int:=(A.T[i]?.map (·.pe)).getD 1
def VOk(A:Ad)(V P:Int->Option Int):Prop:=∀z v,V z=some v->(∃i:Nat,z=i/\i<A.T.length/\P z=some (A.pe i))/\0<=v/\v<=4503599627370496
def Ad.fi(A:Ad)(en:Int)(V:Int->Option Int):Nat:=sm (fun i=>tms en (A.pe i) (V i)) A.T.length
theorem fire1_ok {A:Ad} {en:Int} {V P:Int->Option Int} {z t:Int} (hp:∀i,1<=A.pe i) (hv:VOk A V P) (hz:V z=some t) (ht:t<=en) (hen:en<=4503599627370496) :
  VOk A (fire1 V P z t).1 (fire1 V P z t).2/\A.fi en (fire1 V P z t).1+1=A.fi en V:=by
 obtain⟨⟨i,rfl,hi,hPi⟩,h0,h1⟩:=hv _ _ hz
 have hpi:=hp i
 unfold fire1
 rw[hPi]
 simp only[Option.getD_some]
 rw[if_neg (by omega)]
 by_cases h:t+A.pe i<=4503599627370496
 ·rw[if_pos h]
  refine⟨fun z v hz'=>?_,?_⟩
  ·have hz2:(if z=(i:Int)then some (t+A.pe i)else V z)=some v:=hz'
   by_cases e:z=(i:Int)
   ·rw[if_pos e]at hz2
    simp only[Option.some.injEq]at hz2
    subst e hz2
    exact⟨⟨i,rfl,hi,hPi⟩,by omega,h⟩
   ·rw[if_neg e]at hz2
    exact hv z v hz2
  ·have h9:=sm_set (f:=fun j=>tms en (A.pe j) (V j)) (g:=fun j=>tms en (A.pe j) (if(j:Int)=(i:Int)then some (t+A.pe i)else V j)) (i:=i) A.T.length hi (fun j hj hne=>by
    rw[if_neg (by omega)])
   simp only[if_true,hz]at h9
   have h8:=tms_next hpi ht
   show sm _ _+1=sm _ _
   simp only
   omega
 ·rw[if_neg h]
  refine⟨fun z v hz'=>?_,?_⟩
  ·have hz':(if z=(i:Int)then none else V z)=some v:=hz'
   by_cases e:z=(i:Int)
   ·rw[if_pos e]at hz';cases hz'
   ·rw[if_neg e]at hz'
    simp only
    rw[if_neg e]
    exact hv z v hz'
  ·have h9:=sm_set (f:=fun j=>tms en (A.pe j) (V j)) (g:=fun j=>tms en (A.pe j) (if(j:Int)=(i:Int)then none else V j)) (i:=i) A.T.length hi (fun j hj hne=>by
    rw[if_neg (by omega)])
   simp only[if_true,hz]at h9
   have h8:=tms_last hpi ht (by omega:en<t+A.pe i)
   have h7:tms en (A.pe i) none=0:=rfl
   show sm _ _+1=sm _ _
   simp only
   omega
theorem Fires.ok{A:Ad}{en t':Int}{S S':VP}{l:List (Int×Int)}(h:Fires t' S l S')(hp:∀i,1<=A.pe i)(ht:t'<=en)(hen:en<=4503599627370496)(hv:VOk A S.1 S.2):
  VOk A S'.1 S'.2/\A.fi en S'.1+l.length=A.fi en S.1/\∀x∈l,(∃i:Nat,x.1=i/\i<A.T.length)/\0<=x.2/\x.2<=4503599627370496:=by
 induction h with
 | nil=>exact⟨hv,by simp,by simp⟩
 | snoc h hz hl ih=>
  obtain⟨a1,a2,a3⟩:=ih
  obtain⟨b1,b2⟩:=fire1_ok (en:=en) hp a1 hz (by omega) hen
  obtain⟨⟨i,c1,c2,c3⟩,c4,c5⟩:=a1 _ _ hz
  refine⟨b1,by rw[List.length_append];simp only[List.length_cons,List.length_nil];omega,fun x hx=>?_⟩
  rcases List.mem_append.1 hx with hx|hx
  ·exact a3 x hx
  ·have:=List.mem_singleton.1 hx
   subst this
   exact⟨⟨i,c1,c2⟩,c4,c5⟩
structure Xk(A:Ad)(k:Nat)(s:Xp):Prop where
 ki:Kn.Inv k s.K
 kl:s.K.length=A.T.length
 bl:s.B.length=A.T.length
 bw:∀i (h:i<s.K.length)(h':i<s.B.length),s.B[i].wh.length=s.K[i].J.length
 bc:∀i (h:i<s.B.length),0<=s.B[i].co/\s.B[i].co<=1099511627776
theorem Xk.of{A:Ad}{k:Nat}{s s':Xp}(h:Xk A k s)(e1:s'.K=s.K)(e2:s'.B=s.B):Xk A k s':=by
 obtain⟨t,t0,V,P,K,M,B,rk,rn,ms,id⟩:=s
 obtain⟨t',t0',V',P',K',M',B',rk',rn',ms',id'⟩:=s'
 simp only at e1 e2
 subst e1 e2
 exact⟨h.ki,h.kl,h.bl,h.bw,h.bc⟩
theorem Kn.run_cases{k:Nat}{K:List Kt}{M:List Mx}(h:Kn.Inv k K)(n:Int):
  ((Kn.run K M n).1=K/\(Kn.run K M n).2.2.2.1=false/\(Kn.best K M<0\/n<0\/Kn.left K M<n)) \/
  ∃(i:Nat)(hi:i<K.length)(t:Tk)(j:Jb)(l:List Jb)(lo:Int),Kn.best K M=i/\K[i]=⟨t,j::l,lo,false⟩/\Kt.good k ⟨t,j::l,lo,false⟩/\Kn.left K M=Kn.leftJ t j/\0<=n/\n<=Kn.leftJ t j /\
   ((j.went+n=j.cost/\(Kn.run K M n).1=K.set i ⟨t,l,lo,false⟩/\(Kn.run K M n).2.2.2.1=true/\(Kn.run K M n).2.2.1=((i:Int),j.cost,j.at_)) \/
   (j.went+n≠j.cost/\(Kn.run K M n).1=K.set i ⟨t,⟨j.cost,j.at_,j.went+n⟩::l,lo,false⟩/\(Kn.run K M n).2.2.2.1=false)):=by
 rcases Kn.best_cases (M:=M) h with⟨hb,_⟩|⟨i,hi,hb,ha,_⟩
 ·left
  rw[Kn.run_none hb]
  exact⟨rfl,rfl,.inl (by omega)⟩
 ·obtain⟨_,t,j,l,lo,hx,hg⟩:=Kn.able_at h ha
  have hl:=Kn.left_some (M:=M) hb hi hx
  rw[Kn.run_some hb hi hx]
  unfold Kn.runAt
  by_cases hn:n<0\/Kn.leftJ t j<n
  ·left
   rw[if_pos hn]
   exact⟨rfl,rfl,by rw[hl];omega⟩
  ·right
   rw[if_neg hn]
   refine⟨i,hi,t,j,l,lo,hb,hx,hg,hl,by omega,by omega,?_⟩
   by_cases hd:j.went+n=j.cost
   ·rw[if_pos hd];exact .inl ⟨hd,rfl,rfl,rfl⟩
   ·rw[if_neg hd];exact .inr ⟨hd,rfl,rfl⟩
theorem Xk.goes{A:Ad}{k:Nat}{s:Xp}(h:Xk A k s)(n t:Int):Xk A k (s.goes A n t):=by
 have hI:=Kn.Inv.run h.ki s.M n
 unfold Xp.goes
 split
 ·rcases Kn.run_cases (M:=s.M) h.ki n with⟨e1,e2,_⟩|⟨i,hi,t1,j,l,lo,hb,hx,hg,hl,h0,h1,⟨hd,e1,e2,e3⟩|⟨hd,e1,e2⟩⟩
  ·rw[e2,if_neg (by simp),e1]
   exact h.of rfl rfl
  ·rw[e2,if_pos rfl,e1,e3]
   rw[e1]at hI
   have hib:i<s.B.length:=by rw[h.bl,<-h.kl];exact hi
   have hw:=h.bw i hi hib
   rw[hx]at hw
   unfold Xp.fin
   simp only[Int.toNat_natCast,getD_bk hib]
   refine⟨hI,?_,?_,fun q hq hq'=>?_,fun q hq=>?_⟩
   ·show(s.K.set _ _).length=_;rw[List.length_set];exact h.kl
   ·show(s.B.set _ _).length=_;rw[List.length_set];exact h.bl
   ·simp only[List.length_set]at hq hq'
    simp only[List.getElem_set]
    by_cases e:i=q
    ·subst e
     simp only[if_true,List.length_tail]
     simp only[List.length_cons]at hw
     omega
    ·simp only[if_neg e];exact h.bw q hq hq'
   ·simp only[List.length_set]at hq
    simp only[List.getElem_set]
    by_cases e:i=q
    ·subst e
     simp only[if_true];exact h.bc i hib
    ·simp only[if_neg e];exact h.bc q hq
  ·rw[e2,if_neg (by simp),e1]
   rw[e1]at hI
   refine⟨hI,?_,h.bl,fun q hq hq'=>?_,h.bc⟩
   ·show(s.K.set _ _).length=_;rw[List.length_set];exact h.kl
   ·simp only[List.length_set]at hq
    have hw:=h.bw q hq hq'
    simp only[List.getElem_set]
    by_cases e:i=q
    ·subst e
     rw[hx]at hw
     simp only[if_true]
     rw[hw];rfl
    ·simp only[if_neg e];exact hw
 ·exact h.of rfl rfl
theorem Xk.gone{A:Ad}{k:Nat}{s:Xp}(h:Xk A k s)(t:Int):Xk A k (s.gone A t):=by
 unfold Xp.gone
 split
 ·exact h.goes _ _
 ·exact h
theorem Xk.rel {A:Ad} {k:Nat} {s:Xp} (h:Xk A k s) (i:Nat) (hi:i<A.T.length) (c a:Int):Xk A (k+1) (s.rel A i c a):=by
 have hI:=Kn.Inv.release h.ki i (c+A.sw) a
 have hik:i<s.K.length:=by rw[h.kl];exact hi
 have hib:i<s.B.length:=by rw[h.bl];exact hi
 have hr:=Kn.release_in (K:=s.K) (c:=c+A.sw) (a:=a) hik
 unfold Xp.rel
 by_cases h1:c+A.sw<1\/1099511627776<c+A.sw\/a<0\/4503599627370496<a
 ·rw[if_pos h1]at hr
  rw[hr]at hI ⊢
  simp only[show((1:Int)=0)=False by simp,if_false]
  exact⟨hI,h.kl,h.bl,h.bw,h.bc⟩
 ·rw[if_neg h1]at hr
  by_cases h2:s.K[i].t.ro<=s.K[i].J.length
  ·rw[if_pos h2]at hr
   rw[hr]at hI ⊢
   simp only[show((5:Int)=0)=False by simp,if_false]
   refine⟨hI,by simp only[List.length_set];exact h.kl,h.bl,fun q hq hq'=>?_,h.bc⟩
   simp only[List.length_set]at hq
   have hw:=h.bw q hq hq'
   simp only[List.getElem_set]
   by_cases e:i=q
   ·subst e;simp only[if_true];exact hw
   ·simp only[if_neg e];exact hw
  ·rw[if_neg h2]at hr
   rw[hr]at hI ⊢
   simp only[if_true]
   have hbe:(s.B[i]?.getD ⟨0,[],St.zero⟩)=s.B[i]:=by rw[List.getElem?_eq_getElem hib];rfl
   rw[hbe]
   refine⟨hI,by simp only[List.length_set];exact h.kl,by simp only[List.length_set];exact h.bl,fun q hq hq'=>?_,fun q hq=>?_⟩
   ·simp only[List.length_set]at hq hq'
    have hw:=h.bw q hq hq'
    simp only[List.getElem_set]
    by_cases e:i=q
    ·subst e;simp only[if_true,List.length_append,List.length_cons,List.length_nil];omega
    ·simp only[if_neg e];exact hw
   ·simp only[List.length_set]at hq
    simp only[List.getElem_set]
    by_cases e:i=q
    ·subst e;simp only[if_true];exact h.bc i hib
    ·simp only[if_neg e];exact h.bc q hq
theorem Xk.fired{A:Ad}:∀(l:List (Int×Int)){k:Nat}{s:Xp},Xk A k s->(∀x∈l,∃i:Nat,x.1=i/\i<A.T.length)->Xk A (k+l.length) (s.fired A l)
 | [],k,s,h,_=>h
 | x::l,k,s,h,hx=>by
  obtain⟨i,e,hi⟩:=hx x (by simp)
  have h1:Xk A (k+1) (s.fire A x):=by
   unfold Xp.fire
   rw[e,Int.toNat_natCast]
   exact h.rel i hi _ _
  have h2:=Xk.fired l h1 (fun y hy=>hx y (List.mem_cons_of_mem _ hy))
  have e3:k+1+l.length=k+(x::l).length:=by simp only[List.length_cons];omega
  rw[e3]at h2
  exact h2
theorem Xp.settle_eq(s:Xp):s.settle.K=s.K/\s.settle.M=s.M/\s.settle.B=s.B/\s.settle.t=s.t/\s.settle.t0=s.t0/\s.settle.V=s.V/\s.settle.P=s.P/\s.settle.idle=s.idle/\s.settle.ms.length<=s.ms.length+1/\(s.settle.rk,s.settle.rn)=s.run:=by
 unfold Xp.settle
 split
 ·rename_i h
  exact⟨rfl,rfl,rfl,rfl,rfl,rfl,rfl,rfl,by omega,h.symm⟩
 ·exact⟨rfl,rfl,rfl,rfl,rfl,rfl,rfl,rfl,by simp,rfl⟩
structure Xi(A:Ad)(en:Int)(k:Nat)(s:Xp):Prop where
 xk:Xk A k s
 rn:(s.rk,s.rn)=s.run
 vo:VOk A s.V s.P
 id:0<=s.idle/\s.idle<=s.t
 tm:0<=s.t0/\s.t0<=s.t/\s.t<=en
 le:∀nx,NxV s.V nx true->s.t<=wkA A.mn A.mx s.t0 nx
structure AOk(A:Ad)(en:Int):Prop where
 pe:∀i,1<=A.pe i
 tm:1<=A.mn/\A.mx<2147483648/\2*A.mn<=A.mx
 tl:A.T.length<=32
 en:en<=4503599627370496
theorem Xi.left{A:Ad}{en:Int}{k:Nat}{s:Xp}(h:Xi A en k s):(s.rk=0\/s.rk=1)/\(0<=s.left/\s.left<=1099511627776)/\(s.rk=1->1<=s.left):=by
 have hr:=h.rn
 unfold Xp.run at hr
 unfold Xp.left
 rcases Kn.best_cases (M:=s.M) h.xk.ki with⟨hb,_⟩|⟨i,hi,hb,ha,_⟩
 ·rw[if_neg (by omega)]at hr
  simp only[Prod.mk.injEq]at hr
  rw[hr.1]
  simp
 ·rw[if_pos (by omega)]at hr
  simp only[Prod.mk.injEq]at hr
  rw[hr.1]
  obtain⟨_,t,j,l,lo,hx,hg⟩:=Kn.able_at h.xk.ki ha
  have hl:=Kn.left_some (M:=s.M) hb hi hx
  have hp:=Kn.leftJ_pos (t:=t) (hg.js j (by simp))
  simp only[if_true]
  rw[hl]
  exact⟨by simp,by omega,fun _=>hp.1⟩
theorem Xp.goes_id(A:Ad)(s:Xp)(n t:Int)(hn:0<=n):s.idle<=(s.goes A n t).idle/\(s.goes A n t).idle<=s.idle+n:=by
 unfold Xp.goes Xp.fin
 split
 ·split<;>(simp only;omega)
 ·simp only;omega
theorem Xp.fired_id(A:Ad):∀(l:List (Int×Int))(s:Xp),(s.fired A l).idle=s.idle/\(s.fired A l).M=s.M
 | [],s=>⟨rfl,rfl⟩
 | x::l,s=>by
  obtain⟨a1,a2⟩:=Xp.fired_id A l (s.fire A x)
  have b:(s.fire A x).idle=s.idle/\(s.fire A x).M=s.M:=by unfold Xp.fire Xp.rel;split<;>exact⟨rfl,rfl⟩
  exact⟨a1.trans b.1,a2.trans b.2⟩
theorem Step.parts {A:Ad} {en:Int} {k c:Nat} {s s':Xp} (hA:AOk A en) (h:Xi A en k s) (hs:Step A en s s' c) :
  ∃nx is a l V' P' t0',Wk A s nx is a/\Go1 en s is a/\Clk A (s.nxt a is en) s.V s.P s.t0 l V' P' t0'/\c=l.length/\s'=(Xp.fired A ((s.gone A (s.nxt a is en)).clk (s.nxt a is en) V' P' t0') l).settle /\
   (is=true->s.t<=a/\a=wkA A.mn A.mx s.t0 nx)/\s.t<=s.nxt a is en/\s.nxt a is en<=en/\(is=true->s.nxt a is en<=a)/\(s.rk≠0->s.nxt a is en<=s.t+s.left) /\
   (∀x∈l,∃i:Nat,x.1=i/\i<A.T.length)/\VOk A V' P'/\A.fi en V'+l.length=A.fi en s.V/\s'.t=s.nxt a is en/\s'.V=V'/\s'.P=P'/\s'.t0=t0':=by
 obtain⟨nx,is,a,l,V',P',t0',hw,hg,hc,rfl,rfl⟩:=hs
 have ha:is=true->s.t<=a/\a=wkA A.mn A.mx s.t0 nx:=fun e=>by
  subst e
  obtain⟨h1,h2⟩:=hw
  rw[if_pos rfl]at h2
  exact⟨by rw[<-h2];exact h.le nx h1,h2.symm⟩
 obtain⟨b1,b2,b3,b4⟩:=Xp.nxt_bd (A:=A) (en:=en) (a:=a) (is:=is) h.left.2.1.1 h.tm.2.2 (fun e=>(ha e).1)
 have hf:VOk A V' P'/\A.fi en V'+l.length=A.fi en s.V/\∀x∈l,∃i:Nat,x.1=i/\i<A.T.length:=by
  rcases hc with⟨rfl,rfl,rfl,rfl,_⟩|⟨hf,rfl,_,_⟩
  ·exact⟨h.vo,by simp,by simp⟩
  ·obtain⟨c1,c2,c3⟩:=hf.ok (A:=A) hA.pe b2 hA.en h.vo
   exact⟨c1,c2,fun x hx=>(c3 x hx).1⟩
 obtain⟨z1,z2,z3,z4,z5,z6,z7,z8,z9,z10⟩:=Xp.settle_eq (Xp.fired A ((s.gone A (s.nxt a is en)).clk (s.nxt a is en) V' P' t0') l)
 obtain⟨y1,y2,y3,y4,y5,y6⟩:=Xp.fired_B A l ((s.gone A (s.nxt a is en)).clk (s.nxt a is en) V' P' t0')
 exact⟨nx,is,a,l,V',P',t0',hw,hg,hc,rfl,rfl,ha,b1,b2,b3,b4,hf.2.2,hf.1,hf.2.1,z4.trans y3,z6.trans y4,z7.trans y5,z5.trans y6⟩
theorem Clk.lt{A:Ad}{en t' t0 t0':Int}{V P V' P':Int->Option Int}{l:List (Int×Int)}(hA:AOk A en)(hv:VOk A V' P')(hc:Clk A t' V P t0 l V' P' t0'):∀nx,NxV V' nx true->t'<wkA A.mn A.mx t0' nx:=by
 intro nx hn
 rcases hc with⟨rfl,rfl,rfl,rfl,h⟩|⟨hf,rfl,h,_⟩
 ·exact h nx hn
 ·rcases hn with⟨h9,_⟩|⟨_,⟨z,hz⟩,_⟩
  ·cases h9
  ·exact(wkA_rng hA.tm (hv z nx hz).2.2 (h z nx hz)).1
theorem Xi.step{A:Ad}{en:Int}{k c:Nat}{s s':Xp}(hA:AOk A en)(h:Xi A en k s)(hs:Step A en s s' c):Xi A en (k+c) s'/\s'.ms.length<=s.ms.length+2+c/\A.fi en s'.V+c=A.fi en s.V/\s.t<=s'.t/\(∀nx,NxV s'.V nx true->s'.t<wkA A.mn A.mx s'.t0 nx):=by
 obtain⟨nx,is,a,l,V',P',t0',hw,hg,hc,rfl,hs',ha,b1,b2,b3,b4,b5,b6,b7,e1,e2,e3,e4⟩:=hs.parts hA h
 have hlt:=Clk.lt hA b6 hc
 obtain⟨t',ht'⟩:∃t',s.nxt a is en=t':=⟨_,rfl⟩
 rw[ht']at hs' b1 b2 b3 b4 e1 hlt hc
 have hk1:Xk A (k+l.length) s':=by
  obtain⟨z1,z2,z3,_⟩:=Xp.settle_eq (Xp.fired A ((s.gone A t').clk t' V' P' t0') l)
  have h1:Xk A k ((s.gone A t').clk t' V' P' t0'):=(h.xk.gone t').of rfl rfl
  exact(Xk.fired l h1 b5).of (by rw[hs'];exact z1) (by rw[hs'];exact z3)
 have hid:0<=s'.idle/\s'.idle<=t':=by
  have z8:=(Xp.settle_eq (Xp.fired A ((s.gone A t').clk t' V' P' t0') l)).2.2.2.2.2.2.2.1
  have y:=(Xp.fired_id A l ((s.gone A t').clk t' V' P' t0')).1
  have x:((s.gone A t').clk t' V' P' t0').idle=(s.gone A t').idle:=rfl
  rw[hs',z8,y,x]
  have h0:=h.id
  unfold Xp.gone
  split
  ·have:=Xp.goes_id A s (t'-s.t) t' (by omega);omega
  ·omega
 have hms:s'.ms.length<=s.ms.length+2+l.length:=by
  have z9:=(Xp.settle_eq (Xp.fired A ((s.gone A t').clk t' V' P' t0') l)).2.2.2.2.2.2.2.2.1
  have y:=(Xp.fired_B A l ((s.gone A t').clk t' V' P' t0')).2.1
  have x:((s.gone A t').clk t' V' P' t0').ms=(s.gone A t').ms:=rfl
  have g:=(Xp.gone_B A s t').2.1
  rw[x]at y
  rw[hs']
  omega
 refine⟨⟨hk1,?_,by rw[e2,e3];exact b6,by rw[e1];exact hid,?_,fun nx2 hn2=>?_⟩,hms,by rw[e2];exact b7,by rw[e1];exact b1,fun nx2 hn2=>?_⟩
 ·have z:=Xp.settle_eq (Xp.fired A ((s.gone A t').clk t' V' P' t0') l)
  have z10:=z.2.2.2.2.2.2.2.2.2
  rw[hs',z10]
  unfold Xp.run
  rw[z.1,z.2.1]
 ·rw[e1,e4]
  have h0:=h.tm
  rcases hc with⟨rfl,rfl,rfl,rfl,_⟩|⟨_,rfl,_⟩
  ·exact⟨h0.1,by omega,b2⟩
  ·exact⟨by omega,by omega,b2⟩
 ·rw[e2]at hn2
  rw[e1,e4]
  exact Int.le_of_lt (hlt nx2 hn2)
 ·rw[e2]at hn2
  rw[e1,e4]
  exact hlt nx2 hn2
theorem Xi.steps{A:Ad}{en:Int}{k m F:Nat}{s s':Xp}(hA:AOk A en)(h:Xi A en k s)(hs:Steps A en m F s s'):Xi A en (k+F) s'/\s'.ms.length<=s.ms.length+2*m+F/\A.fi en s'.V+F=A.fi en s.V/\s.t<=s'.t:=by
 induction hs with
 | nil s=>exact⟨h,by omega,by omega,by omega⟩
 | snoc h1 h2 ih=>
  obtain⟨a1,a2,a3,a4⟩:=ih h
  obtain⟨b1,b2,b3,b4,_⟩:=a1.step hA h2
  exact⟨by rw[<-Nat.add_assoc];exact b1,by omega,by omega,by omega⟩
theorem Xi.xc{A:Ad}{en:Int}{k:Nat}{s:Xp}(hA:AOk A en)(h:Xi A en k s)(hms:s.ms.length<=60000)(hf:A.fi en s.V<1024):Xc A en s:=by
 obtain⟨l1,l2,_⟩:=h.left
 refine⟨l1,l2,h.tm.2.2,hms,h.id,?_,?_,?_⟩
 ·intro n K' M' d1 d2 d3 r hr
  rcases Kn.run_cases (M:=s.M) h.xk.ki n with⟨e1,e2,_⟩|⟨i,hi,t1,j,l,lo,hb,hx,hg,hl,h0,h1,⟨hd,e1,e2,e3⟩|⟨hd,e1,e2⟩⟩
  ·rw[hr]at e2;cases e2
  ·rw[hr]at e3
   simp only[Prod.mk.injEq]at e3
   obtain⟨rfl,rfl,rfl⟩:=e3
   have hib:i<s.B.length:=by rw[h.xk.bl,<-h.xk.kl];exact hi
   have hw:=h.xk.bw i hi hib
   rw[hx]at hw
   have hj:=hg.js j (by simp)
   refine⟨i,rfl,⟨hib,fun e=>?_⟩,hj.2.2.1,hj.2.2.2⟩
   rw[e]at hw
   simp at hw
  ·rw[hr]at e2;cases e2
 ·intro t' l V' P' ht hF
  obtain⟨c1,c2,c3⟩:=hF.ok (A:=A) hA.pe ht hA.en h.vo
  simp only at c2
  refine⟨by omega,fun x hx=>?_⟩
  obtain⟨⟨i,e,hi⟩,_⟩:=c3 x hx
  exact⟨i,e,by rw[h.xk.bl];exact hi,by have:=hA.tl;omega⟩
 ·intro x hx
  obtain⟨i,hi,rfl⟩:=List.getElem_of_mem hx
  have hik:i<s.K.length:=by rw[h.xk.kl,<-h.xk.bl];exact hi
  have hw:=h.xk.bw i hik hi
  have hg:=h.xk.ki _ (List.getElem_mem hik)
  have h1:=hg.len
  have h2:=hg.t.2.1.2
  have h3:=h.xk.bc i hi
  exact⟨by omega,h3⟩
theorem Xi.adv{A:Ad}{en:Int}{k:Nat}{s:Xp}(hA:AOk A en)(h:Xi A en k s)(hms:s.ms.length<=20000)(hf:A.fi en s.V<1024):
  ∀m F s',m<=16384->Steps A en m F s s'->Xc A en s'/\F<=100000:=fun m F s' hm hs=>by
 obtain⟨a1,a2,a3,a4⟩:=h.steps hA hs
 exact⟨a1.xc hA (by omega) (by omega),by omega⟩
end Vg
namespace Vg
open Go
def cameP(i:Nat)(m:Mrk):Bool:=decide (m.n=(i:Int))&&(decide (m.k=1)||decide (m.k=3))
def came(i:Nat)(ms:List Mrk):List Int:=(ms.filter (cameP i)).map (·.a)
def tmsL(o p:Int)(c:Nat):List Int:=(List.range c).map fun j:Nat=>o+j*p
def Rl(A:Ad)(st now:Int)(V:Int->Option Int)(cm:Nat->List Int):Prop:=
 ∀i (hi:i<A.T.length),(∀x∈cm i,x<=now)/\(A.T[i].kd=1->∃c:Nat,cm i=tmsL (st+A.T[i].og) A.T[i].pe c/\V i=some (st+A.T[i].og+c*A.T[i].pe))/\(A.T[i].kd≠1->V i=none/\cm i=[])
def Near(A:Ad)(s:Xp):Prop:=∀z v,s.V z=some v->s.t<v+A.mn
end Vg
namespace Vg
open Go
def rj(t:Tk)(j:Jb):Nat:=if 0<=t.lk/\j.went<t.tt/\t.tt<j.cost then 2 else 1
def rJ(t:Tk):List Jb->Nat
 | []=>0
 | j::l=>rj t j+rJ t l
def rK:List Kt->Nat
 | []=>0
 | x::K=>rJ x.t x.J+rK K
theorem rj_bd(t:Tk)(j:Jb):1<=rj t j/\rj t j<=2:=by unfold rj;split<;>omega
theorem rJ_snoc(t:Tk)(j:Jb):∀l,rJ t (l ++ [j])=rJ t l+rj t j
 | []=>by simp[rJ]
 | x::l=>by simp only[List.cons_append,rJ,rJ_snoc t j l];omega
theorem rK_set:∀(K:List Kt)(i:Nat)(h:i<K.length)(y:Kt),rK (K.set i y)+rJ K[i].t K[i].J=rK K+rJ y.t y.J
 | [],i,h,_=>by simp at h
 | x::K,0,_,y=>by simp only[List.set_cons_zero,rK,List.getElem_cons_zero];omega
 | x::K,i+1,h,y=>by
  have:=rK_set K i (by simpa using h) y
  simp only[List.set_cons_succ,rK,List.getElem_cons_succ];omega
theorem rK_rel(A:Ad)(s:Xp)(i:Nat)(c a:Int):rK (s.rel A i c a).K<=rK s.K+2:=by
 have e:(s.rel A i c a).K=(Kn.release s.K i (c+A.sw) a).1:=by unfold Xp.rel;split<;>rfl
 rw[e]
 by_cases hi:i<s.K.length
 ·rw[Kn.release_in hi]
  split
  ·show rK s.K<=_;omega
  ·split
   ·have:=rK_set s.K i hi ⟨s.K[i].t,s.K[i].J,s.K[i].lost+1,s.K[i].out⟩
    simp only at this ⊢
    omega
   ·have:=rK_set s.K i hi ⟨s.K[i].t,s.K[i].J ++ [⟨c+A.sw,a,0⟩],s.K[i].lost,s.K[i].out⟩
    simp only[rJ_snoc]at this ⊢
    have:=rj_bd s.K[i].t ⟨c+A.sw,a,0⟩
    omega
 ·rw[Kn.release_out (by omega)]
  show rK s.K<=_;omega
theorem rK_fired(A:Ad):∀(l:List (Int×Int))(s:Xp),rK (s.fired A l).K<=rK s.K+2*l.length
 | [],s=>Nat.le_refl _
 | x::l,s=>by
  have h1:=rK_fired A l (s.fire A x)
  have h2:rK (s.fire A x).K<=rK s.K+2:=rK_rel A s _ _ _
  have e:s.fired A (x::l)=(s.fire A x).fired A l:=rfl
  rw[e]
  simp only[List.length_cons]
  omega
theorem rK_goes{A:Ad}{en:Int}{k:Nat}{s:Xp}(h:Xi A en k s)(n t:Int)(h0:0<n):rK (s.goes A n t).K<=rK s.K/\(s.rk=1->n=s.left->rK (s.goes A n t).K+1<=rK s.K):=by
 have e:(s.goes A n t).K=if s.rk=1 then(Kn.run s.K s.M n).1 else s.K:=by
  unfold Xp.goes Xp.fin
  split
  ·split<;>rfl
  ·rfl
 rw[e]
 by_cases hr:s.rk=1
 ·rw[if_pos hr]
  have hb0:0<=Kn.best s.K s.M:=by
   have h9:=h.rn
   unfold Xp.run at h9
   by_cases hb:0<=Kn.best s.K s.M
   ·exact hb
   ·rw[if_neg hb]at h9
    simp only[Prod.mk.injEq]at h9
    omega
  have hlf:s.left=Kn.left s.K s.M:=by unfold Xp.left;rw[if_pos hr]
  rw[hlf]
  rcases Kn.run_cases (M:=s.M) h.xk.ki n with⟨e1,e2,e3⟩|⟨i,hi,t1,j,l,lo,hb,hx,hg,hl,h0,h1,⟨hd,e1,e2,e3⟩|⟨hd,e1,e2⟩⟩
  ·rw[e1]
   exact⟨Nat.le_refl _,fun _ hn=>by omega⟩
  ·rw[e1]
   have h9:=rK_set s.K i hi ⟨t1,l,lo,false⟩
   rw[hx]at h9
   simp only[rJ]at h9
   have:=rj_bd t1 j
   exact⟨by omega,fun _ _=>by omega⟩
  ·rw[e1]
   have h9:=rK_set s.K i hi ⟨t1,⟨j.cost,j.at_,j.went+n⟩::l,lo,false⟩
   rw[hx]at h9
   simp only[rJ]at h9
   have hm:rj t1 ⟨j.cost,j.at_,j.went+n⟩<=rj t1 j:=by
    unfold rj
    simp only
    by_cases hc:0<=t1.lk/\j.went<t1.tt/\t1.tt<j.cost
    ·rw[if_pos hc];split<;>omega
    ·rw[if_neg hc,if_neg (by omega)];omega
   refine⟨by omega,fun _ hn=>?_⟩
   rw[hl]at hn
   have hm2:rj t1 ⟨j.cost,j.at_,j.went+n⟩+1<=rj t1 j:=by
    unfold Kn.leftJ at hn
    unfold rj
    simp only
    by_cases hc:0<=t1.lk/\j.went<t1.tt/\t1.tt<j.cost
    ·rw[if_pos hc]at hn ⊢
     rw[if_neg (by omega)];omega
    ·rw[if_neg hc]at hn
     omega
   omega
 ·rw[if_neg hr]
  exact⟨Nat.le_refl _,fun h1=>absurd h1 hr⟩
theorem rK_gone{A:Ad}{en:Int}{k:Nat}{s:Xp}(h:Xi A en k s)(t:Int):rK (s.gone A t).K<=rK s.K/\(s.rk=1->t=s.t+s.left->rK (s.gone A t).K+1<=rK s.K):=by
 unfold Xp.gone
 by_cases h0:0<t-s.t
 ·rw[if_pos h0]
  obtain⟨a1,a2⟩:=rK_goes h (t-s.t) t h0
  exact⟨a1,fun hr e=>a2 hr (by omega)⟩
 ·rw[if_neg h0]
  refine⟨Nat.le_refl _,fun hr e=>?_⟩
  have:=h.left.2.2 hr
  omega
def lks(en D t0:Int):Nat:=((en-t0)/D).toNat
theorem lks_le {en D t0 t:Int} (hD:1<=D) (h:t0<=t):lks en D t<=lks en D t0:=by
 unfold lks
 have:=Int.ediv_le_ediv (by omega:0<D) (by omega:en-t<=en-t0)
 omega
theorem lks_lt {en D t0 t:Int} (hD:1<=D) (h:t0+D<=t) (he:t<=en):lks en D t+1<=lks en D t0:=by
 unfold lks
 have h1:=Int.ediv_le_ediv (by omega:0<D) (by omega:(en-t)+1*D<=en-t0)
 rw[Int.add_mul_ediv_right _ _ (by omega)]at h1
 have h0:0<=(en-t) / D:=Int.ediv_nonneg (by omega) (by omega)
 omega
def Xp.mu(A:Ad)(en D:Int)(s:Xp):Nat:=3*A.fi en s.V+rK s.K+lks en D s.t0
theorem Fires.nil'{t:Int}{S S':VP}{l:List (Int×Int)}(h:Fires t S l S')(hl:l=[]):S'=S:=by
 cases h with
 | nil=>rfl
 | snoc h1 h2 h3=>simp at hl
theorem Xi.dec {A:Ad} {en D:Int} {k c:Nat} {s s':Xp} (hA:AOk A en) (hD:1<=D/\D<=A.mx-A.mn) (h:Xi A en k s) (hs:Step A en s s' c):s'.mu A en D+1<=s.mu A en D\/(s'.t=en/\s'.mu A en D<=s.mu A en D):=by
 obtain⟨nx,is,a,l,V',P',t0',hw,hg,hc,rfl,hs',ha,b1,b2,b3,b4,b5,b6,b7,e1,e2,e3,e4⟩:=hs.parts hA h
 have hK:s'.K=(Xp.fired A ((s.gone A (s.nxt a is en)).clk (s.nxt a is en) V' P' t0') l).K:=by
  rw[hs'];exact(Xp.settle_eq _).1
 have hf:=rK_fired A l ((s.gone A (s.nxt a is en)).clk (s.nxt a is en) V' P' t0')
 rw[<-hK]at hf
 have hx:((s.gone A (s.nxt a is en)).clk (s.nxt a is en) V' P' t0').K=(s.gone A (s.nxt a is en)).K:=rfl
 rw[hx]at hf
 obtain⟨g1,g2⟩:=rK_gone h (s.nxt a is en)
 have hn:=(foldl_min (s.evs a is) en).2.2
 obtain⟨t',ht'⟩:∃t',s.nxt a is en=t':=⟨_,rfl⟩
 have hn':t'=en\/t'∈s.evs a is:=by rw[<-ht'];exact hn
 rw[ht']at hs' b1 b2 b3 b4 e1 hc hf g1 g2
 have htm:=h.tm
 unfold Xp.mu
 rw[e2,e4]
 rcases hc with⟨rfl,rfl,rfl,rfl,hlt⟩|⟨hF,rfl,hlt,nx2,hnx2,hta⟩
 ·simp only[List.length_nil]at hf b7
  rcases hn' with he|he
  ·exact .inr ⟨by rw[e1,he],by omega⟩
  ·left
   rcases List.mem_append.1 he with he|he
   ·exfalso
    cases is with
    | false=>simp at he
    | true=>
     simp only[if_true,List.mem_singleton]at he
     have h1:=ha rfl
     have h2:=hlt nx hw.1
     omega
   ·by_cases hr:s.rk=0
    ·rw[if_pos hr]at he;simp at he
    ·rw[if_neg hr]at he
     simp only[List.mem_singleton]at he
     have:=g2 (by rcases h.left.1 with h9|h9;exact absurd h9 hr;exact h9) he
     omega
 ·cases l with
  | cons x l=>
   left
   have h1:=lks_le (en:=en) (D:=D) hD.1 (by omega:s.t0<=t0')
   simp only[List.length_cons]at hf b7
   omega
  | nil=>
   have hV:=hF.nil' rfl
   simp only[Prod.mk.injEq]at hV
   obtain⟨rfl,rfl⟩:=hV
   simp only[List.length_nil]at hf
   rcases hnx2 with⟨h9,_⟩|⟨_,⟨z,hz⟩,hl2⟩
   ·cases h9
   ·have h1:=hlt z nx2 hz
    have hvr:=h.vo z nx2 hz
    unfold wkA at hta
    by_cases c1:nx2<=s.t0
    ·rw[if_pos c1]at hta;omega
    ·rw[if_neg c1]at hta
     by_cases c2:wk0 A.mn A.mx s.t0 nx2<=4503599627370496
     ·rw[if_pos c2]at hta
      left
      have h2:s.t0+D<=t0':=by
       unfold wk0 at hta
       have:=hA.tm
       by_cases c3:nx2-s.t0<A.mn
       ·rw[if_pos c3]at hta;omega
       ·rw[if_neg c3]at hta
        by_cases c4:nx2-s.t0<=A.mx
        ·rw[if_pos c4]at hta;omega
        ·rw[if_neg c4]at hta;omega
      have:=lks_lt hD.1 h2 b2
      omega
     ·rw[if_neg c2]at hta
      right
      have h1:=lks_le (en:=en) (D:=D) hD.1 (by omega:s.t0<=t0')
      have:=hA.en
      exact⟨by omega,by omega⟩
theorem Xi.decs{A:Ad}{en D:Int}{k m F:Nat}{s s':Xp}(hA:AOk A en)(hD:1<=D/\D<=A.mx-A.mn)(h:Xi A en k s)(hs:Steps A en m F s s'):
  m+s'.mu A en D<=s.mu A en D\/(m+s'.mu A en D<=s.mu A en D+1/\s'.t=en/\∀nx,NxV s'.V nx true->s'.t<wkA A.mn A.mx s'.t0 nx):=by
 induction hs with
 | nil s=>left;omega
 | snoc h1 h2 ih=>
  have hi:=(h.steps hA h1).1
  rcases ih h with a1|⟨a1,a2,a3⟩
  ·rcases hi.dec hA hD h2 with b1|⟨b1,b2⟩
   ·left;omega
   ·right;exact⟨by omega,b1,(hi.step hA h2).2.2.2.2⟩
  ·exfalso
   obtain⟨nx,is,a,l,V',P',t0',⟨hw1,hw2⟩,hg,_⟩:=h2
   unfold Go1 at hg
   rcases hg with hg|⟨rfl,hg⟩
   ·omega
   ·rw[if_pos rfl]at hw2
    have:=a3 nx hw1
    omega
theorem Xi.ends{A:Ad}{en D:Int}{k m F:Nat}{s s':Xp}(hA:AOk A en)(hD:1<=D/\D<=A.mx-A.mn)(h:Xi A en k s)(hs:Steps A en m F s s')(hmu:s.mu A en D<=16000)(he:Halt A en s'\/m=16384):s'.t=en:=by
 have hi:=(h.steps hA hs).1
 rcases he with⟨nx,is,a,_,hg⟩|he
 ·have:=hi.tm.2.2
  have h2:¬s'.t<en:=fun e=>hg (.inl e)
  omega
 ·rcases h.decs hA hD hs with h1|⟨h1,h2,_⟩<;>omega
end Vg
namespace Vg
open Go Go.RowKit
theorem run_copy_all{P:Program}(w:World)(dT sT ty e:TypeId)(i:TypeInfo)(size:Nat)(hu:P.underlying dT=some (.slice e))(hi:P.info? e=some i)(hsize:i.size=size)
  (g n dc:Nat)(sa:Option Addr)(sc B:Nat)(e2:TypeId)(xs:List Value)(hq:Que w B e2 size (.slice sa n sc) n xs)(h1:∀u∈xs,u.oneCell'=true)(cur:Array Value)(t:TypeId)(hg:blk w g=some (.cells cur t))(hc:cur.size=n*size):
  ∃w',(Builtin.copy_ #[dT,sT] ty #[.slice (some ⟨g,0,none⟩) n dc,.slice sa n sc]).run P w=.ok (.int .i64 n) w'/\blk w' g=some (.cells xs.toArray t)/\Touch (fun k=>k=g) w w':=by
 have hl:=hq.1
 rcases hq.reads with⟨hsv,hn,hnx⟩|⟨g2,off,cap,hsv,_,_,_,_,hcc⟩
 ·simp only[Value.slice.injEq]at hsv
  obtain⟨rfl,_,rfl⟩:=hsv
  subst hn hnx
  have hcur:cur=#[]:=Array.eq_empty_of_size_eq_zero (by omega)
  subst hcur
  exact⟨w,by simp[Builtin.copy_,run_underlying hu,Builtin.lenOf,Builtin.firstCells,Go.sizeOf,typeInfo,hi,storeCells,goInt],hg,Touch.refl _ w⟩
 ·simp only[Value.slice.injEq]at hsv
  obtain⟨rfl,_,rfl⟩:=hsv
  have hld:=run_loadCells_list (P:=P) w ⟨g2,off,none⟩ xs (Reads.news hcc)
  have hst:=run_storeCells_at P g 0 t xs 0 cur w hg (by omega) h1
  have hw:(w.setRow g (cur.toList.take (0+0)++xs++cur.toList.drop (0+0+xs.length)).toArray)=w.setRow g xs.toArray:=by
   congr 2
   have:cur.toList.drop xs.length=[]:=List.drop_of_length_le (by simp;omega)
   simp[this]
  rw[hw]at hst
  refine⟨w.setRow g xs.toArray,?_,setRow_heap w g cur _ t _ hg,⟨rfl,rfl,rfl,by simp[World.setRow],fun k _ hk=>setRow_other w g k _ hk⟩⟩
  have hnm:Nat.min n n=n:=Nat.min_self n
  rw[hl]at hld
  simp[Builtin.copy_,run_underlying hu,Builtin.lenOf,Builtin.firstCells,Go.sizeOf,typeInfo,hi,hsize,hnm,hld,hst,goInt]
theorem wpList_copy_all{P:Program}{w:World}{ops:Array Oper}{rest:List Oper}{o:Oper}{a:Act}{Q:Exit->Act->World->Prop}(hgd:o.guard=none)(d s:Operand)(dT sT:TypeId)
  (ho:o.op=.call { callee:=.builtin .copy,args:=#[d,s],argTypes:=#[dT,sT] })(e:TypeId)(hu:P.underlying dT=some (.slice e))(i:TypeInfo)(hi:P.info? e=some i)(size:Nat)(hsize:i.size=size)
  (g n dc:Nat)(hd:a.eval d=.slice (some ⟨g,0,none⟩) n dc)(sa:Option Addr)(sc B:Nat)(hs:a.eval s=.slice sa n sc)(e2:TypeId)(xs:List Value)(hq:Que w B e2 size (.slice sa n sc) n xs)(h1:∀u∈xs,u.oneCell'=true)(cur:Array Value)(t:TypeId)(hg:blk w g=some (.cells cur t))(hc:cur.size=n*size)
  (h:∀w',blk w' g=some (.cells xs.toArray t)->Touch (fun k=>k=g) w w'->wpList P ops Q rest (a.put o.dst (.int .i64 n)) w'):wpList P ops Q (o::rest) a w:=by
 refine wpList_plain hgd fun K hK=>?_
 obtain⟨w',hrun,h2,h3⟩:=run_copy_all (P:=P) w dT sT o.type e i size hu hi hsize g n dc sa sc B e2 xs hq h1 cur t hg hc
 unfold Oper.wp
 simp[execOp,ho,resolve,invoke,builtin,hd,hs,hrun,Result.andThen]
 exact hK _ _ (h w' h2 h3)
end Vg
namespace Go.Proofs.YtlkdkgefjipjmaaGreatDoor
open Go.ChangeShapes Go.WideShapes Go.ChangeAt Go.RowKit
theorem mk_marks(n:Nat)(hn:n<=1048576)(w:World):∃us:List Value,us.length=n*4/\(Instr.makeSlice 40 (.int .i64 n) (.int .i64 n)).run Tryz.prog w=.ok (.slice (some ⟨w.heap.size,0,none⟩) n n) (w.alloc (.cells us.toArray 60)):=by
 obtain⟨i,hi,hz,hs,hb⟩:=info_parts Tryz.info_mark
 have:=run_make (P:=Tryz.prog) w 40 60 i (.agg #[.int .i64 0,.int .u8 0,.int .i64 0,.int .i64 0]) Tryz.underlying40 hi hz .i64 .i64 n n (by omega) (by omega) (by rw[hb];omega) (by omega)
 rw[hs]at this
 simp only[Int.toNat_natCast]at this
 exact⟨(madeCells (Value.agg #[.int .i64 0,.int .u8 0,.int .i64 0,.int .i64 0]).cells (n*4)).toList,by simp[madeCells],by rw[this,Array.toArray_toList]⟩
section
variable {w w' w0 w2:World}{xb lo N k N' k':Nat}{A:Vg.Ad}{s s':Vg.Xp}{mv:Value}{ws:List Value}{Bs:List Vg.Bp}{ql:Int}{ow:Nat->Nat}{OB:Nat->Prop}
theorem es_marks(h:ES w xb lo A s N k OB){n:Nat}(hn:s.ms.length=n)(hlen:n<=65536)(hw0:0<w.heap.size):
  Calls Tryz.prog 10 #[.pointer (some ⟨xb,0,none⟩)] w fun e w'=>∃g,e=.returned (.slice (some ⟨g,0,none⟩) n n)/\Vg.blk w' g=some (.cells (Vg.mkcells s.ms).toArray 60)/\w.heap.size<=g/\Vg.Grows w w':=by
 obtain⟨i0,hI,hz0,hz1,hz2⟩:=info_parts Tryz.info_mark
 obtain⟨mv,ws,Bs,ql,ow,h1,h2,h3⟩:=h
 have hq:=h1.mq
 obtain⟨ma,mc,rfl⟩:=hq.shape
 rw[hn]at hq
 have x0:=h1.tab
 rw[hn]at x0
 have hlx:=Vg.lt_of x0
 have c14:=Vg.cells_of x0 14
 simp[exC]at c14
 obtain⟨us,hus,hmk⟩:=mk_marks n (by omega) w
 have hI1:¬(n:Int)<0:=by omega
 have H_h1:=h_ h1;have H_h2:=h_ h2;have H_h3:=h_ h3;have H_hq:=h_ hq;have H_x0:=h_ x0;have H_hn:=h_ hn;have H_hus:=h_ hus;clear h1 h2 h3 hq x0 hn hus
 go_enter Tryz.func10,Tryz.ntmps10
 go_wp2_with ((with_reducible show wpList _ _ _ _ _ _);(with_reducible refine Vg.wpList_copy_all rfl (.tmp 10) (.tmp 14) 40 40 rfl 60 Tryz.underlying40 i0 hI 4 hz1 w.heap.size n n rfl ma mc 1 rfl 60 (Vg.mkcells s.ms) (H_hq.out.grows (Vg.gro)) (Vg.mkcells_ones s.ms) us.toArray 60 (Vg.alloc_heap_at (by simp)) (by simp[H_hus.out]) ?_);intro w3 hb3 ht3;have H_hb3:=h_ hb3;have H_ht3:=h_ ht3;clear hb3 ht3)
 (first|go_returns|go_ret)
 refine⟨_,rfl,H_hb3.out,Nat.le_refl _,?_⟩
 exact H_ht3.out.gr (w0:=w) (Vg.gro) fun k hk=>by omega
end
end Go.Proofs.YtlkdkgefjipjmaaGreatDoor
