/- ExRx, CmA, TcA, Qui (put together). -/
import Derived.Test.YtlkdkgefjipjmaaGreatDoorP33
import Derived.Test.YtlkdkgefjipjmaaGreatDoorP38
import Derived.Test.YtlkdkgefjipjmaaGreatDoorQ0
import Derived.OrdersHeld
import Derived.WalkKit
import Derived.Deep.RegionHeld
import Derived.Lib.Hide
import Derived.RowKit
set_option linter.all false
set_option maxHeartbeats 40000000
set_option maxRecDepth 100000
namespace Vg
open Go
theorem came_append(i:Nat)(ms ms':List Mrk):came i (ms++ms')=came i ms++came i ms':=by unfold came;rw[List.filter_append,List.map_append]
theorem came_other(i:Nat)(m:Mrk)(h:m.k≠1/\m.k≠3):came i [m]=[]:=by
 unfold came cameP
 simp[h.1,h.2]
theorem came_rel(i j:Nat)(t k a:Int)(h:k=1\/k=3):came i [⟨t,k,j,a⟩]=if j=i then [a]else []:=by
 unfold came cameP
 by_cases e:j=i
 ·subst e
  rcases h with rfl|rfl<;>simp
 ·have:¬(j:Int)=(i:Int):=by omega
  simp[e,this]
def ofT(i:Nat)(l:List (Int×Int)):List Int:=(l.filter fun x=>decide (x.1=(i:Int))).map (·.2)
theorem ofT_append(i:Nat)(l l':List (Int×Int)):ofT i (l++l')=ofT i l++ofT i l':=by unfold ofT;rw[List.filter_append,List.map_append]
theorem ofT_one(i:Nat)(z t:Int):ofT i [(z,t)]=if z=(i:Int)then [t]else []:=by
 unfold ofT
 by_cases e:z=(i:Int)<;>simp[e]
theorem came_fired(A:Ad)(i:Nat):∀(l:List (Int×Int))(s:Xp),(∀x∈l,∃j:Nat,x.1=j)->came i (s.fired A l).ms=came i s.ms++ofT i l
 | [],s,_=>by simp[Xp.fired,ofT]
 | x::l,s,hx=>by
  obtain⟨j,hj⟩:=hx x (by simp)
  have h1:=came_fired A i l (s.fire A x) (fun y hy=>hx y (List.mem_cons_of_mem _ hy))
  have e:s.fired A (x::l)=(s.fire A x).fired A l:=rfl
  have h2:came i (s.fire A x).ms=came i s.ms++ofT i [x]:=by
   obtain⟨x1,x2⟩:=x
   simp only at hj
   subst hj
   rw[ofT_one]
   unfold Xp.fire Xp.rel
   simp only[Int.toNat_natCast]
   split
   ·simp only[came_append]
    rw[came_rel i j _ 1 _ (.inl rfl)]
    by_cases e:j=i
    ·subst e;simp
    ·have:¬(j:Int)=(i:Int):=by omega
     simp[e,this]
   ·simp only[came_append]
    rw[came_rel i j _ 3 _ (.inr rfl)]
    by_cases e:j=i
    ·subst e;simp
    ·have:¬(j:Int)=(i:Int):=by omega
     simp[e,this]
  rw[e,h1,h2,List.append_assoc,<-ofT_append];rfl
theorem came_goes(A:Ad)(i:Nat)(s:Xp)(n t:Int):came i (s.goes A n t).ms=came i s.ms:=by
 unfold Xp.goes Xp.fin
 split
 ·split
  ·simp only[came_append]
   rw[came_other i _ (by simp)]
   simp
  ·rfl
 ·rfl
theorem came_gone(A:Ad)(i:Nat)(s:Xp)(t:Int):came i (s.gone A t).ms=came i s.ms:=by
 unfold Xp.gone
 split
 ·exact came_goes A i s _ t
 ·rfl
theorem came_settle(i:Nat)(s:Xp):came i s.settle.ms=came i s.ms:=by
 unfold Xp.settle
 split
 ·rfl
 ·simp only[came_append]
  rw[came_other i _ (by simp)]
  simp
theorem tmsL_succ(o p:Int)(c:Nat):tmsL o p (c+1)=tmsL o p c ++ [o+c*p]:=by unfold tmsL;rw[List.range_succ,List.map_append];rfl
theorem Fires.rl{A:Ad}{en st t':Int}{S S':VP}{l:List (Int×Int)}{cm:Nat->List Int}(h:Fires t' S l S')(hp:∀i,1<=A.pe i/\A.pe i<=1099511627776)(ht:t'<=en)(hen:en<=4398046511104)(hv:VOk A S.1 S.2)(hr:Rl A st t' S.1 cm):
  Rl A st t' S'.1 (fun i=>cm i++ofT i l):=by
 induction h with
 | nil=>intro i hi;simpa[ofT]using hr i hi
 | @snoc s1 l z t h hz hl ih=>
  obtain⟨a1,a2,a3⟩:=h.ok (A:=A) (fun i=>(hp i).1) ht (by omega) hv
  obtain⟨⟨i0,rfl,hi0,hP⟩,h0,h1⟩:=a1 _ _ hz
  have hpi:=hp i0
  have hfire:(fire1 s1.1 s1.2 (i0:Int) t).1=fun y=>if y=(i0:Int)then some (t+A.pe i0)else s1.1 y:=by
   unfold fire1
   rw[hP]
   simp only[Option.getD_some]
   rw[if_neg (by omega),if_pos (by omega)]
  intro i hi
  obtain⟨b1,b2,b3⟩:=ih i hi
  rw[hfire]
  simp only[ofT_append,ofT_one]
  by_cases e:i0=i
  ·subst e
   simp only[if_true]
   refine⟨fun x hx=>?_,fun hk=>?_,fun hk=>?_⟩
   ·rw[<-List.append_assoc]at hx
    rcases List.mem_append.1 hx with hx|hx
    ·exact b1 x hx
    ·rw[List.mem_singleton.1 hx];exact hl
   ·obtain⟨c,c1,c2⟩:=b2 hk
    rw[c2]at hz
    simp only[Option.some.injEq]at hz
    have hpe:A.pe i0=A.T[i0].pe:=by unfold Ad.pe;rw[List.getElem?_eq_getElem hi];rfl
    have c1:cm i0++ofT i0 l=tmsL (st+A.T[i0].og) A.T[i0].pe c:=c1
    refine⟨c+1,by rw[<-List.append_assoc,c1,tmsL_succ,hz],?_⟩
    rw[hpe,<-hz,Int.natCast_add,Int.add_mul]
    simp only[Int.natCast_one,Int.one_mul]
    congr 1
    omega
   ·have:=(b3 hk).1
    rw[this]at hz;cases hz
  ·have e2:¬(i0:Int)=(i:Int):=by omega
   have e3:¬(i:Int)=(i0:Int):=by omega
   simp only[if_neg e2,if_neg e3,List.append_nil]
   exact⟨b1,b2,b3⟩
theorem Rl.mono{A:Ad}{st now now':Int}{V:Int->Option Int}{cm:Nat->List Int}(h:Rl A st now V cm)(hn:now<=now'):Rl A st now' V cm:=fun i hi=>
 ⟨fun x hx=>by have:=(h i hi).1 x hx;omega,(h i hi).2⟩
theorem Xi.rl{A:Ad}{en st:Int}{k c:Nat}{s s':Xp}(hA:AOk A en)(hp:∀i,1<=A.pe i/\A.pe i<=1099511627776)(hen:en<=4398046511104)(h:Xi A en k s)(hr:Rl A st s.t s.V (fun i=>came i s.ms))(hs:Step A en s s' c):Rl A st s'.t s'.V (fun i=>came i s'.ms):=by
 obtain⟨nx,is,a,l,V',P',t0',hw,hg,hc,rfl,hs',ha,b1,b2,b3,b4,b5,b6,b7,e1,e2,e3,e4⟩:=hs.parts hA h
 have hcm:(fun i=>came i s'.ms)=fun i=>came i s.ms++ofT i l:=funext fun i=>by
  rw[hs',came_settle,came_fired A i l _ (fun x hx=>by obtain⟨j,hj,_⟩:=b5 x hx;exact⟨j,hj⟩)]
  have e:((s.gone A (s.nxt a is en)).clk (s.nxt a is en) V' P' t0').ms=(s.gone A (s.nxt a is en)).ms:=rfl
  rw[e,came_gone]
 rw[hcm,e1,e2]
 have hr2:=hr.mono b1
 rcases hc with⟨rfl,rfl,rfl,rfl,_⟩|⟨hF,_⟩
 ·intro i hi
  simpa[ofT]using hr2 i hi
 ·exact hF.rl (cm:=fun i=>came i s.ms) hp b2 hen h.vo hr2
theorem nxV_ex{A:Ad}{V P:Int->Option Int}(hv:VOk A V P):∃nx is,NxV V nx is:=by
 have h1:∀n:Nat,(∀i:Nat,i<n->V i=none) \/ ∃i:Nat,∃v,i<n/\V i=some v/\∀j:Nat,∀u,j<n->V j=some u->v<=u:=by
  intro n
  induction n with
  | zero=>left;intro i hi;omega
  | succ n ih=>
   rcases ih with ih|⟨i,v,hi,hv,hm⟩
   ·cases hn:V (n:Int)with
    | none=>
     left
     intro i hi
     by_cases e:i=n
     ·subst e;exact hn
     ·exact ih i (by omega)
    | some v=>
     right
     refine⟨n,v,by omega,hn,fun j u hj hu=>?_⟩
     by_cases e:j=n
     ·subst e;rw[hn]at hu;simp only[Option.some.injEq]at hu;omega
     ·rw[ih j (by omega)]at hu;cases hu
   ·right
    cases hn:V (n:Int)with
    | none=>
     refine⟨i,v,by omega,hv,fun j u hj hu=>?_⟩
     by_cases e:j=n
     ·subst e;rw[hn]at hu;cases hu
     ·exact hm j u (by omega) hu
    | some v2=>
     by_cases hle:v<=v2
     ·refine⟨i,v,by omega,hv,fun j u hj hu=>?_⟩
      by_cases e:j=n
      ·subst e;rw[hn]at hu;simp only[Option.some.injEq]at hu;omega
      ·exact hm j u (by omega) hu
     ·refine⟨n,v2,by omega,hn,fun j u hj hu=>?_⟩
      by_cases e:j=n
      ·subst e;rw[hn]at hu;simp only[Option.some.injEq]at hu;omega
      ·have:=hm j u (by omega) hu;omega
 rcases h1 A.T.length with h|⟨i,v,hi,hV,hm⟩
 ·refine⟨0,false,.inl ⟨rfl,rfl,fun z=>?_⟩⟩
  cases hz:V z with
  | none=>rfl
  | some v=>
   obtain⟨⟨i,rfl,hi,_⟩,_⟩:=hv z v hz
   rw[h i hi]at hz;cases hz
 ·refine⟨v,true,.inr ⟨rfl,⟨i,hV⟩,fun z u hu=>?_⟩⟩
  obtain⟨⟨j,rfl,hj,_⟩,_⟩:=hv z u hu
  exact hm j u hj hu
theorem Xi.near{A:Ad}{en:Int}{k c:Nat}{s s':Xp}(hA:AOk A en)(h:Xi A en k s)(hs:Step A en s s' c):Near A s':=by
 obtain⟨h1,_,_,_,h5⟩:=h.step hA hs
 intro z v hz
 obtain⟨nx,is,hn⟩:=nxV_ex h1.vo
 rcases hn with⟨rfl,rfl,hn⟩|⟨rfl,⟨z2,hz2⟩,hl⟩
 ·rw[hn z]at hz;cases hz
 ·have h6:=h5 nx (.inr ⟨rfl,⟨z2,hz2⟩,hl⟩)
  have h7:=hl z v hz
  have h8:=h1.vo z2 nx hz2
  have h9:=h1.tm
  by_cases hd:s'.t0<nx
  ·have:=(wkA_rng hA.tm h8.2.2 hd).2.2.1
   omega
  ·rw[wkA_past (by omega)]at h6
   omega
theorem Xi.comes{A:Ad}{en st:Int}{k m F:Nat}{s s':Xp}(hA:AOk A en)(hp:∀i,1<=A.pe i/\A.pe i<=1099511627776)(hen:en<=4398046511104)(h:Xi A en k s)(hr:Rl A st s.t s.V (fun i=>came i s.ms))(hn:Near A s)(hs:Steps A en m F s s'):Rl A st s'.t s'.V (fun i=>came i s'.ms)/\Near A s':=by
 induction hs with
 | nil s=>exact⟨hr,hn⟩
 | snoc h1 h2 ih=>
  obtain⟨a1,a2⟩:=ih h hr hn
  have hi:=(h.steps hA h1).1
  exact⟨hi.rl hA hp hen a1 h2,hi.near hA h2⟩
theorem ahead_le{o p now:Int}{c:Nat}(hp:1<=p)(h:c=0\/o+((c:Int)-1)*p<=now):(c:Int)<=(max (now+1-o) 0+p-1)/p:=by
 apply Int.le_ediv_of_mul_le (by omega)
 rcases h with rfl|h
 ·simp only[Int.natCast_zero,Int.zero_mul];omega
 ·rw[Int.sub_mul]at h;omega
theorem ahead_ge{o p now mn:Int}{c:Nat}(hp:1<=p)(ho:0<=o)(h:now<o+(c:Int)*p+mn):(max (max (now+1-mn) 0-o) 0+p-1)/p<=(c:Int):=by
 have h0:0<=(c:Int)*p:=Int.mul_nonneg (by omega) (by omega)
 have h1:(max (max (now+1-mn) 0-o) 0+p-1)/p<(c:Int)+1:=by
  apply Int.ediv_lt_of_lt_mul (by omega)
  rw[Int.add_mul]
  omega
 omega
theorem tmsL_length(o p:Int)(c:Nat):(tmsL o p c).length=c:=by unfold tmsL;simp
theorem tmsL_get(o p:Int)(c j:Nat)(h:j<c):(tmsL o p c)[j]? = some (o+j*p):=by unfold tmsL;simp[h]
end Vg
namespace Vg
open Go
def q1(long:Int)(t:Tk):Int:=if t.kd=1/\0<t.pe then min (long/t.pe) 1000 else 0
def qs(long:Int):List Tk->Int
 | []=>0
 | t::T=>q1 long t+qs long T
theorem qs_append(long:Int):∀T U:List Tk,qs long (T++U)=qs long T+qs long U
 | [],U=>by simp[qs]
 | t::T,U=>by simp only[List.cons_append,qs,qs_append long T U,Int.add_assoc]
theorem q1_bd{long:Int}(hl:0<=long)(t:Tk):0<=q1 long t/\q1 long t<=1000:=by
 unfold q1
 split
 ·rename_i h
  have:=Int.ediv_nonneg hl (Int.le_of_lt h.2)
  omega
 ·omega
theorem qs_bd{long:Int}(hl:0<=long):∀T:List Tk,0<=qs long T/\qs long T<=1000*T.length
 | []=>by simp[qs]
 | t::T=>by
  have h1:=q1_bd hl t
  have h2:=qs_bd hl T
  simp only[qs,List.length_cons]
  omega
theorem q1_le{long:Int}(hl:0<=long):∀{T:List Tk}{t:Tk},t∈T->q1 long t<=qs long T
 | u::T,t,h=>by
  have h1:=q1_bd hl u
  have h2:=qs_bd hl T
  simp only[qs]
  rcases List.mem_cons.1 h with rfl|h
  ·omega
  ·have:=q1_le hl h
   omega
theorem take_succ'{T:List Tk}{n:Nat}(h:n<T.length):T.take (n+1)=T.take n ++ [T[n]]:=by rw[List.take_add_one,List.getElem?_eq_getElem h];rfl
theorem sm_qs{long:Int}(T:List Tk)(f:Nat->Nat)(hf:∀i (hi:i<T.length),(f i:Int)<=q1 long T[i]+1):∀n,n<=T.length->(sm f n:Int)<=qs long (T.take n)+n
 | 0,_=>by simp[sm,qs]
 | n+1,h=>by
  have h1:=sm_qs T f hf n (by omega)
  have h2:=hf n (by omega)
  rw[take_succ' (by omega),qs_append]
  simp only[sm,qs]
  omega
def Cm(C:Cf)(long now:Int)(ms:List Mrk):Prop:=
 (0<=now/\now<=long)/\ms.length<=60000/\∀i (hi:i<C.T.length),C.T[i].kd=1->∃c:Nat,came i ms=tmsL C.T[i].og C.T[i].pe c/\(∀x∈came i ms,x<=now)/\now<C.T[i].og+c*C.T[i].pe+C.mn
theorem com_start {C:Cf} {A:Ad} {long:Int} (hg:Vt.good C) (hT:A.T=C.T) (hmn:A.mn=C.mn) (hmx:A.mx=C.mx) (h0:0<=long) (h1:long<=1099511627776) (hq:qs long C.T<=300) :
  AOk A long/\Xi A long 0 (ex0 C.T 0)/\A.fi long (ex0 C.T 0).V<1024:=by
 have hok:=Vt.good_ok hg
 obtain⟨a1,a2,_⟩:=ex0_ok (C:=C) (A:=A) (st:=0) (en:=long) hok hT hmn hmx (by omega) h0 (by omega) (fun t ht hk=>by have:=(hok.tk t ht).og;omega)
 refine⟨a1,a2,?_⟩
 have hlen:A.T.length=C.T.length:=by rw[hT]
 have h9:=sm_qs (long:=long) C.T (fun i:Nat=>tms long (A.pe i) ((ex0 C.T 0).V i)) (fun i hi=>by
  show((tms long (A.pe i) (tvx C.T (fun t=>0+t.og) C.T.length i):Nat):Int)<=_
  rw[tvx_at hi hi]
  have hb:=q1_bd h0 C.T[i]
  by_cases hk:C.T[i].kd=1
  ·rw[if_pos hk]
   have hf:=hok.tk _ (List.getElem_mem hi)
   have hpe:A.pe i=C.T[i].pe:=by
    unfold Ad.pe
    rw[hT,List.getElem?_eq_getElem hi]
    rfl
   rw[hpe]
   have hl:=q1_le h0 (List.getElem_mem hi)
   have hog:=hf.og
   have hp:=hf.pe
   have hq1:q1 long C.T[i]=min (long / C.T[i].pe) 1000:=if_pos ⟨hk,by omega⟩
   rw[hq1]at hl ⊢
   simp only[tms]
   split
   ·have h3:(long-(0+C.T[i].og)) / C.T[i].pe<=long / C.T[i].pe:=Int.ediv_le_ediv (by omega) (by omega)
    have h4:0<=(long-(0+C.T[i].og)) / C.T[i].pe:=Int.ediv_nonneg (by omega) (by omega)
    omega
   ·omega
  ·rw[if_neg hk]
   simp only[tms]
   omega) C.T.length (Nat.le_refl _)
 rw[List.take_length]at h9
 have h10:=hok.nt
 unfold Ad.fi
 rw[hlen]
 omega
theorem com_end {C:Cf} {A:Ad} {long:Int} {m F:Nat} {s':Xp} (hg:Vt.good C) (hT:A.T=C.T) (hmn:A.mn=C.mn) (hmx:A.mx=C.mx) (h0:0<=long) (h1:long<=1099511627776) (hq:qs long C.T<=300) (hs:Steps A long m F (ex0 C.T 0) s') (hm:m<=16384) :
  Cm C long s'.t s'.ms:=by
 have hok:=Vt.good_ok hg
 obtain⟨a1,a2,a3,a4,a5⟩:=ex0_ok (C:=C) (A:=A) (st:=0) (en:=long) hok hT hmn hmx (by omega) h0 (by omega) (fun t ht hk=>by have:=(hok.tk t ht).og;omega)
 have hfi:=(com_start hg hT hmn hmx h0 h1 hq).2.2
 obtain⟨b1,b2,b3,b4⟩:=a2.steps a1 hs
 obtain⟨c1,c2⟩:=a2.comes a1 a3 (by omega) a4 a5 hs
 have hms0:(ex0 C.T 0).ms.length=0:=rfl
 refine⟨⟨by have:=b1.tm;omega,b1.tm.2.2⟩,by omega,fun i hi hk=>?_⟩
 have hi':i<A.T.length:=by rw[hT];exact hi
 have he:A.T[i]=C.T[i]:=by simp only[hT]
 obtain⟨d1,d2,_⟩:=c1 i hi'
 rw[he]at d2
 obtain⟨c,d3,d4⟩:=d2 hk
 rw[Int.zero_add]at d3 d4
 have d5:=c2 _ _ d4
 rw[hmn]at d5
 exact⟨c,d3,d1,d5⟩
end Vg
namespace Vg
open Go
theorem mk_at:∀(ms:List Mrk)(j:Nat)(h:j<ms.length),(mkcells ms)[j*4]? = some (.int .i64 ms[j].t)/\(mkcells ms)[j*4+1]? = some (.int .u8 ms[j].k)/\(mkcells ms)[j*4+2]? = some (.int .i64 ms[j].n)/\(mkcells ms)[j*4+3]? = some (.int .i64 ms[j].a)
 | m::ms,0,_=>⟨rfl,rfl,rfl,rfl⟩
 | m::ms,j+1,h=>by
  have h1:=mk_at ms j (by simpa using h)
  have e:∀i,(mkcells (m::ms))[(j+1)*4+i]? = (mkcells ms)[j*4+i]?:=fun i=>by
   have:(j+1)*4+i=j*4+i+4:=by omega
   rw[this]
   rfl
  have e0:=e 0
  simp only[Nat.add_zero]at e0
  rw[e0,e 1,e 2,e 3]
  exact h1
theorem ms_split{ms:List Mrk}{j:Nat}(h:j<ms.length):ms=ms.take j++ms[j]:: ms.drop (j+1):=by
 rw[<-List.drop_eq_getElem_cons h,List.take_append_drop]
theorem came_take{ms:List Mrk}{j:Nat}(i:Nat)(h:j<ms.length):came i (ms.take (j+1))=came i (ms.take j)++if cameP i ms[j]then [ms[j].a]else []:=by
 rw[List.take_add_one,List.getElem?_eq_getElem h,came_append]
 unfold came
 cases hc:cameP i ms[j]<;>simp[hc]
theorem came_len(i:Nat)(ms:List Mrk):(came i ms).length<=ms.length:=by
 unfold came
 rw[List.length_map]
 exact List.length_filter_le _ _
theorem came_at{ms:List Mrk}{j i c:Nat}{o p:Int}(h:j<ms.length)(hc:cameP i ms[j]=true)(he:came i ms=tmsL o p c):ms[j].a=o+((came i (ms.take j)).length:Int)*p/\ms[j].a∈came i ms:=by
 have h1:came i ms=came i (ms.take j)++(ms[j].a::came i (ms.drop (j+1))):=by
  conv=>lhs;rw[ms_split h]
  rw[came_append]
  congr 1
  unfold came
  rw[List.filter_cons,if_pos hc]
  rfl
 have h2:(came i ms)[(came i (ms.take j)).length]? = some ms[j].a:=by
  rw[h1,List.getElem?_append_right (Nat.le_refl _)]
  simp
 have h3:(came i (ms.take j)).length<c:=by
  have:(came i ms).length=c:=by rw[he,tmsL_length]
  rw[h1]at this
  simp at this
  omega
 refine⟨?_,by rw[h1];simp⟩
 rw[he,tmsL_get _ _ _ _ h3]at h2
 exact(Option.some.inj h2).symm
theorem came_all{ms:List Mrk}{i c:Nat}{o p now mn:Int}(hp:1<=p)(ho:0<=o)(he:came i ms=tmsL o p c)(hx:∀x∈came i ms,x<=now)(hn:now<o+c*p+mn):
  (came i ms).length=c/\(c:Int)<=(max (now+1-o) 0+p-1)/p/\(max (max (now+1-mn) 0-o) 0+p-1)/p<=(c:Int):=by
 refine⟨by rw[he,tmsL_length],ahead_le hp ?_,ahead_ge hp ho hn⟩
 rcases Nat.eq_zero_or_pos c with h|h
 ·exact .inl h
 ·refine .inr (hx _ ?_)
  rw[he]
  have h1:=tmsL_get o p c (c-1) (by omega)
  have h2:((c-1:Nat):Int)=(c:Int)-1:=by omega
  rw[h2]at h1
  exact List.mem_of_getElem? h1
end Vg
namespace Go.Proofs.YtlkdkgefjipjmaaGreatDoor
open Go.ChangeShapes Go.WideShapes Go.ChangeAt Go.RowKit
def quietB(C:Vg.Cf)(long:Int):Bool:=decide (Vg.qs long C.T<=300)&&decide ((C.T.length:Int)+C.L.length+C.H.length<=60)
theorem quietB_qs{C:Vg.Cf}{long:Int}(h:quietB C long=true):Vg.qs long C.T<=300:=by unfold quietB at h;simp only[Bool.and_eq_true,decide_eq_true_eq]at h;exact h.1
def QuiP(w w':World)(C:Vg.Cf)(long:Int)(e:Ending):Prop:=e=.returned (.bool (quietB C long))/\Vg.Grows w w'
theorem vt_quiet(C:Vg.Cf)(v:Cv)(long:Int)(w:World)(hR:CR w C v)(hgd:Vg.Vt.good C)(h0:0<=long)(h1:long<=1099511627776):
  Calls Tryz.prog 13 #[cfV C v,.int .i64 long] w fun e w'=>QuiP w w' C long e:=by
 have hok:=Vg.Vt.good_ok hgd
 obtain⟨nt,hnt⟩:∃nt,C.T.length=nt:=⟨_,rfl⟩
 obtain⟨nl,hnl⟩:∃nl,C.L.length=nl:=⟨_,rfl⟩
 obtain⟨nh,hnh⟩:∃nh,C.H.length=nh:=⟨_,rfl⟩
 obtain⟨mn,hmne⟩:∃mn,C.mn=mn:=⟨_,rfl⟩
 obtain⟨mx,hmxe⟩:∃mx,C.mx=mx:=⟨_,rfl⟩
 obtain⟨sw,hswe⟩:∃sw,C.sw=sw:=⟨_,rfl⟩
 have hn32:nt<=32:=by rw[<-hnt];exact hok.nt.2
 have hn1:1<=nt:=by rw[<-hnt];exact hok.nt.1
 have hl64:nl<=64:=by rw[<-hnl];exact hok.nl
 have hh64:nh<=64:=by rw[<-hnh,hok.nh,hnl];exact hl64
 have hCV:cfV C v=.agg #[.int .i64 mn,.int .i64 mx,.int .i64 sw,.slice v.ta nt v.tc,.slice v.la nl v.lc,.slice v.ha nh v.hc]:=by simp only[cfV,hmne,hmxe,hswe,hnt,hnl,hnh]
 rw[hCV]
 have htk:=(hR.1).1
 have htm:=(hR.1).2.1
 have htc:nt<=v.tc:=by rw[<-hnt];exact htk
 have htc2:v.tc<=9223372036854775807:=htm
 obtain⟨tg,off,hva,hgt,hcz⟩:=(hR.1).2.2 0 (by rw[hnt];omega)
 clear hcz
 rw[hva]
 have b0:Vg.blk (w.alloc (.cells #[.int .i64 mn,.int .i64 mx,.int .i64 sw,.slice (some ⟨tg,off,none⟩) nt v.tc,.slice v.la nl v.lc,.slice v.ha nh v.hc] 30)) w.heap.size=some (.cells #[.int .i64 mn,.int .i64 mx,.int .i64 sw,.slice (some ⟨tg,off,none⟩) nt v.tc,.slice v.la nl v.lc,.slice v.ha nh v.hc] 30):=Vg.alloc_heap_at rfl
 have H_hR:=h_ hR;have H_hgd:=h_ hgd;have H_hok:=h_ hok;have H_hnt:=h_ hnt;have H_hnl:=h_ hnl;have H_hnh:=h_ hnh;have H_hmne:=h_ hmne;have H_hmxe:=h_ hmxe;have H_hswe:=h_ hswe;have H_hCV:=h_ hCV;have H_htk:=h_ htk;have H_htm:=h_ htm;have H_b0:=h_ b0;have H_hva:=h_ hva;clear hR hgd hok hnt hnl hnh hmne hmxe hswe hCV htk htm b0 hva
 go_enter Tryz.func13,Tryz.ntmps13
 go_wp2
 go_loopw [5,11] (fun vs i wr=>∃k:Nat,k<=nt/\i=.int .i64 k/\vs=.int .i64 (Vg.qs long (C.T.take k))/\Vg.Grows w wr/\Vg.blk wr w.heap.size=some (.cells #[.int .i64 mn,.int .i64 mx,.int .i64 sw,.slice (some ⟨tg,off,none⟩) nt v.tc,.slice v.la nl v.lc,.slice v.ha nh v.hc] 30)) (fun _ i _=>nt-(intOf i).toNat)
 case atStart=>exact⟨0,by omega,rfl,rfl,Vg.gro,H_b0.out⟩
 case round=>
  obtain⟨k,hk,rfl,rfl,hg,hb⟩:=hrel
  have hqb:=Vg.qs_bd h0 (C.T.take k)
  have hlen:(C.T.take k).length<=32:=by rw[List.length_take];omega
  by_cases hlt:k<nt
  ·have hkI:(k:Int)<nt:=by omega
   have hkT:k<C.T.length:=by rw[H_hnt.out];exact hlt
   have hsu:Vg.qs long (C.T.take (k+1))=Vg.qs long (C.T.take k)+Vg.q1 long C.T[k]:=by rw[Vg.take_succ' hkT,Vg.qs_append];simp[Vg.qs]
   have hqt:=Vg.q1_bd h0 C.T[k]
   have hf:=H_hok.out.tk _ (List.getElem_mem hkT)
   obtain⟨tg',off',hva',hg',hc⟩:=(H_hR.out.1.grows hg).2.2 k hkT
   rw[H_hva.out]at hva'
   simp only[Option.some.injEq,Addr.mk.injEq,and_true]at hva'
   obtain⟨rfl,rfl⟩:=hva'
   obtain⟨S,hS⟩:∃S,Vg.qs long (C.T.take k)=S:=⟨_,rfl⟩
   rw[hS]at hsu hqb ⊢
   obtain⟨⟨kd,pr,pe,og,dl,co,ro,lk,fo,tt⟩,htt⟩:∃t,C.T[k]=t:=⟨_,rfl⟩
   rw[htt]at hc hsu hqt hf
   have c0:=hc 0 (by decide)
   have c1:=hc 1 (by decide)
   have c2:=hc 2 (by decide)
   have c3:=hc 3 (by decide)
   have c4:=hc 4 (by decide)
   have c5:=hc 5 (by decide)
   have c6:=hc 6 (by decide)
   have c7:=hc 7 (by decide)
   have c8:=hc 8 (by decide)
   have c9:=hc 9 (by decide)
   simp only[Vg.tkcell,Nat.add_zero]at c0 c1 c2 c3 c4 c5 c6 c7 c8 c9
   clear hc
   have hp1:1<=pe:=hf.pe.1
   have hpp:0<pe:=hp1
   have hk0:(0:Int)<=k:=by omega
   have hkdc:kd=1\/kd=2:=hf.kd
   have hS1:S<=32000:=by omega
   have hS0:0<=S:=hqb.1
   clear hqb hf
   rcases hkdc with hkd|hkd
   ·subst hkd
    have hq1:Vg.q1 long ⟨1,pr,pe,og,dl,co,ro,lk,fo,tt⟩=min (long/pe) 1000:=if_pos ⟨rfl,hp1⟩
    rw[hq1]at hsu hqt
    have hd0:0<=long/pe:=Int.ediv_nonneg h0 (by omega)
    have hd1:long/pe<=long:=Int.ediv_le_self _ h0
    have hq:long.tdiv pe=long/pe:=Int.tdiv_eq_ediv_of_nonneg h0
    obtain⟨z,hz⟩:∃z,long/pe=z:=⟨_,rfl⟩
    rw[hz]at hsu hqt hd0 hd1 hq
    have hw:wrap64 z=z:=by unfold wrap64;omega
    by_cases hz1:z<=1000
    ·have hsu':Vg.qs long (C.T.take (k+1))=S+z:=by rw[hsu];omega
     have hws:IntKind.i64.wrap (S+z)=S+z:=by rw[IntKind.wrap_i64];omega
     clear hqt hsu
     have H_hb:=h_ hb;have H_hg:=h_ hg;have H_hsu':=h_ hsu';have H_hS:=h_ hS;have H_htt:=h_ htt;have H_hz:=h_ hz;clear hb hg hsu' hS htt hz
     go_wp2
     go_roundw
     case rel=>exact⟨k+1,by omega,by go_num,by rw[H_hsu'.out],by have q:=H_hg.out;exact Vg.gro,(Vg.gro:Vg.Grows wr _).blk H_hb.out⟩
     case measure=>simp[intOf];omega
    ·have hsu':Vg.qs long (C.T.take (k+1))=S+1000:=by rw[hsu];omega
     have hz2:1000<z:=by omega
     have hws:IntKind.i64.wrap (S+1000)=S+1000:=by rw[IntKind.wrap_i64];omega
     clear hqt hsu
     have H_hb:=h_ hb;have H_hg:=h_ hg;have H_hsu':=h_ hsu';have H_hS:=h_ hS;have H_htt:=h_ htt;have H_hz:=h_ hz;clear hb hg hsu' hS htt hz
     go_wp2
     go_roundw
     case rel=>exact⟨k+1,by omega,by go_num,by rw[H_hsu'.out],by have q:=H_hg.out;exact Vg.gro,(Vg.gro:Vg.Grows wr _).blk H_hb.out⟩
     case measure=>simp[intOf];omega
   ·subst hkd
    have hq1:Vg.q1 long ⟨2,pr,pe,og,dl,co,ro,lk,fo,tt⟩=0:=if_neg (fun h=>by have:=h.1;simp at this)
    rw[hq1,Int.add_zero]at hsu
    clear hqt
    have H_hb:=h_ hb;have H_hg:=h_ hg;have H_hsu:=h_ hsu;have H_hS:=h_ hS;have H_htt:=h_ htt;clear hb hg hsu hS htt
    go_wp2
    go_roundw
    case rel=>exact⟨k+1,by omega,by go_num,by rw[H_hsu.out],by have q:=H_hg.out;exact Vg.gro,(Vg.gro:Vg.Grows wr _).blk H_hb.out⟩
    case measure=>simp[intOf];omega
  ·have hke:k=nt:=by omega
   subst hke
   rw[<-H_hnt.out,List.take_length]at hqb ⊢
   rw[H_hnt.out]
   obtain⟨S,hS⟩:∃S,Vg.qs long C.T=S:=⟨_,rfl⟩
   rw[hS]at hqb ⊢
   obtain⟨c_hb,f_hb,p_hb,l_hb,H_hb⟩:=Vg.lay hb;clear hb
   have H_hg:=h_ hg;have H_hS:=h_ hS;clear hg hS
   go_wp2
   ·have hQ:quietB C long=decide ((k:Int)+nl+nh<=60):=by
     unfold quietB
     rw[H_hS.out,H_hnt.out,H_hnl.out,H_hnh.out,decide_eq_true (show S<=300 by omega),Bool.true_and]
    go_ret
    exact⟨by rw[hQ];rfl,H_hg.out⟩
   ·have hQ:quietB C long=false:=by
     unfold quietB
     rw[H_hS.out,decide_eq_false (show ¬S<=300 by omega),Bool.false_and]
    go_ret
    exact⟨by rw[hQ];rfl,H_hg.out⟩
end Go.Proofs.YtlkdkgefjipjmaaGreatDoor
