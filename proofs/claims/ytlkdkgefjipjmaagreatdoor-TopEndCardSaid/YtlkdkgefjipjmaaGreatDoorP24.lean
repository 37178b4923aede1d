/- Kern, KernA (put together). -/
import Derived.Test.YtlkdkgefjipjmaaGreatDoorP23
import Derived.Test.YtlkdkgefjipjmaaGreatDoorP20
import Derived.Test.YtlkdkgefjipjmaaGreatDoorQ0
set_option linter.all false
set_option maxHeartbeats 40000000
set_option maxRecDepth 100000
namespace Vg
open Go
structure Tk where
 kd:Int
 pr:Int
 pe:Int
 og:Int
 dl:Int
 co:Int
 ro:Int
 lk:Int
 fr:Int
 tt:Int
structure Jb where
 cost:Int
 at_:Int
 went:Int
structure Kt where
 t:Tk
 J:List Jb
 lost:Int
 out:Bool
abbrev Kp:=Value×Kt
def kcells:List Kp->List Value
 | []=>[]
 | x::l=>.int .u8 x.2.t.kd :: .int .i64 x.2.t.pr :: .int .i64 x.2.t.pe :: .int .i64 x.2.t.og :: .int .i64 x.2.t.dl :: .int .i64 x.2.t.co :: .int .i64 x.2.t.ro :: .int .i64 x.2.t.lk :: .int .i64 x.2.t.fr :: .int .i64 x.2.t.tt::x.1 :: .int .i64 x.2.lost :: .bool x.2.out::kcells l
theorem kcells_length:∀l:List Kp,(kcells l).length=l.length*13
 | []=>rfl
 | x::l=>by simp[kcells,kcells_length l];omega
theorem kcells_append:∀l m:List Kp,kcells (l++m)=kcells l++kcells m
 | [],m=>rfl
 | x::l,m=>by simp[kcells,kcells_append l m]
theorem k13(k:Nat):(k+1)*13=k*13+1+1+1+1+1+1+1+1+1+1+1+1+1:=by omega
def kcell(x:Kp):Nat->Value
 | 0=>.int .u8 x.2.t.kd
 | 1=>.int .i64 x.2.t.pr
 | 2=>.int .i64 x.2.t.pe
 | 3=>.int .i64 x.2.t.og
 | 4=>.int .i64 x.2.t.dl
 | 5=>.int .i64 x.2.t.co
 | 6=>.int .i64 x.2.t.ro
 | 7=>.int .i64 x.2.t.lk
 | 8=>.int .i64 x.2.t.fr
 | 9=>.int .i64 x.2.t.tt
 | 10=>x.1
 | 11=>.int .i64 x.2.lost
 | _=>.bool x.2.out
theorem kcells_get:∀(l:List Kp)(k:Nat)(h:k<l.length)(j:Nat),j<13->(kcells l)[k*13+j]? = some (kcell l[k] j)
 | [],k,h,_,_=>by simp at h
 | x::l,0,_,j,hj=>by
  rcases j with _|_|_|_|_|_|_|_|_|_|_|_|_|j
  all_goals first
   | (simp[kcells,kcell];done)
   | omega
 | x::l,k+1,h,j,hj=>by
  have:=kcells_get l k (by simpa using h) j hj
  rw[k13,show k*13+1+1+1+1+1+1+1+1+1+1+1+1+1+j=k*13+j+1+1+1+1+1+1+1+1+1+1+1+1+1 from by omega]
  simpa[kcells]using this
theorem kcells_set10:∀(l:List Kp)(k:Nat)(h:k<l.length)(u:Value)(J:List Jb),(kcells l).set (k*13+10) u=kcells (l.set k (u,⟨l[k].2.t,J,l[k].2.lost,l[k].2.out⟩))
 | [],k,h,_,_=>by simp at h
 | x::l,0,_,u,J=>by simp[kcells]
 | x::l,k+1,h,u,J=>by
  have:=kcells_set10 l k (by simpa using h) u J
  rw[show(k+1)*13+10=k*13+10+1+1+1+1+1+1+1+1+1+1+1+1+1 from by omega]
  simpa[kcells]using this
theorem kcells_set11:∀(l:List Kp)(k:Nat)(h:k<l.length)(t:Int),(kcells l).set (k*13+11) (.int .i64 t)=kcells (l.set k (l[k].1,⟨l[k].2.t,l[k].2.J,t,l[k].2.out⟩))
 | [],k,h,_=>by simp at h
 | x::l,0,_,t=>by simp[kcells]
 | x::l,k+1,h,t=>by
  have:=kcells_set11 l k (by simpa using h) t
  rw[show(k+1)*13+11=k*13+11+1+1+1+1+1+1+1+1+1+1+1+1+1 from by omega]
  simpa[kcells]using this
theorem kcells_setJ:∀(l:List Kp)(k:Nat)(h:k<l.length)(J:List Jb),kcells (l.set k (l[k].1,⟨l[k].2.t,J,l[k].2.lost,l[k].2.out⟩))=kcells l
 | [],k,h,_=>by simp at h
 | x::l,0,_,J=>by simp[kcells]
 | x::l,k+1,h,J=>by
  have:=kcells_setJ l k (by simpa using h) J
  simpa[kcells]using this
def jcells:List Jb->List Value
 | []=>[]
 | x::l=>.int .i64 x.cost :: .int .i64 x.at_ :: .int .i64 x.went::jcells l
theorem jcells_length:∀l:List Jb,(jcells l).length=l.length*3
 | []=>rfl
 | x::l=>by simp[jcells,jcells_length l];omega
theorem jcells_append:∀l m:List Jb,jcells (l++m)=jcells l++jcells m
 | [],m=>rfl
 | x::l,m=>by simp[jcells,jcells_append l m]
theorem Que.task{w:World}{B n:Nat}{ty:TypeId}{a:Option Addr}{c:Nat}{M:List Kp}(hn:M.length=n)(h:Que w B ty 13 (.slice a n c) n (kcells M))(i:Nat)(hi:i<M.length):
  ∃g o,a=some ⟨g,o,none⟩/\B<=g/\g<w.heap.size/\n<=c/\c<=9223372036854775807/\∀j,j<13->w.cell? ⟨g,o+i*13+j,none⟩=some (kcell M[i] j):=by
 subst hn
 have hl:=kcells_length M
 obtain⟨g,o,rfl,hg,hc,hm,hx⟩:=h.reads.open (by omega)
 have hhc:c<=9223372036854775807:=hm
 refine⟨g,o,rfl,(h.lt g rfl).1,hg,hc,hhc,fun j hj=>?_⟩
 have:=hx (i*13+j) (by omega)
 rw[<-Nat.add_assoc]at this
 rw[this,<-kcells_get M i hi j hj,List.getElem?_eq_getElem]
theorem Que.job{w:World}{B n:Nat}{ty:TypeId}{v:Value}{x:Jb}{l:List Jb}(hn:l.length+1=n)(h:Que w B ty 3 v n (jcells (x::l))):
  ∃g o c,v=.slice (some ⟨g,o,none⟩) n c/\B<=g/\g<w.heap.size/\n<=c/\c<=9223372036854775807/\w.cell? ⟨g,o,none⟩=some (.int .i64 x.cost)/\w.cell? ⟨g,o+1,none⟩=some (.int .i64 x.at_)/\w.cell? ⟨g,o+2,none⟩=some (.int .i64 x.went):=by
 subst hn
 obtain⟨a,c,rfl⟩:=h.shape
 have hl:=jcells_length (x::l)
 obtain⟨g,o,rfl,hg,hc,hm,hx⟩:=h.reads.open (by simp[jcells])
 have hhc:c<=9223372036854775807:=hm
 have h0:=hx 0 (by simp[jcells])
 have h1:=hx 1 (by simp[jcells])
 have h2:=hx 2 (by simp[jcells])
 exact⟨g,o,c,rfl,(h.lt g rfl).1,hg,hc,hhc,by simpa[jcells]using h0,by simpa[jcells]using h1,by simpa[jcells]using h2⟩
def Kn.holds(K:List Kt)(M:List Mx)(n:Int):Bool:=
 if n<0 then false else
 match K[n.toNat]? with
 | none=>false
 | some x=>if x.t.lk<0 then false else(Tb.holder M x.t.lk).2&&decide ((Tb.holder M x.t.lk).1=n)
def Kn.level(K:List Kt)(M:List Mx)(n:Int):Int:=
 if n<0 then 0 else
 match K[n.toNat]? with
 | none=>0
 | some x=>Tb.level M (Tb.of M n M.length) x.t.pr
def Kn.release(K:List Kt)(n cost at_:Int):List Kt×Int:=
 if n<0 then(K,1)else
 match K[n.toNat]? with
 | none=>(K,1)
 | some x=>if cost<1\/1099511627776<cost\/at_<0\/4503599627370496<at_ then(K,1)else
  if x.t.ro<=x.J.length then(K.set n.toNat ⟨x.t,x.J,x.lost+1,x.out⟩,5)else(K.set n.toNat ⟨x.t,x.J ++ [⟨cost,at_,0⟩],x.lost,x.out⟩,0)
theorem Kn.no{α:Type}{K:List Kt}{n:Int}(h:n<0\/(K.length:Int)<=n)(a:α)(f:Kt->α):(if n<0 then a else match K[n.toNat]? with|none=>a|some x=>f x)=a:=by
 by_cases h0:n<0
 ·rw[if_pos h0]
 ·rw[if_neg h0,List.getElem?_eq_none (by omega)]
theorem Kn.yes{α:Type}{K:List Kt}{i:Nat}(h:i<K.length)(a:α)(f:Kt->α):(if(i:Int)<0 then a else match K[(i:Int).toNat]? with|none=>a|some x=>f x)=f K[i]:=by
 rw[if_neg (by omega)]
 simp[List.getElem?_eq_getElem h]
end Vg
namespace Go.Proofs.YtlkdkgefjipjmaaGreatDoor
open Go.ChangeShapes Go.WideShapes Go.ChangeAt Go.RowKit
theorem Tryz.info_job:(Tryz.prog.info? 246).map (fun i=>(i.zero,i.size,i.bytes))=some (some (.agg #[.int .i64 0,.int .i64 0,.int .i64 0]),3,24):=by kernel_rfl
abbrev kernC(rv:Value)(cb:Nat):Obj:=.cells #[rv,.pointer (some ⟨cb,0,none⟩)] 137
def kfp(x:Vg.Kp)(k:Nat):Prop:=x.1.ownBlock=some k
def kfc(cb:Nat)(cv:Value)(k:Nat):Prop:=k=cb\/cv.ownBlock=some k
structure KT(w:World)(b:Nat)(xs:List Vg.Kp)(rv:Value)(cb:Nat)(M:List Vg.Mx)(cv:Value):Prop where
 tab:Vg.blk w b=some (kernC rv cb)
 row:Vg.Que w (b+1) 141 13 rv xs.length (Vg.kcells xs)
 job:∀i (h:i<xs.length),Vg.Que w (b+1) 246 3 xs[i].1 xs[i].2.J.length (Vg.jcells xs[i].2.J)
 dis:∀i j (hi:i<xs.length)(hj:j<xs.length),i≠j->∀k,kfp xs[i] k->¬kfp xs[j] k
 off:∀i (hi:i<xs.length) k,kfp xs[i] k->rv.ownBlock≠some k
 ceil:CE w cb (cb+1) M cv
 cof:∀k,kfc cb cv k->k≠b/\rv.ownBlock≠some k
 cofj:∀i (hi:i<xs.length) k,kfp xs[i] k->¬kfc cb cv k
 clo:∀k,kfc cb cv k->b<=k
def kown(b:Nat)(xs:List Vg.Kp)(rv:Value)(cb:Nat)(cv:Value)(k:Nat):Prop:=k=b\/rv.ownBlock=some k\/(∃i,∃h:i<xs.length,kfp xs[i] k)\/kfc cb cv k
def KTn(w w':World)(b:Nat)(xs:List Vg.Kp)(rv:Value)(cb:Nat)(M':List Vg.Mx)(cv:Value)(K':List Vg.Kt):Prop:=
 ∃xs',KT w' b xs' rv cb M' cv/\xs'.map (·.2)=K'/\(∀k,kown b xs' rv cb cv k->kown b xs rv cb cv k\/w.heap.size<=k)/\Vg.Touch (kown b xs rv cb cv) w w'
section
variable {w w':World}{b cb:Nat}{xs:List Vg.Kp}{rv cv:Value}{M M':List Vg.Mx}
theorem KT.lt(h:KT w b xs rv cb M cv):b<w.heap.size:=Vg.lt_of h.tab
theorem KT.c_lt(h:KT w b xs rv cb M cv):∀k,kfc cb cv k->k<w.heap.size:=by
 rintro k (rfl|hk)
 ·exact h.ceil.lt
 ·exact(h.ceil.own k hk).2
theorem KT.own(h:KT w b xs rv cb M cv):∀k,kown b xs rv cb cv k->b<=k/\k<w.heap.size:=by
 rintro k (rfl|hk|⟨i,hi,hk⟩|hk)
 ·exact⟨Nat.le_refl _,h.lt⟩
 ·have:=h.row.lt k hk;omega
 ·have:=(h.job i hi).lt k hk;omega
 ·exact⟨h.clo k hk,h.c_lt k hk⟩
theorem KT.kept(h:KT w b xs rv cb M cv)(hk:∀k,kown b xs rv cb cv k->Vg.blk w' k=Vg.blk w k):KT w' b xs rv cb M cv:=
 ⟨(hk b (.inl rfl)).trans h.tab,h.row.kept fun k hv=>hk k (.inr (.inl hv)),fun i hi=>(h.job i hi).kept fun k hv=>hk k (.inr (.inr (.inl ⟨i,hi,hv⟩))),h.dis,h.off,
  h.ceil.kept (hk cb (.inr (.inr (.inr (.inl rfl))))) (fun k hv=>hk k (.inr (.inr (.inr (.inr hv))))),h.cof,h.cofj,h.clo⟩
theorem KT.grows(h:KT w b xs rv cb M cv)(hg:Vg.Grows w w'):KT w' b xs rv cb M cv:=by
 have ho:=h.own
 obtain⟨x,n,rfl⟩:=hg
 exact h.kept fun k hk=>Vg.blk_plus (ho k hk).2
theorem KT.touch{t:Nat->Prop}(h:KT w b xs rv cb M cv)(ht:Vg.Touch t w w')(hv:∀k,kown b xs rv cb cv k->¬t k):KT w' b xs rv cb M cv:=
 h.kept fun k hk=>ht.block k (h.own k hk).2 (hv k hk)
theorem KTn.same(h:KT w b xs rv cb M cv)(hg:Vg.Grows w w'):KTn w w' b xs rv cb M cv (xs.map (·.2)):=⟨xs,h.grows hg,rfl,fun k hk=>.inl hk,Vg.Touch.of_grows hg⟩
theorem KTn.next{w2 w3:World}{xs':List Vg.Kp}{M2:List Vg.Mx}{K2:List Vg.Kt}(ho:∀k,kown b xs' rv cb cv k->kown b xs rv cb cv k\/w.heap.size<=k)(ht:Vg.Touch (kown b xs rv cb cv) w w2)(h2:KTn w2 w3 b xs' rv cb M2 cv K2):KTn w w3 b xs rv cb M2 cv K2:=by
 obtain⟨ys,hb,hm,ho2,ht2⟩:=h2
 refine⟨ys,hb,hm,fun k hk=>?_,?_⟩
 ·rcases ho2 k hk with h1|h1
  ·exact ho k h1
  ·exact .inr (Nat.le_trans ht.size h1)
 ·exact⟨ht2.os.trans ht.os,ht2.tape.trans ht.tape,ht2.output.trans ht.output,Nat.le_trans ht.size ht2.size,fun k hk hkt=>(ht2.block k (Nat.lt_of_lt_of_le hk ht.size) fun hh=>by
   rcases ho k hh with h|h
   ·exact hkt h
   ·omega).trans (ht.block k hk hkt)⟩
theorem KT.updx{i:Nat}{u:Value}{q:Vg.Kt}(hi:i<xs.length)(h:KT w b xs rv cb M cv)(ht:Vg.Touch (fun k=>rv.ownBlock=some k\/kfp xs[i] k) w w')
  (hrow:Vg.Que w' (b+1) 141 13 rv xs.length (Vg.kcells (xs.set i (u,q))))(hu:Vg.Que w' (b+1) 246 3 u q.J.length (Vg.jcells q.J))(hnew:∀k,u.ownBlock=some k->kfp xs[i] k\/w.heap.size<=k):
  KT w' b (xs.set i (u,q)) rv cb M cv/\(∀k,kown b (xs.set i (u,q)) rv cb cv k->kown b xs rv cb cv k\/w.heap.size<=k)/\Vg.Touch (kown b xs rv cb cv) w w':=by
 have hne:∀j (hj:j<xs.length),j≠i->(xs.set i (u,q))[j]'(by simpa using hj)=xs[j]:=fun j hj hji=>List.getElem_set_ne (fun hh=>hji hh.symm) _
 have heq:(xs.set i (u,q))[i]'(by simpa using hi)=(u,q):=List.getElem_set_self _
 have hall:∀j (hj:j<xs.length) k,kfp ((xs.set i (u,q))[j]'(by simpa using hj)) k->kfp xs[j] k\/(w.heap.size<=k/\j=i):=fun j hj k hk=>by
  by_cases hji:j=i
  ·subst hji
   rw[heq]at hk
   rcases hnew k hk with h1|h1
   ·exact .inl h1
   ·exact .inr ⟨h1,rfl⟩
  ·rw[hne j hj hji]at hk
   exact .inl hk
 have hjl:∀j (hj:j<xs.length) k,kfp xs[j] k->k<w.heap.size:=fun j hj k hk=>((h.job j hj).lt k hk).2
 refine⟨⟨ht.bk h.tab (fun hh=>?_),by rw[List.length_set];exact hrow,fun j hj=>?_,fun j l hj hl hjl' k hk hk2=>?_,fun j hj k hk=>?_,h.ceil.touch ht (fun hh=>?_) (fun k hk hh=>?_),h.cof,fun j hj k hk hh=>?_,h.clo⟩,fun k hk=>?_,ht.mono fun k _ hk=>?_⟩
 ·rcases hh with hh|hh
  ·have:=(h.row.lt b hh).1;omega
  ·have:=((h.job i hi).lt b hh).1;omega
 ·have hj':j<xs.length:=by simpa using hj
  by_cases hji:j=i
  ·subst hji;rw[heq];exact hu
  ·rw[hne j hj' hji]
   refine(h.job j hj').kept fun k hk=>ht.block k (hjl j hj' k hk) fun hh=>?_
   rcases hh with hh|hh
   ·exact h.off j hj' k hk hh
   ·exact h.dis j i hj' hi hji k hk hh
 ·have hj':j<xs.length:=by simpa using hj
  have hl':l<xs.length:=by simpa using hl
  rcases hall j hj' k hk with h1|⟨h1,h1'⟩
  ·rcases hall l hl' k hk2 with h2|⟨h2,h2'⟩
   ·exact h.dis j l hj' hl' hjl' k h1 h2
   ·have:=hjl j hj' k h1;omega
  ·rcases hall l hl' k hk2 with h2|⟨h2,h2'⟩
   ·have:=hjl l hl' k h2;omega
   ·omega
 ·have hj':j<xs.length:=by simpa using hj
  rcases hall j hj' k hk with h1|⟨h1,_⟩
  ·exact h.off j hj' k h1
  ·intro hh;have:=(h.row.lt k hh).2;omega
 ·rcases hh with hh|hh
  ·exact(h.cof cb (.inl rfl)).2 hh
  ·exact h.cofj i hi cb hh (.inl rfl)
 ·rcases hh with hh|hh
  ·exact(h.cof k (.inr hk)).2 hh
  ·exact h.cofj i hi k hh (.inr hk)
 ·have hj':j<xs.length:=by simpa using hj
  rcases hall j hj' k hk with h1|⟨h1,_⟩
  ·exact h.cofj j hj' k h1 hh
  ·have:=h.c_lt k hh;omega
 ·rcases hk with hk|hk|⟨j,hj,hk⟩|hk
  ·exact .inl (.inl hk)
  ·exact .inl (.inr (.inl hk))
  ·have hj':j<xs.length:=by simpa using hj
   rcases hall j hj' k hk with h1|⟨h1,_⟩
   ·exact .inl (.inr (.inr (.inl ⟨j,hj',h1⟩)))
   ·exact .inr h1
  ·exact .inl (.inr (.inr (.inr hk)))
 ·rcases hk with hk|hk
  ·exact .inr (.inl hk)
  ·exact .inr (.inr (.inl ⟨i,hi,hk⟩))
theorem KT.upd{i:Nat}{u:Value}{q:Vg.Kt}(hi:i<xs.length)(h:KT w b xs rv cb M cv)(ht:Vg.Touch (fun k=>rv.ownBlock=some k\/kfp xs[i] k) w w')
  (hrow:Vg.Que w' (b+1) 141 13 rv xs.length (Vg.kcells (xs.set i (u,q))))(hu:Vg.Que w' (b+1) 246 3 u q.J.length (Vg.jcells q.J))(hnew:∀k,u.ownBlock=some k->kfp xs[i] k\/w.heap.size<=k):
  KTn w w' b xs rv cb M cv ((xs.map (·.2)).set i q):=by
 obtain⟨h1,h2,h3⟩:=KT.updx hi h ht hrow hu hnew
 exact⟨_,h1,by rw[List.map_set],h2,h3⟩
theorem KT.cell{i:Nat}{q:Vg.Kt}(hi:i<xs.length)(h:KT w b xs rv cb M cv)(hJ:q.J=xs[i].2.J)(ht:Vg.Touch (fun k=>rv.ownBlock=some k) w w')
  (hrow:Vg.Que w' (b+1) 141 13 rv xs.length (Vg.kcells (xs.set i (xs[i].1,q)))):KTn w w' b xs rv cb M cv ((xs.map (·.2)).set i q):=by
 refine KT.upd hi h (ht.mono fun k _ hk=>.inl hk) hrow ?_ fun k hk=>.inl hk
 rw[hJ]
 exact(h.job i hi).kept fun k hk=>ht.block k ((h.job i hi).lt k hk).2 fun hh=>h.off i hi k hk hh
end
end Go.Proofs.YtlkdkgefjipjmaaGreatDoor
namespace Vg
open Go
theorem Kn.holds_out{K:List Kt}{M:List Mx}{n:Int}(h:n<0\/(K.length:Int)<=n):Kn.holds K M n=false:=Kn.no h _ _
theorem Kn.level_out{K:List Kt}{M:List Mx}{n:Int}(h:n<0\/(K.length:Int)<=n):Kn.level K M n=0:=Kn.no h _ _
theorem Kn.release_out{K:List Kt}{n c a:Int}(h:n<0\/(K.length:Int)<=n):Kn.release K n c a=(K,1):=Kn.no h _ _
theorem Kn.holds_in{K:List Kt}{M:List Mx}{i:Nat}(h:i<K.length):Kn.holds K M i=if K[i].t.lk<0 then false else(Tb.holder M K[i].t.lk).2&&decide ((Tb.holder M K[i].t.lk).1=(i:Int)):=Kn.yes h _ _
theorem Kn.level_in{K:List Kt}{M:List Mx}{i:Nat}(h:i<K.length):Kn.level K M i=Tb.level M (Tb.of M i M.length) K[i].t.pr:=Kn.yes h _ _
theorem Kn.release_in{K:List Kt}{i:Nat}{c a:Int}(h:i<K.length):Kn.release K i c a=if c<1\/1099511627776<c\/a<0\/4503599627370496<a then(K,1)else
  if K[i].t.ro<=K[i].J.length then(K.set i ⟨K[i].t,K[i].J,K[i].lost+1,K[i].out⟩,5)else(K.set i ⟨K[i].t,K[i].J ++ [⟨c,a,0⟩],K[i].lost,K[i].out⟩,0):=by
 unfold Kn.release
 rw[Kn.yes h]
 simp
def Kt.ok(x:Kt):Prop:=(x.t.ro<=16/\1<=x.t.ro)/\(0<=x.lost/\x.lost<=1000000)/\(x.J.length:Int)<=x.t.ro
end Vg
namespace Go.Proofs.YtlkdkgefjipjmaaGreatDoor
open Go.ChangeShapes Go.WideShapes Go.ChangeAt Go.RowKit
section
variable {w w':World}{b cb n:Nat}{xs:List Vg.Kp}{rv cv:Value}{M M':List Vg.Mx}{x r:Int}{is:Bool}{K':List Vg.Kt}
theorem KTn.grows{w3:World}(h:KTn w w' b xs rv cb M cv K')(hg:Vg.Grows w' w3):KTn w w3 b xs rv cb M cv K':=by
 obtain⟨ys,h1,h2,h3,h4⟩:=h
 exact⟨ys,h1.grows hg,h2,h3,h4.trans (Vg.Touch.of_grows hg)⟩
theorem kern_find_no(m:Int)(hn:xs.length=n)(h:KT w b xs rv cb M cv)(hm:m<0\/(n:Int)<=m):
  Calls Tryz.prog 184 #[.pointer (some ⟨b,0,none⟩),.int .i64 m] w fun e w'=>e=.returned (.pointer none)/\w=w':=by
 obtain⟨a,c,rfl⟩:=h.row.shape
 have c0:=Vg.cells_of h.tab 0
 simp at c0
 rw[hn]at c0
 clear h hn
 by_cases h0:m<0
 ·clear hm
  go_enter Tryz.func184,Tryz.ntmps184
  go_wp2
  go_ret
  exact⟨rfl,rfl⟩
 ·have h1:(n:Int)<=m:=by omega
  clear hm
  go_enter Tryz.func184,Tryz.ntmps184
  go_wp2
  go_ret
  exact⟨rfl,rfl⟩
theorem kern_find{g o c:Nat}(i:Nat)(hi:i<n)(hn:xs.length=n)(h:KT w b xs (.slice (some ⟨g,o,none⟩) n c) cb M cv)(hc:n<=c)(hcm:c<=9223372036854775807):
  Calls Tryz.prog 184 #[.pointer (some ⟨b,0,none⟩),.int .i64 i] w fun e w'=>e=.returned (.pointer (some ⟨g,o+i*13,none⟩))/\w=w':=by
 have c0:=Vg.cells_of h.tab 0
 simp at c0
 clear h hn
 have h0:(0:Int)<=i:=by omega
 have h1:(i:Int)<n:=by omega
 go_enter Tryz.func184,Tryz.ntmps184
 go_wp2
 go_ret
 exact⟨rfl,rfl⟩
theorem kern_holds(m:Int)(h:KT w b xs rv cb M cv)(hx:Vg.Kn.holds (xs.map (·.2)) M m=is):
  Calls Tryz.prog 164 #[.pointer (some ⟨b,0,none⟩),.int .i64 m] w fun e w'=>e=.returned (.bool is)/\Vg.Grows w w':=by
 subst hx
 obtain⟨n,hn⟩:∃n,xs.length=n:=⟨_,rfl⟩
 by_cases hm:m<0\/(n:Int)<=m
 ·rw[Vg.Kn.holds_out (by simpa[hn]using hm)]
  have H_h:=h_ h;have H_hn:=h_ hn;clear h hn
  go_enter Tryz.func164,Tryz.ntmps164
  go_wp2_with ((go_at_call 184;refine(kern_find_no m H_hn.out H_h.out hm).mono ?_;rintro e w' ⟨rfl,rfl⟩))
  go_ret
  exact⟨rfl,Vg.gro⟩
 ·obtain⟨i,rfl⟩:∃i:Nat,m=i:=⟨m.toNat,by omega⟩
  have hi:i<n:=by omega
  have hix:i<xs.length:=by omega
  rw[Vg.Kn.holds_in (by simpa using hix)]
  simp only[List.getElem_map]
  have hq:=h.row
  obtain⟨a,c,rfl⟩:=hq.shape
  rw[hn]at hq
  obtain⟨g,o,rfl,-,hg,hcc,hcm,hx⟩:=hq.task hn i hix
  have c7:=hx 7 (by decide)
  simp only[Vg.kcell]at c7
  have c1:=Vg.cells_of h.tab 1
  simp at c1
  have hce:=h.ceil
  obtain⟨lk,hlk⟩:∃lk,xs[i].2.t.lk=lk:=⟨_,rfl⟩
  rw[hlk]at c7 ⊢
  obtain⟨⟨who,ih⟩,hho⟩:∃p,Vg.Tb.holder M lk=p:=⟨_,rfl⟩
  rw[hho]
  have hb:KT w b xs (.slice (some ⟨g,o,none⟩) n c) cb M cv:=by rw[<-hn];exact h
  clear hx hq
  by_cases hl0:lk<0
  ·rw[if_pos hl0]
   have H_h:=h_ h;have H_hn:=h_ hn;have H_hb:=h_ hb;have H_hlk:=h_ hlk;have H_hce:=h_ hce;have H_hho:=h_ hho;clear h hn hb hlk hce hho
   go_enter Tryz.func164,Tryz.ntmps164
   go_wp2_with ((go_at_call 184;refine(kern_find i hi H_hn.out H_hb.out hcc hcm).mono ?_;rintro e w' ⟨rfl,rfl⟩))
   go_ret
   exact⟨rfl,Vg.gro⟩
  ·rw[if_neg hl0]
   cases ih with
   | false=>
    have H_h:=h_ h;have H_hn:=h_ hn;have H_hb:=h_ hb;have H_hlk:=h_ hlk;have H_hce:=h_ hce;have H_hho:=h_ hho;clear h hn hb hlk hce hho
    go_enter Tryz.func164,Tryz.ntmps164
    go_wp2_with ((go_at_call 184;refine(kern_find i hi H_hn.out H_hb.out hcc hcm).mono ?_;rintro e w' ⟨rfl,rfl⟩))
    go_quiet ((go_at_call 203;refine(ce_holder (M:=M) lk (H_hce.out.grows (Vg.gro))).mono ?_;rintro e w1 ⟨rfl,rfl⟩;rw[H_hho.out];exact⟨rfl,_,rfl⟩))
    go_wp2_with fail
    go_ret
    exact⟨rfl,Vg.gro⟩
   | true=>
    by_cases hw:who=(i:Int)
    ·have hb1:(who==(i:Int))=true:=by simp[hw]
     have H_h:=h_ h;have H_hn:=h_ hn;have H_hb:=h_ hb;have H_hlk:=h_ hlk;have H_hce:=h_ hce;have H_hho:=h_ hho;clear h hn hb hlk hce hho
     go_enter Tryz.func164,Tryz.ntmps164
     go_wp2_with ((go_at_call 184;refine(kern_find i hi H_hn.out H_hb.out hcc hcm).mono ?_;rintro e w' ⟨rfl,rfl⟩))
     go_quiet ((go_at_call 203;refine(ce_holder (M:=M) lk (H_hce.out.grows (Vg.gro))).mono ?_;rintro e w1 ⟨rfl,rfl⟩;rw[H_hho.out];exact⟨rfl,_,rfl⟩))
     go_wp2_with fail
     go_ret
     exact⟨ret_bool (by simp[hw]),Vg.gro⟩
    ·have hb1:(who==(i:Int))=false:=by simp[hw]
     have H_h:=h_ h;have H_hn:=h_ hn;have H_hb:=h_ hb;have H_hlk:=h_ hlk;have H_hce:=h_ hce;have H_hho:=h_ hho;clear h hn hb hlk hce hho
     go_enter Tryz.func164,Tryz.ntmps164
     go_wp2_with ((go_at_call 184;refine(kern_find i hi H_hn.out H_hb.out hcc hcm).mono ?_;rintro e w' ⟨rfl,rfl⟩))
     go_quiet ((go_at_call 203;refine(ce_holder (M:=M) lk (H_hce.out.grows (Vg.gro))).mono ?_;rintro e w1 ⟨rfl,rfl⟩;rw[H_hho.out];exact⟨rfl,_,rfl⟩))
     go_wp2_with fail
     go_ret
     exact⟨ret_bool (by simp[hw]),Vg.gro⟩
theorem kern_level(m:Int)(h:KT w b xs rv cb M cv)(hx:Vg.Kn.level (xs.map (·.2)) M m=x):
  Calls Tryz.prog 128 #[.pointer (some ⟨b,0,none⟩),.int .i64 m] w fun e w'=>e=.returned (.int .i64 x)/\Vg.Grows w w':=by
 subst hx
 obtain⟨n,hn⟩:∃n,xs.length=n:=⟨_,rfl⟩
 by_cases hm:m<0\/(n:Int)<=m
 ·rw[Vg.Kn.level_out (by simpa[hn]using hm)]
  have H_h:=h_ h;have H_hn:=h_ hn;clear h hn
  go_enter Tryz.func128,Tryz.ntmps128
  go_wp2_with ((go_at_call 184;refine(kern_find_no m H_hn.out H_h.out hm).mono ?_;rintro e w' ⟨rfl,rfl⟩))
  go_ret
  exact⟨rfl,Vg.gro⟩
 ·obtain⟨i,rfl⟩:∃i:Nat,m=i:=⟨m.toNat,by omega⟩
  have hi:i<n:=by omega
  have hix:i<xs.length:=by omega
  rw[Vg.Kn.level_in (by simpa using hix)]
  simp only[List.getElem_map]
  have hq:=h.row
  obtain⟨a,c,rfl⟩:=hq.shape
  rw[hn]at hq
  obtain⟨g,o,rfl,-,hg,hcc,hcm,hx⟩:=hq.task hn i hix
  have c1:=hx 1 (by decide)
  simp only[Vg.kcell]at c1
  have d1:=Vg.cells_of h.tab 1
  simp at d1
  have hce:=h.ceil
  obtain⟨pr,hpr⟩:∃pr,xs[i].2.t.pr=pr:=⟨_,rfl⟩
  rw[hpr]at c1 ⊢
  obtain⟨lv,hlv⟩:∃lv,Vg.Tb.level M (Vg.Tb.of M i M.length) pr=lv:=⟨_,rfl⟩
  rw[hlv]
  have hb:KT w b xs (.slice (some ⟨g,o,none⟩) n c) cb M cv:=by rw[<-hn];exact h
  clear hx hq
  have H_h:=h_ h;have H_hn:=h_ hn;have H_hb:=h_ hb;have H_hpr:=h_ hpr;have H_hce:=h_ hce;have H_hlv:=h_ hlv;clear h hn hb hpr hce hlv
  go_enter Tryz.func128,Tryz.ntmps128
  go_wp2_with ((go_at_call 184;refine(kern_find i hi H_hn.out H_hb.out hcc hcm).mono ?_;rintro e w' ⟨rfl,rfl⟩))
  go_region_with ((go_at_call 192;refine(ce_levelx (M:=M) i pr (H_hce.out.grows (Vg.gro)) H_hlv.out).mono ?_;rintro e w1 ⟨rfl,x1,n1,rfl⟩))
  all_goals go_wp2
  all_goals go_ret
  all_goals exact⟨rfl,Vg.gro⟩
theorem kt_jobs_end {W2:World} {i g o c:Nat} {u u2:Value} {t:Vg.Tk} {J J2:List Vg.Jb} {lo:Int} {ou:Bool} (hn:xs.length=n) (hi:i<xs.length) (h:KT w b xs (.slice (some ⟨g,o,none⟩) n c) cb M cv) (hx:xs[i]=(u,⟨t,J,lo,ou⟩))
  (ht2:Vg.Touch (fun j=>u.ownBlock=some j) w W2) (hrow2:Vg.Que W2 (b+1) 141 13 (.slice (some ⟨g,o,none⟩) n c) n (Vg.kcells xs)) (hq2:Vg.Que W2 (b+1) 246 3 u2 J2.length (Vg.jcells J2))
  (ho2:∀k,u2.ownBlock=some k->u.ownBlock=some k\/w.heap.size<=k) :
  KTn w (W2.setCell ⟨g,o+i*13+10,none⟩ u2) b xs (.slice (some ⟨g,o,none⟩) n c) cb M cv ((xs.map (·.2)).set i ⟨t,J2,lo,ou⟩):=by
 have hg2:g<w.heap.size:=(h.row.lt g rfl).2
 have hkl:=Vg.kcells_length xs
 have q1:=hrow2.set (j:=i*13+10) (u:=u2) (by rw[hkl];omega)
 rw[Vg.kcells_set10 xs i hi u2 J2,<-Nat.add_assoc,hx]at q1
 have hof:∀k,u.ownBlock=some k->k≠g:=fun k hk hh=>h.off i hi k (by unfold kfp;rw[hx];exact hk) (by rw[hh];rfl)
 have hne:∀k,u2.ownBlock=some k->k≠g:=fun k hk hh=>by
  rcases ho2 k hk with h1|h1
  ·exact hof k h1 hh
  ·omega
 refine KT.upd hi h ((ht2.mono fun k _ hk=>?_).trans ((Vg.Touch.of_same q1.2).mono fun k _ hk=>.inl (by rw[hk];rfl))) (by rw[hn];exact q1.1) (hq2.kept fun k hk=>q1.2.block k fun hh=>?_) fun k hk=>?_
 ·exact .inr (by unfold kfp;rw[hx];exact hk)
 ·exact hne k hk hh
 ·rcases ho2 k hk with h1|h1
  ·exact .inl (by unfold kfp;rw[hx];exact h1)
  ·exact .inr h1
theorem kt_jobs_in{W2:World}{i g o c:Nat}{u:Value}{t:Vg.Tk}{J J2:List Vg.Jb}{lo:Int}{ou:Bool}(hn:xs.length=n)(hi:i<xs.length)(h:KT w b xs (.slice (some ⟨g,o,none⟩) n c) cb M cv)(hx:xs[i]=(u,⟨t,J,lo,ou⟩))
  (ht2:Vg.Touch (fun j=>u.ownBlock=some j) w W2)(hrow2:Vg.Que W2 (b+1) 141 13 (.slice (some ⟨g,o,none⟩) n c) n (Vg.kcells xs))(hq2:Vg.Que W2 (b+1) 246 3 u J2.length (Vg.jcells J2)):
  KT W2 b (xs.set i (u,⟨t,J2,lo,ou⟩)) (.slice (some ⟨g,o,none⟩) n c) cb M cv/\(∀k,kown b (xs.set i (u,⟨t,J2,lo,ou⟩)) (.slice (some ⟨g,o,none⟩) n c) cb cv k->kown b xs (.slice (some ⟨g,o,none⟩) n c) cb cv k\/w.heap.size<=k)/\Vg.Touch (kown b xs (.slice (some ⟨g,o,none⟩) n c) cb cv) w W2:=by
 have e:=Vg.kcells_setJ xs i hi J2
 rw[hx]at e
 exact KT.updx hi h (ht2.mono fun k _ hk=>.inr (by unfold kfp;rw[hx];exact hk)) (by rw[hn,e];exact hrow2) hq2 fun k hk=>.inl (by unfold kfp;rw[hx];exact hk)
theorem KTn.put{w2:World}{rb:Nat}{o:Obj}(h0:KT w2 b xs rv cb M cv)(h:KTn w2 w' b xs rv cb M' cv K')(hg:Vg.Grows w w2)(hrb:w.heap.size<=rb)(hr2:rb<w2.heap.size)(hno:¬kown b xs rv cb cv rb):KTn w (Vg.put w' rb o) b xs rv cb M' cv K':=by
 obtain⟨ys,k1,k2,k3,k4⟩:=h
 have ht:=(Vg.Touch.of_grows hg).trans k4
 have hne:∀k,kown b ys rv cb cv k->rb≠k:=fun k hk hh=>by
  subst hh
  rcases k3 rb hk with h1|h1
  ·exact hno h1
  ·omega
 refine⟨ys,k1.kept fun k hk=>Vg.put_heap_other (hne k hk),k2,fun k hk=>?_,⟨ht.os,ht.tape,ht.output,by rw[Vg.put_size];exact ht.size,fun k hk hkt=>(Vg.put_heap_other (by omega)).trans (ht.block k hk hkt)⟩⟩
 rcases k3 k hk with h1|h1
 ·exact .inl h1
 ·exact .inr (Nat.le_trans hg.size h1)
theorem kern_release (m cost at_:Int) (h:KT w b xs rv cb M cv) (hok:∀i (hi:i<xs.length),xs[i].2.ok) (hx:Vg.Kn.release (xs.map (·.2)) m cost at_=(K',r)) :
  Calls Tryz.prog 115 #[.pointer (some ⟨b,0,none⟩),.int .i64 m,.int .i64 cost,.int .i64 at_] w fun e w'=>e=.returned (.int .i64 r)/\KTn w w' b xs rv cb M cv K':=by
 obtain⟨n,hn⟩:∃n,xs.length=n:=⟨_,rfl⟩
 by_cases hm:m<0\/(n:Int)<=m
 ·rw[Vg.Kn.release_out (by simpa[hn]using hm)]at hx
  simp only[Prod.mk.injEq]at hx
  obtain⟨rfl,rfl⟩:=hx
  have H_h:=h_ h;have H_hn:=h_ hn;have H_hok:=h_ hok;clear h hn hok
  go_enter Tryz.func115,Tryz.ntmps115
  go_wp2_with ((go_at_call 184;refine(kern_find_no m H_hn.out H_h.out hm).mono ?_;rintro e w' ⟨rfl,rfl⟩))
  go_ret
  exact⟨rfl,KTn.same H_h.out (Vg.gro)⟩
 ·obtain⟨i,rfl⟩:∃i:Nat,m=i:=⟨m.toNat,by omega⟩
  have hi:i<n:=by omega
  have hix:i<xs.length:=by omega
  rw[Vg.Kn.release_in (by simpa using hix)]at hx
  simp only[List.getElem_map]at hx
  have hq:=h.row
  obtain⟨a,c,hrv⟩:=hq.shape
  subst hrv
  rw[hn]at hq
  obtain⟨g,o,rfl,-,hg,hcc,hcm,hcx⟩:=hq.task hn i hix
  have c6:=hcx 6 (by decide)
  have c10:=hcx 10 (by decide)
  have c11:=hcx 11 (by decide)
  simp only[Vg.kcell]at c6 c10 c11
  have hfz:=hq.frozen
  have hb:KT w b xs (.slice (some ⟨g,o,none⟩) n c) cb M cv:=by rw[<-hn];exact h
  have hkl:=Vg.kcells_length xs
  have hj:=h.job i hix
  have hof:=h.off i hix
  have hokx:=hok i hix
  obtain⟨q,hqe⟩:∃q,xs[i]=q:=⟨_,rfl⟩
  rw[hqe]at hx c6 c10 c11 hj hokx
  have hof:∀k,q.1.ownBlock=some k->k≠g:=fun k hk hh=>hof k (by unfold kfp;rw[hqe];exact hk) (by rw[hh];rfl)
  obtain⟨u,⟨t,J,lo,ou⟩⟩:=q
  simp only[Vg.Kt.ok]at hx c6 c10 c11 hj hof hokx
  obtain⟨⟨o1,o2⟩,⟨o3,o4⟩,o5⟩:=hokx
  obtain⟨ua,uc,rfl⟩:=hj.shape
  obtain⟨N,hN⟩:∃N,J.length=N:=⟨_,rfl⟩
  rw[hN]at hx c10 hj hof o5 hqe
  obtain⟨ro,hro⟩:∃ro,t.ro=ro:=⟨_,rfl⟩
  rw[hro]at hx c6 o1 o2 o5
  rw[hn]at h ⊢
  clear hcx
  by_cases hbad:cost<1\/1099511627776<cost\/at_<0\/4503599627370496<at_
  ·rw[if_pos hbad]at hx
   simp only[Prod.mk.injEq]at hx
   obtain⟨rfl,rfl⟩:=hx
   have H_h:=h_ h;have H_hn:=h_ hn;have H_hb:=h_ hb;have H_hqe:=h_ hqe;have H_hq:=h_ hq;have H_hkl:=h_ hkl;have H_hj:=h_ hj;have H_hof:=h_ hof;have H_hok:=h_ hok;have H_hN:=h_ hN;have H_hro:=h_ hro;clear h hn hb hqe hq hkl hj hof hok hN hro
   by_cases k1:cost<1
   ·clear hbad
    go_enter Tryz.func115,Tryz.ntmps115
    go_wp2_with ((go_at_call 184;refine(kern_find i hi H_hn.out H_hb.out hcc hcm).mono ?_;rintro e w' ⟨rfl,rfl⟩))
    go_ret
    exact⟨rfl,KTn.same H_hb.out (Vg.gro)⟩
   ·by_cases k2:1099511627776<cost
    ·clear hbad
     go_enter Tryz.func115,Tryz.ntmps115
     go_wp2_with ((go_at_call 184;refine(kern_find i hi H_hn.out H_hb.out hcc hcm).mono ?_;rintro e w' ⟨rfl,rfl⟩))
     go_ret
     exact⟨rfl,KTn.same H_hb.out (Vg.gro)⟩
    ·by_cases k3:at_<0
     ·clear hbad
      go_enter Tryz.func115,Tryz.ntmps115
      go_wp2_with ((go_at_call 184;refine(kern_find i hi H_hn.out H_hb.out hcc hcm).mono ?_;rintro e w' ⟨rfl,rfl⟩))
      go_ret
      exact⟨rfl,KTn.same H_hb.out (Vg.gro)⟩
     ·have k4:4503599627370496<at_:=by omega
      clear hbad
      go_enter Tryz.func115,Tryz.ntmps115
      go_wp2_with ((go_at_call 184;refine(kern_find i hi H_hn.out H_hb.out hcc hcm).mono ?_;rintro e w' ⟨rfl,rfl⟩))
      go_ret
      exact⟨rfl,KTn.same H_hb.out (Vg.gro)⟩
  ·rw[if_neg hbad]at hx
   have k1:¬cost<1:=by omega
   have k2:¬1099511627776<cost:=by omega
   have k3:¬at_<0:=by omega
   have k4:¬4503599627370496<at_:=by omega
   clear hbad
   by_cases hfull:ro<=(N:Int)
   ·rw[if_pos hfull]at hx
    simp only[Prod.mk.injEq]at hx
    obtain⟨rfl,rfl⟩:=hx
    have hsum:IntKind.i64.wrap (lo+1)=lo+1:=by rw[IntWalk.i64_in _ (by omega)]
    have H_h:=h_ h;have H_hn:=h_ hn;have H_hb:=h_ hb;have H_hqe:=h_ hqe;have H_hq:=h_ hq;have H_hkl:=h_ hkl;have H_hj:=h_ hj;have H_hof:=h_ hof;have H_hok:=h_ hok;have H_hN:=h_ hN;have H_hro:=h_ hro;clear h hn hb hqe hq hkl hj hof hok hN hro
    go_enter Tryz.func115,Tryz.ntmps115
    go_wp2_with ((go_at_call 184;refine(kern_find i hi H_hn.out H_hb.out hcc hcm).mono ?_;rintro e w' ⟨rfl,rfl⟩))
    go_quiet (fail)
    go_wp2_with fail
    go_ret
    have q1:=H_hq.out.set (j:=i*13+11) (u:=.int .i64 (lo+1)) (by rw[H_hkl.out];omega)
    rw[Vg.kcells_set11 xs i hix (lo+1),<-Nat.add_assoc,H_hqe.out]at q1
    refine⟨rfl,KTn.grows (KT.cell hix H_hb.out (q:=⟨t,J,lo+1,ou⟩) (by rw[H_hqe.out]) ((Vg.Touch.of_same q1.2).mono fun k _ hk=>by rw[hk];rfl) ?_) ((Vg.Grows.refl _).drewN nq)⟩
    rw[H_hn.out,H_hqe.out]
    exact q1.1
   ·rw[if_neg hfull]at hx
    simp only[Prod.mk.injEq]at hx
    obtain⟨rfl,rfl⟩:=hx
    obtain⟨i0,hI,hz0,hz1,hz2⟩:=info_parts Tryz.info_job
    have hlt:=h.lt
    have hN64:N<=64:=by omega
    have hjc:=Vg.jcells_append J ([⟨cost,at_,0⟩]:List Vg.Jb)
    have hn2:(J++([⟨cost,at_,0⟩]:List Vg.Jb)).length=N+1:=by rw[List.length_append,hN];rfl
    have H_h:=h_ h;have H_hn:=h_ hn;have H_hb:=h_ hb;have H_hqe:=h_ hqe;have H_hq:=h_ hq;have H_hkl:=h_ hkl;have H_hj:=h_ hj;have H_hof:=h_ hof;have H_hok:=h_ hok;have H_hN:=h_ hN;have H_hro:=h_ hro;have H_hjc:=h_ hjc;have H_hn2:=h_ hn2;clear h hn hb hqe hq hkl hj hof hok hN hro hjc hn2
    go_enter Tryz.func115,Tryz.ntmps115
    go_wp2_with ((go_at_call 184;refine(kern_find i hi H_hn.out H_hb.out hcc hcm).mono ?_;rintro e w' ⟨rfl,rfl⟩))
    go_quiet (fail)
    go_wp2_with (at_builtin;refine Vg.wpList_que (w:=_) rfl (.tmp 55) (.tmp 59) 139 rfl (b+1) 246 i0 (.agg #[.int .i64 0,.int .i64 0,.int .i64 0]) 3 24 Tryz.underlying139 hI hz0 hz1 hz2 rfl (by decide) (.slice ua N uc) N _ rfl (H_hj.out.grows (Vg.gro)) _ 1 1 [.int .i64 cost,.int .i64 at_,.int .i64 0] rfl rfl (Vg.three_new (by first|rfl|((try simp only[World.size_alloc,Vg.plus_size,Vg.put_size,World.size_setCell,World.size_drew,World.heap_drewN]) <;> omega))) (by simp[Value.oneCell']) (by decide) (by unfold maxLen;omega) (by omega) (by simp only[World.size_alloc,World.heap_drewN];omega) ?_;intro v2 W1 y2 m2 hq2 hs2 ho2;obtain⟨a2,c2',rfl⟩:=hq2.shape;have ht2:=(Vg.Touch.trans (Vg.Touch.of_grows (w:=w) (Vg.gro)) (Vg.Touch.of_same hs2)).trans (Vg.Touch.of_grows ((Vg.Grows.refl W1).plus y2 m2));obtain⟨W2,hW2⟩:∃W2,Vg.plus W1 y2 m2=W2:=⟨_,rfl⟩;rw[hW2]at hq2 ht2 ⊢;have hrow2:=H_hq.out.kept (w':=W2) (fun k hk=>ht2.block k (H_hq.out.lt k hk).2 (fun hh=>H_hof.out k hh (by simpa[Value.ownBlock]using hk.symm)));have f2:=hrow2.frozen;have d0:=(World.cell?_of_block (w:=w) (ht2.block g hg (fun hh=>H_hof.out g hh rfl))).trans c10;have hg22:=Nat.lt_of_lt_of_le hg ht2.size;have H_hq2:=h_ hq2;have H_hs2:=h_ hs2;have H_ho2:=h_ ho2;have H_ht2:=h_ ht2;have H_hrow2:=h_ hrow2;have H_hW2:=h_ hW2;clear hq2 hs2 ho2 ht2 hrow2 hW2)
    go_ret
    refine⟨rfl,kt_jobs_end H_hn.out hix H_hb.out H_hqe.out H_ht2.out H_hrow2.out ?_ fun k hk=>?_⟩
    ·rw[H_hn2.out,H_hjc.out]
     exact H_hq2.out
    ·rcases H_ho2.out with h1|h1
     ·exact .inl (h1.symm.trans hk)
     ·refine .inr ?_
      have:some k=some _:=hk.symm.trans h1
      simp only[Option.some.injEq,World.size_alloc,World.heap_drewN]at this
      omega
end
end Go.Proofs.YtlkdkgefjipjmaaGreatDoor
