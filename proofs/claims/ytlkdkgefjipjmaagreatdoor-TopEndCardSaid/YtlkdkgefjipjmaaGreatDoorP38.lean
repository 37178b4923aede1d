/- ExU, ExM (put together). -/
import Derived.Test.YtlkdkgefjipjmaaGreatDoorP33
import Derived.Test.YtlkdkgefjipjmaaGreatDoorP37
import Derived.Test.YtlkdkgefjipjmaaGreatDoorP32
import Derived.Test.YtlkdkgefjipjmaaGreatDoorQ0
set_option linter.all false
set_option maxHeartbeats 40000000
set_option maxRecDepth 100000
namespace Vg
open Go
structure Tk.fine(sw:Int)(t:Tk):Prop where
 kd:t.kd=1\/t.kd=2
 pr:0<=t.pr/\t.pr<=63
 ro:1<=t.ro/\t.ro<=16
 pe:1<=t.pe/\t.pe<=1099511627776
 og:0<=t.og/\t.og<=1099511627776
 dl:1<=t.dl/\t.dl<=t.pe
 co:1<=t.co/\t.co+sw<=t.dl
 lk:0<=t.lk->t.lk<16/\0<=t.fr/\t.fr<t.tt/\t.tt<=t.co
theorem Vt.task_ok{t:Tk}{sw:Int}(h:Vt.task t sw=0):t.fine sw:=by
 unfold Vt.task at h
 split at h
 ·cases h
 split at h
 ·cases h
 split at h
 ·cases h
 split at h
 ·cases h
 split at h
 ·cases h
 split at h
 ·cases h
 split at h
 ·cases h
 exact⟨by omega,by omega,by omega,by omega,by omega,by omega,by omega,fun h0=>by omega⟩
structure Cf.ok(C:Cf):Prop where
 tm:1<=C.mn/\C.mx<2147483648/\2*C.mn<=C.mx
 sw:0<=C.sw/\C.sw<=1099511627776
 nt:1<=C.T.length/\C.T.length<=32
 nl:C.L.length<=64
 nh:C.H.length=C.L.length
 tk:∀t∈C.T,t.fine C.sw
 li:goodL C.L=true
 th:goodT C.H=true
 ck:Kn.check C.T=0
theorem Vt.good_ok{C:Cf}(h:Vt.good C):C.ok:=by
 have h1:tmC C.mn C.mx=0:=h ⟨1,0,tmC C.mn C.mx⟩ (by simp[Vt.looks,Vt.heads])
 have h2:Vt.change C.sw=0:=h ⟨2,0,Vt.change C.sw⟩ (by simp[Vt.looks,Vt.heads])
 have h3:Vt.many C=0:=h ⟨3,0,Vt.many C⟩ (by simp[Vt.looks,Vt.heads])
 have htm:1<=C.mn/\C.mx<2147483648/\2*C.mn<=C.mx:=by
  unfold tmC at h1
  split at h1
  ·rename_i h9;exact tmB_true.1 h9
  ·cases h1
 have hsw:0<=C.sw/\C.sw<=1099511627776:=by
  unfold Vt.change at h2
  split at h2
  ·rename_i h9;exact h9
  ·cases h2
 have hm:(1<=C.T.length/\C.T.length<=32)/\C.L.length<=64/\C.H.length=C.L.length:=by
  unfold Vt.many at h3
  split at h3
  ·cases h3
  ·omega
 have ht:∀t∈C.T,t.fine C.sw:=fun t ht=>by
  obtain⟨j,hj,rfl⟩:=List.getElem_of_mem ht
  exact Vt.task_ok (h _ (Vt.tasks_get hj).2)
 have hl:∀x∈C.L,goodL [x]=true:=fun x hx=>by
  obtain⟨j,hj,rfl⟩:=List.getElem_of_mem hx
  have h9:Vt.line C.L[j]=0:=h _ (Vt.lines_get hj).2
  unfold Vt.line at h9
  split at h9
  ·rename_i h8;exact h8
  ·cases h9
 have hh:∀x∈C.H,goodT [x]=true:=fun x hx=>by
  obtain⟨j,hj,rfl⟩:=List.getElem_of_mem hx
  have h9:Vt.thread C.H[j]=0:=h _ (Vt.threads_get hj).2
  unfold Vt.thread at h9
  split at h9
  ·rename_i h8;exact h8
  ·cases h9
 have hnd:(Vt.ps C).Nodup:=by
  unfold List.Nodup
  rw[List.pairwise_iff_getElem]
  intro i j hi hj hij e
  have h9:(Vt.pf (Vt.ps C) j (Vt.ps C)[j]).why=0:=h _ (by
   have:=(Vt.prios_get hj).2
   unfold Vt.looks
   exact List.mem_append_right _ this)
  unfold Vt.pf at h9
  have hmem:(Vt.ps C)[j]∈(Vt.ps C).take j:=by
   rw[<-e,List.mem_take_iff_getElem]
   exact⟨i,by omega,rfl⟩
  rw[if_pos hmem]at h9
  cases h9
 refine⟨htm,hsw,hm.1,hm.2.1,hm.2.2,ht,?_,?_,?_⟩
 ·unfold goodL
  simp only[Bool.and_eq_true,Bool.not_eq_true',decide_eq_true_eq]
  refine⟨⟨?_,hm.2.1⟩,?_⟩
  ·rw[List.any_eq_false]
   intro x hx
   have:=hl x hx
   unfold goodL at this
   simp only[List.any_cons,List.any_nil,Bool.or_false,Bool.and_eq_true,Bool.not_eq_true']at this
   rw[this.1.1];simp
  ·rw[List.any_eq_false]
   intro p hp
   obtain⟨x,hx,rfl⟩:=List.mem_map.1 hp
   have:=hl x hx
   unfold goodL at this
   simp only[List.map_cons,List.map_nil,List.any_cons,List.any_nil,Bool.or_false,Bool.and_eq_true,Bool.not_eq_true']at this
   rw[this.2];simp
 ·unfold goodT
  simp only[Bool.and_eq_true,Bool.not_eq_true',decide_eq_true_eq]
  refine⟨⟨?_,by omega⟩,?_⟩
  ·rw[List.any_eq_false]
   intro x hx
   have:=hh x hx
   unfold goodT at this
   simp only[List.any_cons,List.any_nil,Bool.or_false,Bool.and_eq_true,Bool.not_eq_true']at this
   rw[this.1.1];simp
  ·rw[List.any_eq_false]
   intro p hp
   obtain⟨x,hx,rfl⟩:=List.mem_map.1 hp
   have:=hh x hx
   unfold goodT at this
   simp only[List.map_cons,List.map_nil,List.any_cons,List.any_nil,Bool.or_false,Bool.and_eq_true,Bool.not_eq_true']at this
   rw[this.2];simp
 ·unfold Kn.check
  rw[if_neg (by omega)]
  have ho:C.T.any oddK=false:=by
   rw[List.any_eq_false]
   intro t htt
   have f:=ht t htt
   have h9:oddK t=false:=by
    unfold oddK
    have:=f.pr;have:=f.ro;have:=f.lk;have:=f.co;have:=f.dl;have:=f.pe
    simp only[Bool.or_eq_false_iff,Bool.and_eq_false_iff,decide_eq_false_iff_not]
    omega
   rw[h9];simp
  rw[if_neg (by rw[ho];simp)]
  unfold Kn.why dupK
  rw[if_neg]
  have:(C.T.map (·.pr)).Nodup:=by
   unfold Vt.ps at hnd
   exact(List.nodup_append.1 hnd).1
  simpa using this
def tvx(T:List Tk)(f:Tk->Int)(n:Nat)(y:Int):Option Int:=
 if 0<=y/\y<n then(match T[y.toNat]? with|some t=>if t.kd=1 then some (f t)else none|none=>none)else none
theorem tvx_zero(T:List Tk)(f:Tk->Int):tvx T f 0=fun _=>none:=funext fun y=>if_neg (by omega)
theorem tvx_at{T:List Tk}{f:Tk->Int}{n i:Nat}(hi:i<n)(hT:i<T.length):tvx T f n i=if T[i].kd=1 then some (f T[i])else none:=by
 unfold tvx
 rw[if_pos (by omega),Int.toNat_natCast,List.getElem?_eq_getElem hT]
theorem tvx_self(T:List Tk)(f:Tk->Int)(n:Nat):tvx T f n n=none:=if_neg (by omega)
theorem tvx_succ{T:List Tk}{f:Tk->Int}{n:Nat}(h:n<T.length):tvx T f (n+1)=if T[n].kd=1 then(fun y=>if y=(n:Int)then some (f T[n])else tvx T f n y)else tvx T f n:=by
 by_cases hk:T[n].kd=1
 ·rw[if_pos hk]
  funext y
  by_cases e:y=(n:Int)
  ·rw[if_pos e,e,tvx_at (by omega) h,if_pos hk]
  ·rw[if_neg e]
   unfold tvx
   by_cases h2:0<=y/\y<n
   ·rw[if_pos h2,if_pos (by omega)]
   ·rw[if_neg h2,if_neg (by omega)]
 ·rw[if_neg hk]
  funext y
  by_cases e:y=(n:Int)
  ·rw[e,tvx_at (by omega) h,if_neg hk,tvx_self]
  ·unfold tvx
   by_cases h2:0<=y/\y<n
   ·rw[if_pos h2,if_pos (by omega)]
   ·rw[if_neg h2,if_neg (by omega)]
theorem tvx_some{T:List Tk}{f:Tk->Int}{n:Nat}{y v:Int}(hn:n<=T.length)(h:tvx T f n y=some v):∃(i:Nat)(hi:i<T.length),y=i/\i<n/\T[i].kd=1/\v=f T[i]:=by
 by_cases h2:0<=y/\y<n
 ·have hi:y.toNat<T.length:=by omega
  obtain⟨i,rfl⟩:∃i:Nat,y=i:=⟨y.toNat,by omega⟩
  rw[Int.toNat_natCast]at hi
  rw[tvx_at (by omega) hi]at h
  split at h
  ·rename_i hk
   simp only[Option.some.injEq]at h
   exact⟨i,hi,rfl,by omega,hk,h.symm⟩
  ·cases h
 ·unfold tvx at h
  rw[if_neg h2]at h;cases h
def ex0(T:List Tk)(st:Int):Xp:=⟨st,st,tvx T (fun t=>st+t.og) T.length,tvx T (fun t=>t.pe) T.length,Kn.K0 T,Kn.M0 T,T.map (fun t=>⟨t.co,[],St.zero⟩),0,0,[],0⟩
theorem ex0_Bi{T:List Tk}{st:Int}{i:Nat}(h:i<(ex0 T st).B.length)(h':i<T.length):(ex0 T st).B[i]=⟨T[i].co,[],St.zero⟩:=List.getElem_map (f:=fun t:Tk=>(⟨t.co,[],St.zero⟩:Bk))
theorem ex0_Bl(T:List Tk)(st:Int):(ex0 T st).B.length=T.length:=List.length_map _
theorem ex0_Ki{T:List Tk}{st:Int}{i:Nat}(h:i<(ex0 T st).K.length)(h':i<T.length):(ex0 T st).K[i]=kt0 T[i]:=List.getElem_map kt0
theorem ex0_Kl(T:List Tk)(st:Int):(ex0 T st).K.length=T.length:=List.length_map _
theorem ex0_run(T:List Tk)(st:Int):(ex0 T st).run=(0,0):=by
 unfold Xp.run
 have h1:∀i,Kn.ableK (Kn.K0 T) i=false:=fun i=>by
  unfold Kn.ableK Kn.K0
  rw[List.getElem?_map]
  cases T[i]? with
  | none=>rfl
  | some t=>simp[kt0]
 have h2:∀k,Kn.ables (Kn.K0 T) k=[]:=fun k=>by unfold Kn.ables;simp[h1]
 have h3:Kn.best (Kn.K0 T) (Kn.M0 T)=-1:=by unfold Kn.best;rw[h2];rfl
 show(if 0<=Kn.best (Kn.K0 T) (Kn.M0 T)then _ else _)=_
 rw[h3];rfl
theorem ex0_ok{C:Cf}{A:Ad}{st en:Int}(h:C.ok)(hT:A.T=C.T)(hmn:A.mn=C.mn)(hmx:A.mx=C.mx)(h0:0<=st)(hst:st<=en)(hen:en<=4503599627370496)(ho:∀t∈C.T,t.kd=1->st+t.og<=4503599627370496):
  AOk A en/\Xi A en 0 (ex0 C.T st)/\(∀i,1<=A.pe i/\A.pe i<=1099511627776)/\Rl A st st (ex0 C.T st).V (fun i=>came i (ex0 C.T st).ms)/\Near A (ex0 C.T st):=by
 have hpe:∀i,1<=A.pe i/\A.pe i<=1099511627776:=fun i=>by
  unfold Ad.pe
  rw[hT]
  cases hi:C.T[i]? with
  | none=>exact⟨Int.le_refl 1,by show(1:Int)<=_;omega⟩
  | some t=>exact(h.tk t (List.mem_of_getElem? hi)).pe
 have hA:AOk A en:=⟨fun i=>(hpe i).1,by rw[hmn,hmx];exact h.tm,by rw[hT];exact h.nt.2,hen⟩
 have hv:VOk A (ex0 C.T st).V (ex0 C.T st).P:=fun z v hz=>by
  obtain⟨i,hi,rfl,hin,hk,rfl⟩:=tvx_some (Nat.le_refl _) (show tvx C.T (fun t=>st+t.og) C.T.length z=some v from hz)
  have hf:=h.tk _ (List.getElem_mem hi)
  have:=ho _ (List.getElem_mem hi) hk
  refine⟨⟨i,rfl,by rw[hT];exact hi,?_⟩,by have:=hf.og;omega,this⟩
  show tvx C.T (fun t=>t.pe) C.T.length i=_
  rw[tvx_at hin hi,if_pos hk]
  unfold Ad.pe
  rw[hT,List.getElem?_eq_getElem hi];rfl
 have hge:∀z v,(ex0 C.T st).V z=some v->st<=v:=fun z v hz=>by
  obtain⟨i,hi,rfl,hin,hk,rfl⟩:=tvx_some (Nat.le_refl _) (show tvx C.T (fun t=>st+t.og) C.T.length z=some v from hz)
  have:=(h.tk _ (List.getElem_mem hi)).og;omega
 refine⟨hA,⟨⟨?_,?_,?_,?_,?_⟩,(ex0_run C.T st).symm,hv,⟨Int.le_refl _,h0⟩,⟨h0,Int.le_refl _,hst⟩,?_⟩,hpe,?_,?_⟩
 ·exact Kn.inv0 (Kn.check_ok h.ck).2.1
 ·show(Kn.K0 C.T).length=A.T.length
  rw[hT];unfold Kn.K0;rw[List.length_map]
 ·show(C.T.map _).length=A.T.length
  rw[hT,List.length_map]
 ·intro i hi hi'
  have hi2:i<C.T.length:=by rw[<-ex0_Kl C.T st];exact hi
  rw[ex0_Bi hi' hi2,ex0_Ki hi hi2];rfl
 ·intro i hi
  have hi2:i<C.T.length:=by rw[<-ex0_Bl C.T st];exact hi
  have hf:=h.tk _ (List.getElem_mem hi2)
  rw[ex0_Bi hi hi2]
  simp only
  have:=hf.co;have:=hf.dl;have:=hf.pe;have:=h.sw
  omega
 ·intro nx hn
  show st<=wkA A.mn A.mx st nx
  rcases hn with⟨h9,_⟩|⟨_,⟨z,hz⟩,_⟩
  ·cases h9
  ·by_cases hd:st<nx
   ·have:=(wkA_rng hA.tm (hv z nx hz).2.2 hd).1;omega
   ·rw[wkA_past (by omega)];exact Int.le_refl _
 ·intro i hi
  rw[hT]at hi
  refine⟨fun x hx=>(by cases hx),fun hk=>⟨0,rfl,?_⟩,fun hk=>⟨?_,rfl⟩⟩
  ·have hk':C.T[i].kd=1:=by
    have:A.T[i]'(by rw[hT];exact hi)=C.T[i]:=by simp only[hT]
    rw[<-this];exact hk
   show tvx C.T (fun t=>st+t.og) C.T.length i=_
   rw[tvx_at hi hi,if_pos hk']
   simp[hT]
  ·have hk':¬C.T[i].kd=1:=by
    have:A.T[i]'(by rw[hT];exact hi)=C.T[i]:=by simp only[hT]
    rw[<-this];exact hk
   show tvx C.T (fun t=>st+t.og) C.T.length i=_
   rw[tvx_at hi hi,if_neg hk']
 ·intro z v hz
  have:=hge z v hz
  have:=hA.tm
  show st<v+A.mn
  omega
end Vg
namespace Vg
open Go
theorem Reads.fired{S:Nat}{w:World}{a:Option Addr}{c n:Nat}{l:List (Int×Int)}{now:Int}(hn:l.length=n)(h:Reads S w (.slice a n c) n (fcells now l))(i:Nat)(hi:i<l.length):
  ∃g off,a=some ⟨g,off,none⟩/\S<=g/\g<w.heap.size/\n<=c/\c<=9223372036854775807/\w.cell? ⟨g,off+i*3,none⟩=some (.int .i64 l[i].1)/\w.cell? ⟨g,off+i*3+1,none⟩=some (.int .i64 l[i].2)/\w.cell? ⟨g,off+i*3+2,none⟩=some (.int .i64 (now-l[i].2)):=by
 rcases h with⟨_,h0,_⟩|⟨g,off,cap,hsv,h2,h3,h4,h5,h6⟩
 ·omega
 ·simp only[Value.slice.injEq]at hsv
  obtain⟨rfl,_,rfl⟩:=hsv
  obtain⟨b0,b1,b2⟩:=fcells_get now l i hi
  have hl:=fcells_len now l
  refine⟨g,off,rfl,h2,h3,h4,by unfold maxLen at h5;omega,?_,?_,?_⟩
  ·have:=h6 (i*3) (by omega)
   rw[List.getElem?_eq_getElem (by omega)]at b0
   rw[this,<-b0]
  ·have:=h6 (i*3+1) (by omega)
   rw[List.getElem?_eq_getElem (by omega)]at b1
   rw[Nat.add_assoc,this,<-b1]
  ·have:=h6 (i*3+2) (by omega)
   rw[List.getElem?_eq_getElem (by omega)]at b2
   rw[Nat.add_assoc,this,<-b2]
end Vg
namespace Go.Proofs.YtlkdkgefjipjmaaGreatDoor
open Go.ChangeShapes Go.WideShapes Go.ChangeAt Go.RowKit
section
variable {w w' w0 w2 w3:World}{xb lo N k N' k':Nat}{A:Vg.Ad}{s s':Vg.Xp}{mv:Value}{ws:List Value}{Bs:List Vg.Bp}{ql:Int}{ow:Nat->Nat}{OB:Nat->Prop}
def LpR(w wz:World)(xb lo:Nat)(A:Vg.Ad)(en:Int)(s:Vg.Xp)(N k m:Nat)(OB:Nat->Prop):Prop:=
 ∃F s',Vg.Steps A en m F s s'/\ESn w wz xb lo A s' (N+F) (k+F) OB
def AvR(w wz:World)(xb lo:Nat)(A:Vg.Ad)(en:Int)(s:Vg.Xp)(N k:Nat)(OB:Nat->Prop):Prop:=
 ∃m F s',Vg.Steps A en m F s s'/\m<=16384/\(Vg.Halt A en s'\/m=16384)/\ESn w wz xb lo A s' (N+F) (k+F) OB
theorem ES.next_(h:ESn w w' xb lo A s' N' k' OB):∃OB1,ES w' xb lo A s' N' k' OB1/\(∀j,OB1 j->OB j\/w.heap.size<=j)/\Vg.Touch OB w w':=h
theorem es_advance (n:Int) {en:Int} (h:ES w xb lo A s N k OB) (hT:Vg.Tab w) (hlo:1<=lo) (hQ:Vg.Idle A.Q) (hnl:A.nl<=64) (hsw:0<=A.sw/\A.sw<=1099511627776) (hn0:0<=n) (hen:s.t+n=en) (hM:en<=4503599627370496) (hk:k<=800000) (hN:N<=1099511627776)
  (hX:∀m F s',m<=16384->Vg.Steps A en m F s s'->Vg.Xc A en s'/\F<=100000) :
  Calls Tryz.prog 9 #[.pointer (some ⟨xb,0,none⟩),.int .i64 n] w fun e w'=>∃m F s',e=.returned (.tuple #[.int .i64 (s'.t-s.t),.int .i64 0])/\Vg.Steps A en m F s s'/\m<=16384/\(Vg.Halt A en s'\/m=16384)/\ESn w w' xb lo A s' (N+F) (k+F) OB:=by
 have hr:=h.rng.1
 have hno:=h.no0 hlo
 have hnw:=fun wz (hg:Vg.Grows w wz)=>es_now_c h hg
 obtain⟨t1,ht1⟩:∃t1,s.t=t1:=⟨_,rfl⟩
 rw[ht1]at hr hnw hen
 have w1e:IntKind.i64.wrap (4503599627370496-t1)=4503599627370496-t1:=by rw[IntKind.wrap_i64];omega
 have w2e:IntKind.i64.wrap (t1+n)=en:=by rw[IntKind.wrap_i64];omega
 have hcd:¬(4503599627370496-t1<n):=by omega
 have H_h:=h_ h;have H_hnw:=h_ hnw;have H_hX:=h_ hX;have H_hQ:=h_ hQ;have H_hT:=h_ hT;have H_hno:=h_ hno;have H_ht1:=h_ ht1;clear h hnw hX hQ hT hno ht1
 go_enter Tryz.func9,Tryz.ntmps9
 go_wp2
 go_step3
 go_upto_block 1 with((go_at_call 8;(with_reducible refine(H_hnw.out _ (Vg.gro)).mono ?_);rintro e1 w1 ⟨rfl,rfl⟩))
 go_step3
 go_upto_block 1 with fail
 go_cut [8]from 30 to 93 (fun _ wx=>AvR w wx xb lo A en s N k OB)
 case first=>
  go_wp2_with fail
  go_loopw [30] (fun i wr=>∃m:Nat,m<=16384/\i=.int .i64 m/\LpR w wr xb lo A en s N k m OB) (fun i _=>16384-(intOf i).toNat)
  case atStart=>exact⟨0,by omega,rfl,0,s,.nil s,ESn.refl H_h.out⟩
  case round=>
   obtain⟨m,hm,rfl,F,s1,hS,hE⟩:=hrel
   obtain⟨wQ,hwQ⟩:∃wQ,wQ=wr:=⟨_,rfl⟩
   subst hwQ
   obtain⟨hc,hF⟩:=H_hX.out m F s1 hm hS
   by_cases hlt:m<16384
   ·have hmI:(m:Int)<16384:=by omega
    obtain⟨OB1,hE1,hO1,htt1⟩:=ES.next_ hE
    have hr1:=hE1.rng
    obtain⟨nx,is,hnx⟩:=nx_of s1.V (fun z t hz=>(hr1.2 z t hz).1)
    obtain⟨a,ha⟩:∃a,(if is=true then Vg.wkA A.mn A.mx s1.t0 nx else 0)=a:=⟨_,rfl⟩
    have hwk:=fun wz (hg:Vg.Grows wQ wz)=>es_wake (hE1.grows hg) hnx ha
    have hno1:=hE1.no0 hlo
    have hnow:=fun wz (hg:Vg.Grows wQ wz)=>es_now_c hE1 hg
    obtain⟨t',ht'⟩:∃t',s1.nxt a is en=t':=⟨_,rfl⟩
    have hat:is=true->s1.t<=a:=fun e=>by
     subst e
     obtain⟨Y,fr,hY9,hs⟩:=hE1.svc
     have:=hs.le hnx
     simp only[if_true]at ha
     omega
    have hbd:=Vg.Xp.nxt_bd (A:=A) hc.lf.1 hc.le hat
    rw[ht']at hbd
    have hnext:=fun wz (hg:Vg.Grows wQ wz)=>es_next (hE1.grows hg) ((ESn.tab0 hE H_hT.out H_hno.out).grows hg) hlo H_hQ.out hc.r01 hnx ha hc.lf en
    rw[ht']at hnext
    obtain⟨ma,mc,x0⟩:=hE1.tab
    simp only[exC]at x0
    obtain⟨t2,ht2⟩:∃t2,s1.t=t2:=⟨_,rfl⟩
    have hc01:=hc.le
    have hr1t:=hr1.1
    rw[ht2]at hnow hbd hat hr1t hc01
    obtain⟨c_x0,f_x0,p_x0,l_x0,H_x0⟩:=Vg.lay x0;clear x0
    have w3e:IntKind.i64.wrap (t'-t2)=t'-t2:=by rw[IntKind.wrap_i64];omega
    have H_hS:=h_ hS;have H_hE:=h_ hE;have H_hc:=h_ hc;have H_hF:=h_ hF;have H_hE1:=h_ hE1;have H_hO1:=h_ hO1;have H_htt1:=h_ htt1;have H_hr1:=h_ hr1;have H_hnx:=h_ hnx;have H_ha:=h_ ha;have H_hwk:=h_ hwk;have H_hno1:=h_ hno1;have H_hnow:=h_ hnow;have H_ht':=h_ ht';have H_hnext:=h_ hnext;have H_ht2:=h_ ht2;clear hS hE hc hF hE1 hO1 htt1 hr1 hnx ha hwk hno1 hnow ht' hnext ht2
    by_cases hgo:Vg.Go1 en s1 is a
    ·have hdo:(t2<en)\/(en<=t2/\is=true/\¬t2<a):=by
      have h9:=H_ht2.out
      unfold Vg.Go1 at hgo
      rcases hgo with h1|⟨h1,h2⟩
      ·left;omega
      ·rcases Int.lt_or_le t2 en with h3|h3
       ·exact .inl h3
       ·exact .inr ⟨h3,h1,by omega⟩
     have hgn:∀wz,Vg.Grows wQ wz->¬0<t'-t2->ESn wQ wz xb lo A (s1.gone A t') (N+F) (k+F) OB1:=fun wz hg h9=>by
      have h8:=H_ht2.out
      have e9:s1.gone A t'=s1:=by unfold Vg.Xp.gone;rw[if_neg (by omega)]
      rw[e9];exact ESn.grows (ESn.refl H_hE1.out) hg
     have hgs:∀wz,Vg.Grows wQ wz->0<t'-t2->Calls Tryz.prog 29 #[.pointer (some ⟨xb,0,none⟩),.int .i64 (t'-t2),.int .i64 t'] wz fun e w'=>e=.returned (.tuple #[])/\ESn wz w' xb lo A (s1.gone A t') (N+F) (k+F) OB1:=fun wz hg h9=>by
      have h8:=H_ht2.out
      have hc:=H_hc.out
      have e9:s1.gone A t'=s1.goes A (t'-t2) t':=by unfold Vg.Xp.gone;rw[<-h8,if_pos (by omega)]
      rw[e9]
      refine es_goes (t'-t2) t' (H_hE1.out.grows hg) hlo (by have:=hc.ms;omega) hc.r01 (by have:=hc.id;rw[IntKind.wrap_i64];omega) ?_
      intro K' M' d1 d2 d3 r hx
      obtain⟨i,a1,a2,a3,a4⟩:=hc.dn _ _ _ _ _ _ _ hx
      exact⟨i,a1,a2,by rw[IntKind.wrap_i64];omega⟩
     have H_hgo:=h_ hgo;have H_hgn:=h_ hgn;have H_hgs:=h_ hgs;clear hgo hgn hgs
     go_upto_region 10 with((go_at_call 27;(with_reducible refine(H_hwk.out _ (Vg.gro)).mono ?_);rintro e2 w2 ⟨rfl,hg2⟩;have H_hg2:=h_ hg2;clear hg2))
     go_cut [40] (fun v wz=>v=.bool false/\w2=wz)
     case first=>
      rcases hdo with h1|⟨h1,rfl,h3⟩
      ·have h2:¬en<=t2:=by omega
       go_wp2_with (first|(go_at_call 8;(with_reducible refine(H_hnow.out _ H_hg2.out).mono ?_);rintro e2 w2 ⟨rfl,rfl⟩))
       go_meet
       exact⟨by simp[h2],rfl⟩
      ·go_wp2_with (first|(go_at_call 8;(with_reducible refine(H_hnow.out _ H_hg2.out).mono ?_);rintro e2 w2 ⟨rfl,rfl⟩))
       go_meet
       exact⟨by simp[h3],rfl⟩
     obtain⟨rfl,hw2⟩:=hcut
     have hw2:=hw2.symm
     subst hw2
     go_upto_if 63 with(first|(go_at_call 28;(with_reducible refine(H_hnext.out _ H_hg2.out).mono ?_);rintro e3 w3 ⟨rfl,hg3⟩;have hg3:=H_hg2.out.trans hg3;have H_hg3:=h_ hg3;clear hg3)|(go_at_call 8;(with_reducible refine(H_hnow.out _ H_hg3.out).mono ?_);rintro e4 w4 ⟨rfl,rfl⟩))
     go_cut [] (fun wz=>ESn wQ wz xb lo A (s1.gone A t') (N+F) (k+F) OB1)
     case first=>
      by_cases hby:0<t'-t2
      ·go_wp2_with ((go_at_call 29;(with_reducible refine(H_hgs.out _ H_hg3.out hby).mono ?_);rintro e5 w5 ⟨rfl,hs5⟩;have H_hs5:=h_ hs5;clear hs5))
       go_meet
       exact ESn.pre H_hg3.out H_hs5.out
      ·go_wp2_with fail
       go_meet
       exact H_hgn.out _ H_hg3.out hby
     obtain⟨wA,hwA⟩:∃wA,wA=wc:=⟨_,rfl⟩
     subst hwA
     obtain⟨OB2,hE2,hO2,htt2⟩:=ES.next_ hcut
     have hgB:=Vg.Xp.gone_B A s1 t'
     have hgO:=Vg.Xp.gone_ok A s1 t' H_hc.out.wh
     obtain⟨s2,hs2⟩:∃s2,s1.gone A t'=s2:=⟨_,rfl⟩
     rw[hs2]at hE2 hgB hgO
     obtain⟨hgB1,hgB2,hgB3,hgB4,hgB5,hgB6⟩:=hgB
     rw[H_ht2.out]at hgB3
     have hnow2:=fun wz (hg:Vg.Grows wA wz)=>es_now_c hE2 hg
     rw[hgB3]at hnow2
     have hno2:=hE2.no0 hlo
     have hTc:Vg.Tab wA:=(ESn.next H_hO1.out H_htt1.out hcut).tab0 H_hT.out H_hno.out
     have hclk:∀wz,Vg.Grows wA wz->Calls Tryz.prog 30 #[.pointer (some ⟨A.sb,0,none⟩),.int .i64 (t'-t2)] wz fun e w'=>∃(a:Option Addr) (c:Nat) (l:List (Int×Int)) (V' P':Int->Option Int) (t0':Int),e=.returned (.tuple #[.slice a l.length c,.int .i64 (t'-t2),.int .i64 0]) /\
       Vg.Que w' wA.heap.size 105 3 (.slice a l.length c) l.length (Vg.fcells t' l)/\ES w' xb lo A (s2.clk t' V' P' t0') (N+F+l.length) (k+F) OB2/\Vg.Touch OB2 wA w'/\Vg.Clk A t' s1.V s1.P s1.t0 l V' P' t0'/\l.length<1024:=fun wz hg=>by
      have hc:=H_hc.out
      have hF:=H_hF.out
      refine(es_clock (t'-t2) (t':=t') (hE2.grows hg) (hTc.grows hg) hlo (by omega) (by omega) (by omega) (fun nx2 hn2=>?_) (fun l V' P' hf=>?_) (by omega)).mono ?_
      ·rw[hgB4]at hn2
       obtain⟨e1,e2⟩:=Vg.nxV_eq H_hnx.out hn2
       have h9:=H_ha.out
       rw[e1,if_pos rfl]at h9
       rw[e2,hgB6,h9]
       exact hbd.2.2.1 e1
      ·rw[hgB4,hgB5]at hf
       exact(hc.fi t' l V' P' hbd.2.1 hf).1
      ·rintro e w' ⟨a,c,l,V',P',t0',rfl,e1,e2,e3,e4⟩
       rw[hgB4,hgB5,hgB6]at e4
       refine⟨a,c,l,V',P',t0',rfl,e1.weaken hg.size,e2,(Vg.Touch.of_grows hg).trans e3,e4,?_⟩
       rcases e4 with⟨rfl,_⟩|⟨hf,_⟩
       ·exact by simp
       ·exact(hc.fi t' l V' P' hbd.2.1 hf).1
     obtain⟨ma2,mc2,x2⟩:=hE2.tab
     simp only[exC]at x2
     clear c_x0 f_x0 p_x0
     obtain⟨c_x2,f_x2,p_x2,l_x2,H_x2⟩:=Vg.lay x2;clear x2
     have hcut9:=hcut
     clear hcut
     have H_hcut9:=h_ hcut9;have H_hE2:=h_ hE2;have H_hO2:=h_ hO2;have H_htt2:=h_ htt2;have H_hs2:=h_ hs2;have H_hgO:=h_ hgO;have H_hgB4:=h_ hgB4;have H_hgB5:=h_ hgB5;have H_hgB6:=h_ hgB6;have H_hnow2:=h_ hnow2;have H_hno2:=h_ hno2;have H_hTc:=h_ hTc;have H_hclk:=h_ hclk;clear hcut9 hE2 hO2 htt2 hs2 hgO hgB4 hgB5 hgB6 hnow2 hno2 hTc hclk
     go_upto_region 15 with fail
     go_cut [12,13,14] (fun v _ _ wz=>∃(a:Option Addr) (c:Nat) (l:List (Int×Int)) (V' P':Int->Option Int) (t0':Int),v=.slice a l.length c /\
       Vg.Que wz wA.heap.size 105 3 (.slice a l.length c) l.length (Vg.fcells t' l)/\ES wz xb lo A (s2.clk t' V' P' t0') (N+F+l.length) (k+F) OB2/\Vg.Touch OB2 wA wz/\Vg.Clk A t' s1.V s1.P s1.t0 l V' P' t0'/\l.length<1024)
     case first=>
      refine wp_region_held_drew (S:=fun w'=>xb<w'.heap.size) (by kernel_rfl) (by go_split_ands <;> (try dsimp only) <;> go_simp) (fun hHeld=>?_)
      refine tk 0 ?_
      refine tk 1 ?_
      refine tk 2 ?_
      refine tk 4 ?_
      refine tk 5 ?_
      refine wpAnyH_ready (rs:=[3,6]) (by kernel_rfl) (by simp) ?_
      refine AllReadyH.cons (o:=_) rfl (fun K hK=>?st6) ?mo6
      case st6=>
       go_simp
       refine hK.out _ _ (by go_split_ands <;> (try dsimp only) <;> go_simp) (fun hHeld6=>?_)
       clear hK K
       refine wpAnyH_ready (rs:=[6]) (by kernel_rfl) (by simp) ?_
       refine AllReadyH.cons (o:=_) rfl (fun K hK=>?st7) ?mo7
       case st7=>
        go_simp
        ((go_at_call 8;(with_reducible refine(H_hnow2.out _ (Vg.gro)).mono ?_);rintro e5 w5 ⟨rfl,rfl⟩))
        all_goals(try go_wp2_with fail)
        refine hK.out _ _ (by go_split_ands <;> (try dsimp only) <;> go_simp) (fun hHeld7=>?_)
        clear hK K
        refine tk 7 ?_
        refine wpAnyH_ready (rs:=[8]) (by kernel_rfl) (by simp) ?_
        refine AllReadyH.cons (o:=_) rfl (fun K hK=>?st9) ?mo9
        case st9=>
         go_simp
         ((go_at_call 30;(with_reducible refine(H_hclk.out _ (Vg.gro)).mono ?_);rintro e6 w6 ⟨a6,c6,l,V6,P6,t06,rfl,hq6,hE6,ht6,hck,hl6⟩;obtain⟨q,hqe⟩:∃q,l.length=q:=⟨_,rfl⟩;rw[hqe]at hq6 hl6 ⊢;have hs6:=ht6.size;have hx6:xb<w6.heap.size:=(by omega);have H_hq6:=h_ hq6;have H_hE6:=h_ hE6;have H_ht6:=h_ ht6;have H_hck:=h_ hck;have H_hqe:=h_ hqe;clear hq6 hE6 ht6 hck hqe))
         all_goals(try go_wp2_with fail)
         refine hK.out _ _ (by go_split_ands <;> (try dsimp only) <;> go_simp) (fun hHeld9=>?_)
         clear hK K
         refine tk 9 ?_
         refine tk 10 ?_
         refine tk 11 ?_
         refine tk 12 ?_
         refine tk 13 ?_
         refine tk 14 ?_
         refine tk 15 ?_
         refine wpAnyH_done (by kernel_rfl) ?_ _
         go_wp2_with fail
         go_meet
         exact⟨a6,c6,l,V6,P6,t06,by rw[H_hqe.out],by rw[H_hqe.out];exact H_hq6.out,H_hE6.out,H_ht6.out,H_hck.out,by rw[H_hqe.out];exact hl6⟩
        exact AllReadyH.nil
       exact AllReadyH.nil
      refine AllReadyH.cons (o:=_) rfl (fun K hK=>?st17) ?mo17
      case st17=>
       go_simp
       ((go_at_call 8;(with_reducible refine(H_hnow2.out _ (Vg.gro)).mono ?_);rintro e5 w5 ⟨rfl,rfl⟩))
       all_goals(try go_wp2_with fail)
       refine hK.out _ _ (by go_split_ands <;> (try dsimp only) <;> go_simp) (fun hHeld17=>?_)
       clear hK K
       refine tk 7 ?_
       refine wpAnyH_ready (rs:=[3]) (by kernel_rfl) (by simp) ?_
       refine AllReadyH.cons (o:=_) rfl (fun K hK=>?st19) ?mo19
       case st19=>
        go_simp
        refine hK.out _ _ (by go_split_ands <;> (try dsimp only) <;> go_simp) (fun hHeld19=>?_)
        clear hK K
        refine wpAnyH_ready (rs:=[8]) (by kernel_rfl) (by simp) ?_
        refine AllReadyH.cons (o:=_) rfl (fun K hK=>?st20) ?mo20
        case st20=>
         go_simp
         ((go_at_call 30;(with_reducible refine(H_hclk.out _ (Vg.gro)).mono ?_);rintro e6 w6 ⟨a6,c6,l,V6,P6,t06,rfl,hq6,hE6,ht6,hck,hl6⟩;obtain⟨q,hqe⟩:∃q,l.length=q:=⟨_,rfl⟩;rw[hqe]at hq6 hl6 ⊢;have hs6:=ht6.size;have hx6:xb<w6.heap.size:=(by omega);have H_hq6:=h_ hq6;have H_hE6:=h_ hE6;have H_ht6:=h_ ht6;have H_hck:=h_ hck;have H_hqe:=h_ hqe;clear hq6 hE6 ht6 hck hqe))
         all_goals(try go_wp2_with fail)
         refine hK.out _ _ (by go_split_ands <;> (try dsimp only) <;> go_simp) (fun hHeld20=>?_)
         clear hK K
         refine tk 9 ?_
         refine tk 10 ?_
         refine tk 11 ?_
         refine tk 12 ?_
         refine tk 13 ?_
         refine tk 14 ?_
         refine tk 15 ?_
         refine wpAnyH_done (by kernel_rfl) ?_ _
         go_wp2_with fail
         go_meet
         exact⟨a6,c6,l,V6,P6,t06,by rw[H_hqe.out],by rw[H_hqe.out];exact H_hq6.out,H_hE6.out,H_ht6.out,H_hck.out,by rw[H_hqe.out];exact hl6⟩
        exact AllReadyH.nil
       exact AllReadyH.nil
      exact AllReadyH.nil
     obtain⟨a6,c6,l,V6,P6,t06,rfl,hq6,hE6,ht6,hck,hl6⟩:=hcut
     obtain⟨q,hqe⟩:∃q,l.length=q:=⟨_,rfl⟩
     rw[hqe]at hq6 hl6 ⊢
     obtain⟨s3,hs3⟩:∃s3,s2.clk t' V6 P6 t06=s3:=⟨_,rfl⟩
     rw[hs3]at hE6
     have hs3B:s3.B=s2.B:=by rw[<-hs3];rfl
     have hs3m:s3.ms=s2.ms:=by rw[<-hs3];rfl
     have hfi:∀x∈l,∃i:Nat,x.1=i/\i<s3.B.length/\i<32:=by
      rcases hck with⟨rfl,_⟩|⟨hf,_⟩
      ·simp
      ·intro x hx
       obtain⟨i,b1,b2,b3⟩:=(H_hc.out.fi t' l V6 P6 hbd.2.1 hf).2 x hx
       exact⟨i,b1,by rw[hs3B,hgB1];exact b2,b3⟩
     have hT6:Vg.Tab wc:=ht6.tabS H_hTc.out H_hno2.out
     have hsB:∀j,OB2 j->j<wA.heap.size:=fun j hj=>(H_hE2.out.own.2 j hj).2
     have hno6:=hE6.no0 hlo
     have hm3:s3.ms.length<=60001:=by rw[hs3m];have:=H_hc.out.ms;omega
     have hg3:Vg.BkOk 900000 s3.B:=by rw[hs3B];exact H_hgO.out
     have hkF:k+F<=900000:=by have:=H_hF.out;omega
     obtain⟨ma6,mc6,x6⟩:=hE6.tab
     have lx6:xb<wc.heap.size:=Vg.lt_of x6
     clear c_x2 f_x2 p_x2
     have H_hq6:=h_ hq6;have H_hE6:=h_ hE6;have H_ht6:=h_ ht6;have H_hck:=h_ hck;have H_hqe:=h_ hqe;have H_hs3:=h_ hs3;have H_hs3B:=h_ hs3B;have H_hs3m:=h_ hs3m;have H_hfi:=h_ hfi;have H_hT6:=h_ hT6;have H_hsB:=h_ hsB;have H_hno6:=h_ hno6;have H_hg3:=h_ hg3;have H_x6:=h_ x6;clear hq6 hE6 ht6 hck hqe hs3 hs3B hs3m hfi hT6 hsB hno6 hg3 x6
     go_wp2_with fail
     go_loopw [83] (fun i wr=>∃j:Nat,j<=q/\i=.int .i64 j/\ESn wc wr xb lo A (Vg.Xp.fired A s3 (l.take j)) (N+F+l.length) (k+F+j) OB2) (fun i _=>q-(intOf i).toNat)
     case atStart=>exact⟨0,by omega,rfl,by simpa[Vg.Xp.fired]using ESn.refl H_hE6.out⟩
     case round=>
      obtain⟨j,hj,rfl,hEj⟩:=hrel
      by_cases hlj:j<q
      ·have hljI:(j:Int)<q:=by omega
       have hlL:j<l.length:=by rw[H_hqe.out];exact hlj
       obtain⟨OBj,hEj1,hOj,htj⟩:=ES.next_ hEj
       have hqj:=H_hq6.out.kept (w':=wr) fun g hg=>htj.block g (H_hq6.out.lt g hg).2 (fun hh=>by have h1:=H_hsB.out g hh;have h2:=(H_hq6.out.lt g hg).1;omega)
       obtain⟨g,o,rfl,hg1,hg2,hg4,hg5,c0,c1,c2⟩:=Vg.Reads.fired H_hqe.out hqj.reads j hlL
       obtain⟨i,hxi,hi1,hi2⟩:=H_hfi.out _ (List.getElem_mem hlL)
       obtain⟨fa,hfa⟩:∃fa,l[j].2=fa:=⟨_,rfl⟩
       rw[hfa]at c1 c2
       rw[hxi]at c0
       have hfB:=Vg.Xp.fired_B A (l.take j) s3
       have hfO:=Vg.Xp.fired_ok A (l.take j) s3 900000 H_hg3.out
       have hlt9:(l.take j).length=j:=by rw[List.length_take];omega
       rw[hlt9]at hfB hfO
       have hsn:=Vg.Xp.fired_snoc A s3 l j hlL
       obtain⟨s4,hs4⟩:∃s4,Vg.Xp.fired A s3 (l.take j)=s4:=⟨_,rfl⟩
       rw[hs4]at hEj hEj1 hfB hfO hsn
       have hi4:i<s4.B.length:=by rw[hfB.1];exact hi1
       have hco:=hfO _ (List.getElem_mem hi4)
       have hfire:s4.fire A l[j]=s4.rel A i s4.B[i].co fa:=by
        unfold Vg.Xp.fire
        rw[hxi,hfa,show((i:Nat):Int).toNat=i from by omega,Vg.getD_bk hi4]
       have hfs:∀wz,Vg.Grows wr wz->∀la,Calls Tryz.prog 31 #[.pointer (some ⟨xb,0,none⟩),.agg #[.int .i64 i,.int .i64 fa,.int .i64 la]] wz fun e w'=>e=.returned (.tuple #[])/\ESn wz w' xb lo A (s4.fire A l[j]) (N+F+l.length) (k+F+j+1) OBj:=fun wz hg la=>by
        rw[hfire]
        exact es_fires i fa la _ (hEj1.grows hg) hlo (by omega) (by have:=hfB.2.1;omega) hi4 hi2 rfl hco.2 hsw (fun x hx=>by have:=(hfO x hx).1;omega)
       have H_hEj:=h_ hEj;have H_hEj1:=h_ hEj1;have H_hOj:=h_ hOj;have H_htj:=h_ htj;have H_hqj:=h_ hqj;have H_hxi:=h_ hxi;have H_hfa:=h_ hfa;have H_hfB:=h_ hfB;have H_hfO:=h_ hfO;have H_hs4:=h_ hs4;have H_hco:=h_ hco;have H_hfire:=h_ hfire;have H_hfs:=h_ hfs;have H_hsn:=h_ hsn;clear hEj hEj1 hOj htj hqj hxi hfa hfB hfO hs4 hco hfire hfs hsn
       go_wp2_with ((go_at_call 31;(with_reducible refine(H_hfs.out _ (Vg.gro) _).mono ?_);rintro e7 w7 ⟨rfl,hs7⟩;have H_hs7:=h_ hs7;clear hs7))
       exact⟨⟨j+1,by omega,by go_num,by rw[H_hsn.out];exact ESn.next H_hOj.out H_htj.out (ESn.pre (Vg.gro) H_hs7.out)⟩,by simp[intOf];omega⟩
      ·have hjq:j=q:=by omega
       subst hjq
       have htk:l.take j=l:=by rw[<-H_hqe.out];exact List.take_length
       rw[htk]at hEj
       have hEj2:ESn wc wr xb lo A (Vg.Xp.fired A s3 l) (N+(F+l.length)) (k+(F+l.length)) OB2:=by
        rw[<-Nat.add_assoc,<-Nat.add_assoc]
        have h9:=hEj
        have h8:=H_hqe.out
        rw[show k+F+j=k+F+l.length from by omega]at h9
        exact h9
       obtain⟨OB5,hE5,hO5,ht5⟩:=ES.next_ hEj2
       have hfB:=Vg.Xp.fired_B A l s3
       have hst:=fun wz (hg:Vg.Grows wr wz)=>es_settle (hE5.grows hg) ((ht5.tabS H_hT6.out H_hno2.out).grows hg) hlo H_hQ.out hnl (by have:=hfB.2.1;have:=H_hqe.out;omega)
       have H_hEj:=h_ hEj;have H_hEj2:=h_ hEj2;have H_hE5:=h_ hE5;have H_hO5:=h_ hO5;have H_ht5:=h_ ht5;have H_hfB:=h_ hfB;have H_hst:=h_ hst;have H_htk:=h_ htk;clear hEj hEj2 hE5 hO5 ht5 hfB hst htk
       go_wp2_with ((go_at_call 32;(with_reducible refine(H_hst.out _ (Vg.gro)).mono ?_);rintro e8 w8 ⟨rfl,hs8⟩;have H_hs8:=h_ hs8;clear hs8))
       go_roundw
       case rel=>
        exact⟨m+1,by omega,by go_num,F+l.length,_,Vg.Steps.snoc H_hS.out ⟨nx,is,a,l,V6,P6,t06,⟨H_hnx.out,H_ha.out⟩,H_hgo.out,(by rw[H_ht'.out];exact H_hck.out),rfl,rfl⟩,(by rw[H_ht'.out,H_hs2.out,H_hs3.out];exact ESn.next H_hO1.out H_htt1.out (ESn.next H_hO2.out H_htt2.out (ESn.next (fun j hj=>.inl hj) H_ht6.out (ESn.next H_hO5.out H_ht5.out (ESn.pre (Vg.gro) H_hs8.out)))))⟩
       case measure=>simp[intOf];omega
    ·have hA:∀wz,Vg.Grows wQ wz->AvR w wz xb lo A en s N k OB:=fun wz hg=>⟨m,F,s1,H_hS.out,hm,.inl ⟨nx,is,a,⟨H_hnx.out,H_ha.out⟩,hgo⟩,H_hE.out.grows hg⟩
     have hge:en<=t2:=by
      have:=H_ht2.out
      unfold Vg.Go1 at hgo
      omega
     cases is with
     | false=>
      have H_hA:=h_ hA;have H_hgo:=h_ hgo;clear hA hgo
      go_wp2_with (first|(go_at_call 27;(with_reducible refine(H_hwk.out _ (Vg.gro)).mono ?_);rintro e2 w2 ⟨rfl,hg2⟩;obtain⟨x2,n2,rfl⟩:=hg2)|(go_at_call 8;(with_reducible refine(H_hnow.out _ (Vg.gro)).mono ?_);rintro e2 w2 ⟨rfl,rfl⟩))
      go_meet
      exact H_hA.out _ (Vg.gro)
     | true=>
      have hgt:t2<a:=by
       have:=H_ht2.out
       unfold Vg.Go1 at hgo
       have h1:¬a<=s1.t:=fun e=>hgo (.inr ⟨rfl,e⟩)
       omega
      have H_hA:=h_ hA;have H_hgo:=h_ hgo;clear hA hgo
      go_wp2_with (first|(go_at_call 27;(with_reducible refine(H_hwk.out _ (Vg.gro)).mono ?_);rintro e2 w2 ⟨rfl,hg2⟩;obtain⟨x2,n2,rfl⟩:=hg2)|(go_at_call 8;(with_reducible refine(H_hnow.out _ (Vg.gro)).mono ?_);rintro e2 w2 ⟨rfl,rfl⟩))
      go_meet
      exact H_hA.out _ (Vg.gro)
   ·have hme:m=16384:=by omega
    subst hme
    have H_hS:=h_ hS;have H_hE:=h_ hE;have H_hc:=h_ hc;have H_hF:=h_ hF;clear hS hE hc hF
    go_wp2_with fail
    go_meet
    exact⟨16384,F,s1,H_hS.out,by omega,.inr rfl,H_hE.out⟩
 case rest=>
  obtain⟨m,F,s1,hS,hm,hH,hE⟩:=hcut
  obtain⟨OB1,hE1,hO1,htt1⟩:=ES.next_ hE
  have hr1:=hE1.rng.1
  have hnow:=es_now hE1
  obtain⟨t2,ht2⟩:∃t2,s1.t=t2:=⟨_,rfl⟩
  rw[ht2]at hnow hr1
  have w3e:IntKind.i64.wrap (t2-t1)=t2-t1:=by rw[IntKind.wrap_i64];omega
  have H_hS:=h_ hS;have H_hH:=h_ hH;have H_hE:=h_ hE;have H_hE1:=h_ hE1;have H_hO1:=h_ hO1;have H_htt1:=h_ htt1;have H_hnow:=h_ hnow;have H_ht2:=h_ ht2;clear hS hH hE hE1 hO1 htt1 hnow ht2
  go_wp2_with ((go_at_call 8;(with_reducible refine(H_hnow.out).mono ?_);rintro e2 w2 ⟨rfl,rfl⟩))
  (try rw[Exit.noGoto_ret])
  go_returns
  exact⟨m,F,s1,by rw[H_ht2.out,H_ht1.out];rfl,H_hS.out,hm,H_hH.out,H_hE.out⟩
end
end Go.Proofs.YtlkdkgefjipjmaaGreatDoor
