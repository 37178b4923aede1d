/- SvcB (put together). -/
import Derived.Test.YtlkdkgefjipjmaaGreatDoorP14
import Derived.Test.YtlkdkgefjipjmaaGreatDoorQ0
set_option linter.all false
set_option maxHeartbeats 40000000
set_option maxRecDepth 100000
namespace Vg
open Go Go.RowKit
theorem wpList_nil0{P:Program}{w:World}{ops:Array Oper}{rest:List Oper}{o:Oper}{a:Act}{Q:Exit->Act->World->Prop}(hgd:o.guard=none)(s x:Operand)(t:TypeId)
  (ho:o.op=.call { callee:=.builtin .append,args:=#[s,x],argTypes:=#[t,t] })
  (e:TypeId)(i:TypeInfo)(ht:P.underlying t=some (.slice e))(hi:P.info? e=some i)
  (hs:a.eval s=.slice none 0 0)(sa:Option Addr)(c:Nat)(hx:a.eval x=.slice sa 0 c)
  (h:wpList P ops Q rest (a.put o.dst (.slice none 0 0)) w):wpList P ops Q (o::rest) a w:=by
 refine wpList_plain hgd fun _ hK=>?_
 have hr:(Builtin.append_ #[t,t] o.type #[.slice none 0 0,.slice sa 0 c]).run P w=.ok (.slice none 0 0) w:=by
  cases sa with
  | none=>simp[Builtin.append_,run_underlying ht,Go.sizeOf,typeInfo,hi,Builtin.lenOf,Builtin.firstCells,storeCells]
  | some ad=>
   have hfc:=run_firstCells_some (P:=P) w i.size 0 ad 0 c [] (by simp) (by simp)
   simp[Builtin.append_,run_underlying ht,Go.sizeOf,typeInfo,hi,Builtin.lenOf,hfc,storeCells]
 unfold Oper.wp execOp
 simp only[ho,resolve,invoke,builtin,Sem.run_bind,Sem.run_pure,Result.andThen_ok,List.map_toArray,List.map_cons,List.map_nil,hs,hx,hr]
 exact hK _ _ h
theorem wpList_nilapp{P:Program}{w:World}{ops:Array Oper}{rest:List Oper}{o:Oper}{a:Act}{Q:Exit->Act->World->Prop}(hgd:o.guard=none)(s x:Operand)(t:TypeId)
  (ho:o.op=.call { callee:=.builtin .append,args:=#[s,x],argTypes:=#[t,t] })
  (base:Nat)(e:TypeId)(i:TypeInfo)(z:Value)(size bytes:Nat)(ht:P.underlying t=some (.slice e))(hi:P.info? e=some i)(hz:i.zero=some z)
  (hsize:i.size=size)(hby:i.bytes=bytes)(hzs:z.cells.size=size)(hsz:0<size)
  (hs:a.eval s=.slice none 0 0){B:Nat}(sa:Option Addr)(n c:Nat)(xs:List Value)(hx:a.eval x=.slice sa n c)(hq:Que w B e size (.slice sa n c) n xs)(h1:∀u∈xs,u.oneCell'=true)
  (h63:n<=maxLen)(hbytes:n*bytes<=140737488355328)(hbase:base<=w.heap.size)
  (h:∀v' W',Que W' base e size v' n xs->Grows w W'->wpList P ops Q rest (a.put o.dst v') W'):wpList P ops Q (o::rest) a w:=by
 rcases Nat.eq_zero_or_pos n with rfl|hn
 ·have hx0:xs=[]:=List.eq_nil_of_length_eq_zero (by simpa using hq.1)
  subst hx0
  exact wpList_nil0 hgd s x t ho e i ht hi hs sa c hx (h _ _ (Que.nil _ _ _ _) (Grows.refl _))
 ·rcases hq.reads with⟨_,h0,_⟩|⟨g,off,cap,hsv,_,_,_,_,hc⟩
  ·omega
  ·simp only[Value.slice.injEq]at hsv
   obtain⟨rfl,_,rfl⟩:=hsv
   refine wpList_que w hgd s x t ho base e i z size bytes ht hi hz hsize hby hzs hsz (.slice none 0 0) 0 [] hs (Que.nil _ _ _ _) ⟨g,off,none⟩ n c xs hx hq.1 (Reads.news hc) h1 hn (by rw[Nat.zero_add];exact h63) (by rw[Nat.zero_add];exact hbytes) hbase ?_
   intro v' W1 y k hq2 hsm ho2
   rw[Nat.zero_add,List.nil_append]at hq2
   exact h _ _ hq2 ((hsm.grows (w0:=w) (Grows.refl _) (fun j hj=>by simp[Value.ownBlock]at hj)).plus y k)
theorem fcells_ones(now:Int):∀(l:List (Int×Int)),∀u∈fcells now l,u.oneCell'=true
 | [],u,h=>by simp[fcells]at h
 | x::l,u,h=>by
  simp only[fcells,List.mem_cons]at h
  rcases h with rfl|rfl|rfl|h
  ·rfl
  ·rfl
  ·rfl
  ·exact fcells_ones now l u h
end Vg
namespace Go.Proofs.YtlkdkgefjipjmaaGreatDoor
open Go.ChangeShapes Go.WideShapes Go.ChangeAt Go.RowKit
section
variable {w w0 w' w2:World}{sb tb fr N:Nat}{v:Value}{s:Vg.Sv}{mn mx t t0 wn nx en:Int}{X Y:Nat->Prop}{V P V' P':Int->Option Int}
theorem step_at (c n last m:Int) (ar la:Bool) (w:World) (hc:c=Vg.low last) (ht:0<=last) (h0:0<=m) (hM:last+m<=4503599627370496) :
  Calls Tryz.prog 61 #[ckV c n ar la last,.int .i64 m] w fun e w'=>e=.returned (.tuple #[ckV (Vg.go ⟨c,n,ar,la⟩ m).count n (Vg.go ⟨c,n,ar,la⟩ m).armed (Vg.go ⟨c,n,ar,la⟩ m).latch (last+m),.int .i64 0])/\Vg.Grows w w':=by
 have hnow:Vg.ckNow c last=(last,0):=by have:=Vg.ckNow_add (c:=c) (t:=last) (k:=0) ht (by omega) (by omega) (by rw[hc];unfold Vg.low;omega);rwa [Int.add_zero]at this
 have h9:=clock_step c n ar la last m w (by have:=Vg.low_bd last;omega)
 rw[Vg.ckStep_ok hnow h0 (by omega)]at h9
 exact h9
def AdvP(w w':World)(sb:Nat)(Y:Nat->Prop)(mn mx t t0 n:Int)(V P:Int->Option Int)(N:Nat)(e:Ending):Prop:=
 ∃(a:Option Addr)(c:Nat)(l:List (Int×Int))(V' P':Int->Option Int)(t0':Int)(fr':Nat),e=.returned (.tuple #[.slice a l.length c,.int .i64 n,.int .i64 0])/\Vg.Que w' w.heap.size 105 3 (.slice a l.length c) l.length (Vg.fcells (t+n) l) /\
   SX w' sb Y mn mx (t+n) t0' V' P' fr' (N+l.length)/\Vg.Touch Y w w' /\
   ((l=[]/\V'=V/\P'=P/\t0'=t0/\∀nx,Vg.NxV V nx true->t+n<Vg.wkA mn mx t0 nx) \/
   (Vg.Fires (t+n) (V,P) l (V',P')/\t0'=t+n/\(∀z u,V' z=some u->t+n<u)/\∃nx,Vg.NxV V nx true/\t+n=Vg.wkA mn mx t0 nx))
def AdvI(w wr:World)(sb tb:Nat)(X Y:Nat->Prop)(mn mx en:Int)(V P:Int->Option Int)(N:Nat)(v:Value):Prop:=
 ∃(a:Option Addr)(c:Nat)(l:List (Int×Int))(V' P':Int->Option Int)(fr':Nat)(s':Vg.Sv),v=.slice a l.length c/\Vg.Que wr w.heap.size 105 3 (.slice a l.length c) l.length (Vg.fcells en l) /\
   Vg.Fires en (V,P) l (V',P')/\l.length<1024/\(∀z u,V' z=some u->en<u)/\TV wr tb X en V' P' fr' (N+l.length)/\Vg.blk wr sb=some (svcC mn mx s' tb)/\Vg.Sok mn mx s' V' en/\s'.t=en/\Vg.Touch Y w wr
def AdvJ(w wr:World)(sb tb:Nat)(X Y:Nat->Prop)(mn mx t t0 en:Int)(V P:Int->Option Int)(N:Nat)(v:Value):Prop:=
 ∃(a:Option Addr)(c:Nat)(l:List (Int×Int))(V' P':Int->Option Int)(fr':Nat)(s':Vg.Sv)(t0' wn' m':Int),v=.slice a l.length c/\Vg.Que wr w.heap.size 105 3 (.slice a l.length c) l.length (Vg.fcells en l) /\
   TV wr tb X wn' V' P' fr' (N+l.length)/\Vg.blk wr sb=some (svcC mn mx s' tb)/\Vg.Sok mn mx s' V' t0'/\s'.t+m'=en/\0<=m'/\wn'<=s'.t/\Vg.Touch Y w wr/\(∀nx,Vg.NxV V' nx true->en<Vg.wkA mn mx t0' nx) /\
   ((l=[]/\V'=V/\P'=P/\t0'=t0/\∀nx,Vg.NxV V nx true->en<Vg.wkA mn mx t0 nx) \/
   (Vg.Fires en (V,P) l (V',P')/\t0'=en/\(∀z u,V' z=some u->en<u)/\∃nx,Vg.NxV V nx true/\en=Vg.wkA mn mx t0 nx))
theorem AdvI.J(h:AdvI w w' sb tb X Y mn mx en V P N v)(hn:∃nx,Vg.NxV V nx true/\en=Vg.wkA mn mx t0 nx)(hg:Vg.Grows w' w2):AdvJ w w2 sb tb X Y mn mx t t0 en V P N v:=by
 obtain⟨a,c,l,V',P',fr',s',h1,h2,h3,h4,h5,h6,h7,h8,h9,h10⟩:=h
 refine⟨a,c,l,V',P',fr',s',en,en,0,h1,h2.grows hg,h6.grows hg,hg.blk h7,h8,by omega,Int.le_refl _,by omega,h10.trans (Vg.Touch.of_grows hg),fun nx hnx=>?_,.inr ⟨h3,rfl,h5,hn⟩⟩
 rcases hnx with⟨e,_⟩|⟨_,⟨z,hz⟩,_⟩
 ·cases e
 ·exact(Vg.wkA_rng h8.b.tm (h6.rngV.2 z nx hz).2 (h5 z nx hz)).1
theorem nx_of(V:Int->Option Int)(hd:∀z t,V z=some t->0<=t):∃nx is,Vg.NxV V nx is:=by
 by_cases h:∃z t,V z=some t
 ·have key:∀k:Nat,(∃z,V z=some (k:Int))->∃m:Nat,(∃z,V z=some (m:Int))/\∀j:Nat,(∃z,V z=some (j:Int))->m<=j:=by
   intro k
   induction k using Nat.strongRecOn with
   | ind k ih=>
    intro hk
    by_cases h:∃j,j<k/\∃z,V z=some (j:Int)
    ·obtain⟨j,hj,hz⟩:=h;exact ih j hj hz
    ·exact⟨k,hk,fun j hj=>Nat.le_of_not_lt fun hlt=>h ⟨j,hlt,hj⟩⟩
  obtain⟨z,t,hz⟩:=h
  have ht0:=hd z t hz
  obtain⟨m,hm,hl⟩:=key t.toNat ⟨z,by rw[hz];congr 1;omega⟩
  refine⟨m,true,.inr ⟨rfl,hm,fun z t' hz'=>?_⟩⟩
  have h0:=hd z t' hz'
  have:=hl t'.toNat ⟨z,by rw[hz'];congr 1;omega⟩
  omega
 ·refine⟨0,false,.inl ⟨rfl,rfl,fun z=>?_⟩⟩
  cases hz:V z with
  | none=>rfl
  | some t=>exact absurd ⟨z,t,hz⟩ h
theorem TV.setk(h:TV w tb X wn V P fr N):∃b gp,Vg.blk w tb=some (timsC b gp)/\∀(u:World)(t:Nat->Prop)(nx:Int),Vg.Touch t w u->(∀k,X k->¬t k)->Vg.Tab u->¬X 0->wn<=nx->nx<=4503599627370496 ->
  Calls Tryz.prog 63 #[.pointer (some ⟨b,0,none⟩),.int .i64 nx] u fun e w'=>e=.returned (.int .i64 0)/\TVn u w' tb X nx V P fr N/\Vg.blk w' tb=some (timsC b gp):=by
 obtain⟨b,gp,mn,Xw,h1,h2,h3,h4,h5,h6,h7,h8,h9,h10,h11,h12⟩:=h
 refine⟨b,gp,h1,fun u t nx ht hv hT h0 a1 a2=>?_⟩
 have k1:=(ht.block tb (Vg.lt_of h1) (hv tb h6)).trans h1
 have k2:=h2.touch ht (fun k hk=>hv k (h5 k hk))
 have k3:=h3.keep (ht.block gp h3.lt (hv gp h7))
 refine(wv_set nx k2 hT (fun hh=>h0 (h5 0 hh)) a1 a2).mono ?_
 rintro e w' ⟨rfl,hw,htt⟩
 have k4:=(htt.block tb (Vg.lt_of k1) h9).trans k1
 exact⟨rfl,⟨⟨b,gp,mn,Xw,k4,hw,k3.keep (htt.block gp k3.lt h10),h4,h5,h6,h7,h8,h9,h10,fun k hk=>Nat.lt_of_lt_of_le (h11 k hk) (Nat.le_trans ht.size htt.size),h12⟩,htt.mono fun k _ hk=>h5 k hk⟩,k4⟩
theorem sx_advance(n:Int)(h:SX w sb Y mn mx t t0 V P fr N)(hT:Vg.Tab w)(h0:¬Y 0)(hn0:0<=n)(hM:t+n<=4503599627370496)(hw:∀nx,Vg.NxV V nx true->t+n<=Vg.wkA mn mx t0 nx)
  (hF:∀l V' P',Vg.Fires (t+n) (V,P) l (V',P')->l.length<1024)(hN:N<=1152921504606846976):
  Calls Tryz.prog 30 #[.pointer (some ⟨sb,0,none⟩),.int .i64 n] w fun e w'=>AdvP w w' sb Y mn mx t t0 n V P N e:=by
 have hrng:=h.rng
 obtain⟨nx,is,hnx⟩:=nx_of V (fun z t hz=>(hrng.2 z t hz).1)
 have h00:=h
 obtain⟨s,tb,X,wn,hst,h2,h3,h4,h5,h6,h7,h8,h9⟩:=h
 obtain⟨⟨c,m,ha,la⟩,t',ar,goal,past⟩:=s
 simp only at hst
 have hst:=hst.symm
 subst hst
 obtain⟨en,hen⟩:∃en,t+n=en:=⟨_,rfl⟩
 have hs0:sb≠0:=fun e=>h0 (e ▸ h8)
 have hX0:¬X 0:=fun hh=>h0 (h7 0 hh)
 have hcl:c=Vg.low t:=h4.b.cnt
 have htr:=h4.b.tr
 simp only at htr
 have hst9:=h4.b.step (m:=n) hn0 (by show t+n<=_;omega)
 have w1e:IntKind.i64.wrap (4503599627370496-t)=4503599627370496-t:=by rw[IntKind.wrap_i64];omega
 have w2e:IntKind.i64.wrap (t+n)=en:=by rw[IntKind.wrap_i64];omega
 have w3e:IntKind.i64.wrap (en-t)=n:=by rw[IntKind.wrap_i64];omega
 have w4e:IntKind.i64.wrap (en-en)=0:=by rw[IntKind.wrap_i64];omega
 have hcd:¬(4503599627370496-t<n):=by omega
 obtain⟨a0,ha0⟩:∃a0,(if is=true then Vg.wkA mn mx t0 nx else 0)=a0:=⟨_,rfl⟩
 have hwk0:=fun wz (hg:Vg.Grows w wz)=>sx_wake (h00.grows hg) hnx ha0
 obtain⟨i0,hI,hz0,hz1,hz2⟩:=info_parts Tryz.info_fired
 have hstp:=fun wz=>step_at c m t n ha la wz hcl (by omega) hn0 (by omega)
 obtain⟨⟨c1,m1,ha1,la1⟩,hgo⟩:∃h1,Vg.go ⟨c,m,ha,la⟩ n=h1:=⟨_,rfl⟩
 have hm1:m1=m:=by have:=congrArg Vg.Hw.compare hgo;exact this.symm
 subst hm1
 rw[hgo]at hstp
 simp only[hen]at hstp
 have hss:Vg.stepS ⟨⟨c,m1,ha,la⟩,t,ar,goal,past⟩ n=⟨⟨c1,m1,ha1,la1⟩,en,ar,goal,past⟩:=by unfold Vg.stepS;rw[hgo,hen]
 rw[hss]at hst9
 have hrk:∀wz,Vg.blk wz sb=some (svcC mn mx ⟨⟨c1,m1,ha1,la1⟩,en,ar,goal,past⟩ tb)->TV wz tb X wn V P fr N->Vg.Tab wz->Calls Tryz.prog 62 #[.pointer (some ⟨sb,0,none⟩)] wz fun e w'=>RingP wz w' sb tb X mn mx en V P fr N e:=fun wz hb9 hv9 hT9=>svc_ring hb9 hv9 hT9 hX0 hs0 hst9 h6 (by show wn<=en;omega) (by omega) rfl
 have hl0:=Vg.lt_of h2
 have H_h00:=h_ h00;have H_h2:=h_ h2;have H_h3:=h_ h3;have H_h4:=h_ h4;have H_h6:=h_ h6;have H_h7:=h_ h7;have H_h9:=h_ h9;have H_hnx:=h_ hnx;have H_hwk0:=h_ hwk0;have H_hstp:=h_ hstp;have H_hgo:=h_ hgo;have H_hss:=h_ hss;have H_hst9:=h_ hst9;have H_hrk:=h_ hrk;have H_hF:=h_ hF;have H_hw:=h_ hw;have H_hT:=h_ hT;have H_h0:=h_ h0;have H_hX0:=h_ hX0;have H_hcl:=h_ hcl;have H_ha0:=h_ ha0;have H_hrng:=h_ hrng;have H_hen:=h_ hen;clear h00 h2 h3 h4 h6 h7 h9 hnx hwk0 hstp hgo hss hst9 hrk hF hw hT h0 hX0 hcl ha0 hrng hen
 have hb:=H_h2.out
 obtain⟨c_hb,f_hb,p_hb,l_hb,H_hb⟩:=Vg.lay hb;clear hb
 go_enter Tryz.func30,Tryz.ntmps30
 go_wp2
 go_step3
 go_upto_block 1 with((go_at_call 26;(with_reducible refine(svc_now_c (t:=t) (by go_simp)).mono ?_);rintro e1 w1 ⟨rfl,rfl⟩))
 go_step3
 go_upto_block 1 with fail
 go_cut [9,10,11]from 27 to 66 (fun v _ _ wx=>AdvJ w wx sb tb X Y mn mx t t0 en V P N v)
 case first=>
  go_wp2_with fail
  go_loopw [27,9] (fun i v wr=>(i=.int .i64 0/\v=.slice none 0 0/\wr=w)\/(i=.int .i64 1/\is=true/\a0=en/\AdvI w wr sb tb X Y mn mx en V P N v)) (fun i _ _=>5-(intOf i).toNat)
  case atStart=>exact .inl ⟨rfl,rfl,rfl⟩
  case round=>
   rcases hrel with⟨rfl,rfl,hwr⟩|⟨rfl,rfl,hae,hA⟩
   ·have hwr:=hwr.symm
    subst hwr
    by_cases hno:is=true/\a0<=en
    ·obtain⟨rfl,hle⟩:=hno
     have hae:a0=en:=by
      have h8:=H_hw.out nx H_hnx.out
      have h9:=H_ha0.out
      have h7:=H_hen.out
      simp only[if_true]at h9
      omega
     have hgg:¬en<a0:=by omega
     have w5e:IntKind.i64.wrap (a0-t)=n:=by rw[hae];exact w3e
     have H_hae:=h_ hae;clear hae
     go_upto_region 11 with((go_at_call 27;(with_reducible refine(H_hwk0.out _ (Vg.Grows.refl _)).mono ?_);rintro e2 w2 ⟨rfl,hg2⟩;have zb2:=hg2.blk H_hb.out;clear c_hb f_hb p_hb;obtain⟨c_zb2,f_zb2,p_zb2,l_zb2,H_zb2⟩:=Vg.lay zb2;clear zb2;have H_hg2:=h_ hg2;clear hg2))
     obtain⟨u2,hu2⟩:∃u2,Vg.put w2 sb (svcC mn mx ⟨⟨c1,m1,ha1,la1⟩,en,ar,goal,past⟩ tb)=u2:=⟨_,rfl⟩
     have su2:SW w2 u2 sb (svcC mn mx ⟨⟨c1,m1,ha1,la1⟩,en,ar,goal,past⟩ tb):=by rw[<-hu2];exact SW.mk0 l_zb2
     have hv2:TV u2 tb X wn V P fr N:=(H_h3.out.grows H_hg2.out).touch su2.2 (fun k hk e=>H_h6.out (by subst e;exact hk))
     have hT2:Vg.Tab u2:=su2.2.tabS (H_hT.out.grows H_hg2.out) (by simpa using Ne.symm hs0)
     have hrr:∀wz,Vg.Grows u2 wz->Calls Tryz.prog 62 #[.pointer (some ⟨sb,0,none⟩)] wz fun e w'=>RingP wz w' sb tb X mn mx en V P fr N e:=fun wz hg=>H_hrk.out wz (hg.blk su2.1) (hv2.grows hg) (hT2.grows hg)
     rw[<-hu2]at hrr
     have hsz2:=H_hg2.out.size
     have htu:Vg.Touch Y w u2:=(Vg.Touch.of_grows H_hg2.out).trans (su2.2.mono fun k _ hk=>by rw[hk];exact h8)
     have hle9:w.heap.size<=u2.heap.size:=htu.size
     rw[<-hu2]at htu
     simp only[svcC]at hrr htu
     clear hu2 su2 hv2 hT2
     have H_hrr:=h_ hrr;have H_htu:=h_ htu;clear hrr htu
     refine wp_region_held_drew (S:=fun w'=>sb<w'.heap.size) (by kernel_rfl) (by go_split_ands<;>(try dsimp only)<;>go_simp) (fun hHeld=>?_)
     refine tk 0 ?_
     refine tk 1 ?_
     refine tk 2 ?_
     refine tk 3 ?_
     refine tk 5 ?_
     refine tk 6 ?_
     refine wpAnyH_ready (rs:=[4,7]) (by kernel_rfl) (by simp) ?_
     refine AllReadyH.cons (o:=_) rfl (fun K hK=>?st7) ?mo7
     case st7=>
      go_simp
      refine hK.out _ _ (by go_split_ands<;>(try dsimp only)<;>go_simp) (fun hHeld7=>?_)
      clear hK K
      refine wpAnyH_ready (rs:=[7]) (by kernel_rfl) (by simp) ?_
      refine AllReadyH.cons (o:=_) rfl (fun K hK=>?st8) ?mo8
      case st8=>
       go_simp
       ((go_at_call 26;(with_reducible refine(svc_now_c (t:=t) (by go_simp)).mono ?_);rintro e3 w3 ⟨rfl,rfl⟩))
       all_goals(try go_wp2_with fail)
       refine hK.out _ _ (by go_split_ands<;>(try dsimp only)<;>go_simp) (fun hHeld8=>?_)
       clear hK K
       refine tk 8 ?_
       refine wpAnyH_ready (rs:=[9]) (by kernel_rfl) (by simp) ?_
       refine AllReadyH.cons (o:=_) rfl (fun K hK=>?st10) ?mo10
       case st10=>
        go_simp
        ((go_at_call 61;(with_reducible refine(H_hstp.out _).mono ?_);rintro e4 w4 ⟨rfl,x4,n4,rfl⟩))
        all_goals(try go_wp2_with fail)
        refine hK.out _ _ (by go_split_ands<;>(try dsimp only)<;>go_simp) (fun hHeld10=>?_)
        clear hK K
        refine tk 10 ?_
        refine tk 11 ?_
        refine tk 12 ?_
        refine tk 13 ?_
        refine tk 14 ?_
        refine wpAnyH_ready (rs:=[15]) (by kernel_rfl) (by simp) ?_
        refine AllReadyH.cons (o:=_) rfl (fun K hK=>?st16) ?mo16
        case st16=>
         go_simp
         refine hK.out _ _ (by go_split_ands<;>(try dsimp only)<;>go_simp) (fun hHeld16=>?_)
         clear hK K
         refine wpAnyH_done (by kernel_rfl) ?_ _
         go_wp2_with (first|(go_at_call 62;(with_reducible refine(H_hrr.out _ (Vg.gro)).mono ?_);rintro e5 w5 ⟨a3,c3,l3,V3,P3,fr3,s3,rfl,hq3,hF3,hl3,hd3,hfr3,hv3,hb3,hk3,hs3,ht3⟩;have ht5:Vg.Touch Y w w5:=(H_htu.out.trans (Vg.Touch.of_grows (Vg.gro))).trans (ht3.mono fun k _ hk=>hk.elim (fun e=>e ▸ h8) (fun hh=>H_h7.out k hh));have hl9:=H_hF.out l3 V3 P3 (by rw[H_hen.out];exact hF3);obtain⟨q3,hq3e⟩:∃q3,l3.length=q3:=⟨_,rfl⟩;have hd3:=hd3 hl9;rw[hq3e]at hq3 hl9 hv3 ⊢;have hs5:=ht5.size;clear c_zb2 f_zb2 p_zb2;have H_hq3:=h_ hq3;have H_hF3:=h_ hF3;have H_hd3:=h_ hd3;have H_hv3:=h_ hv3;have H_hb3:=h_ hb3;have H_hk3:=h_ hk3;have H_ht5:=h_ ht5;have H_hq3e:=h_ hq3e;clear hq3 hF3 hd3 hv3 hb3 hk3 ht5 hq3e)|(at_builtin;(refine Vg.wpList_nilapp (w:=_) rfl (.tmp 49) (.tmp 51) 101 rfl w.heap.size 105 i0 (.agg #[.int .i64 0,.int .i64 0,.int .i64 0]) 3 24 Tryz.underlying101 hI hz0 hz1 hz2 rfl (by decide) rfl a3 q3 c3 _ rfl H_hq3.out (Vg.fcells_ones _ _) (by unfold maxLen;omega) (by omega) (by omega) ?_);intro v5 w6 hq6 hg6;obtain⟨a6,c6,rfl⟩:=hq6.shape;have H_hq6:=h_ hq6;have H_hg6:=h_ hg6;clear hq6 hg6))
         go_roundw
         case rel=>
          refine .inr ⟨by go_num,(by first|rfl|trivial),H_hae.out,a6,c6,l3,V3,P3,fr3,s3,by rw[H_hq3e.out],by rw[H_hq3e.out];exact H_hq6.out,H_hF3.out,by rw[H_hq3e.out];exact hl9,H_hd3.out,by rw[H_hq3e.out];exact H_hv3.out.grows H_hg6.out,H_hg6.out.blk H_hb3.out,H_hk3.out,hs3,H_ht5.out.trans (Vg.Touch.of_grows H_hg6.out)⟩
         case measure=>simp[intOf]
        exact AllReadyH.nil
       exact AllReadyH.nil
      exact AllReadyH.nil
     refine AllReadyH.cons (o:=_) rfl (fun K hK=>?st17) ?mo17
     case st17=>
      go_simp
      ((go_at_call 26;(with_reducible refine(svc_now_c (t:=t) (by go_simp)).mono ?_);rintro e3 w3 ⟨rfl,rfl⟩))
      all_goals(try go_wp2_with fail)
      refine hK.out _ _ (by go_split_ands<;>(try dsimp only)<;>go_simp) (fun hHeld17=>?_)
      clear hK K
      refine tk 8 ?_
      refine wpAnyH_ready (rs:=[4]) (by kernel_rfl) (by simp) ?_
      refine AllReadyH.cons (o:=_) rfl (fun K hK=>?st19) ?mo19
      case st19=>
       go_simp
       refine hK.out _ _ (by go_split_ands<;>(try dsimp only)<;>go_simp) (fun hHeld19=>?_)
       clear hK K
       refine wpAnyH_ready (rs:=[9]) (by kernel_rfl) (by simp) ?_
       refine AllReadyH.cons (o:=_) rfl (fun K hK=>?st20) ?mo20
       case st20=>
        go_simp
        ((go_at_call 61;(with_reducible refine(H_hstp.out _).mono ?_);rintro e4 w4 ⟨rfl,x4,n4,rfl⟩))
        all_goals(try go_wp2_with fail)
        refine hK.out _ _ (by go_split_ands<;>(try dsimp only)<;>go_simp) (fun hHeld20=>?_)
        clear hK K
        refine tk 10 ?_
        refine tk 11 ?_
        refine tk 12 ?_
        refine tk 13 ?_
        refine tk 14 ?_
        refine wpAnyH_ready (rs:=[15]) (by kernel_rfl) (by simp) ?_
        refine AllReadyH.cons (o:=_) rfl (fun K hK=>?st26) ?mo26
        case st26=>
         go_simp
         refine hK.out _ _ (by go_split_ands<;>(try dsimp only)<;>go_simp) (fun hHeld26=>?_)
         clear hK K
         refine wpAnyH_done (by kernel_rfl) ?_ _
         go_wp2_with (first|(go_at_call 62;(with_reducible refine(H_hrr.out _ (Vg.gro)).mono ?_);rintro e5 w5 ⟨a3,c3,l3,V3,P3,fr3,s3,rfl,hq3,hF3,hl3,hd3,hfr3,hv3,hb3,hk3,hs3,ht3⟩;have ht5:Vg.Touch Y w w5:=(H_htu.out.trans (Vg.Touch.of_grows (Vg.gro))).trans (ht3.mono fun k _ hk=>hk.elim (fun e=>e ▸ h8) (fun hh=>H_h7.out k hh));have hl9:=H_hF.out l3 V3 P3 (by rw[H_hen.out];exact hF3);obtain⟨q3,hq3e⟩:∃q3,l3.length=q3:=⟨_,rfl⟩;have hd3:=hd3 hl9;rw[hq3e]at hq3 hl9 hv3 ⊢;have hs5:=ht5.size;clear c_zb2 f_zb2 p_zb2;have H_hq3:=h_ hq3;have H_hF3:=h_ hF3;have H_hd3:=h_ hd3;have H_hv3:=h_ hv3;have H_hb3:=h_ hb3;have H_hk3:=h_ hk3;have H_ht5:=h_ ht5;have H_hq3e:=h_ hq3e;clear hq3 hF3 hd3 hv3 hb3 hk3 ht5 hq3e)|(at_builtin;(refine Vg.wpList_nilapp (w:=_) rfl (.tmp 49) (.tmp 51) 101 rfl w.heap.size 105 i0 (.agg #[.int .i64 0,.int .i64 0,.int .i64 0]) 3 24 Tryz.underlying101 hI hz0 hz1 hz2 rfl (by decide) rfl a3 q3 c3 _ rfl H_hq3.out (Vg.fcells_ones _ _) (by unfold maxLen;omega) (by omega) (by omega) ?_);intro v5 w6 hq6 hg6;obtain⟨a6,c6,rfl⟩:=hq6.shape;have H_hq6:=h_ hq6;have H_hg6:=h_ hg6;clear hq6 hg6))
         go_roundw
         case rel=>
          refine .inr ⟨by go_num,(by first|rfl|trivial),H_hae.out,a6,c6,l3,V3,P3,fr3,s3,by rw[H_hq3e.out],by rw[H_hq3e.out];exact H_hq6.out,H_hF3.out,by rw[H_hq3e.out];exact hl9,H_hd3.out,by rw[H_hq3e.out];exact H_hv3.out.grows H_hg6.out,H_hg6.out.blk H_hb3.out,H_hk3.out,hs3,H_ht5.out.trans (Vg.Touch.of_grows H_hg6.out)⟩
         case measure=>simp[intOf]
        exact AllReadyH.nil
       exact AllReadyH.nil
      exact AllReadyH.nil
     exact AllReadyH.nil
    ·have hnw:∀nx,Vg.NxV V nx true->en<Vg.wkA mn mx t0 nx:=fun nx2 hn2=>by
      rcases H_hnx.out with⟨rfl,_,hno2⟩|⟨rfl,⟨z,hz⟩,hl⟩
      ·rcases hn2 with⟨e,_⟩|⟨_,⟨z,hz⟩,_⟩
       ·cases e
       ·rw[hno2 z]at hz;cases hz
      ·have e2:nx2=nx:=by
        rcases hn2 with⟨e,_⟩|⟨_,⟨z2,hz2⟩,hl2⟩
        ·cases e
        ·exact Int.le_antisymm (hl2 z nx hz) (hl z2 nx2 hz2)
       subst e2
       have h9:=H_ha0.out
       simp only[if_true]at h9
       have h8:¬a0<=en:=fun hh=>hno ⟨rfl,hh⟩
       omega
     have hJ:∀wz,Vg.Grows w wz->AdvJ w wz sb tb X Y mn mx t t0 en V P N (.slice none 0 0):=fun wz hg=>⟨none,0,[],V,P,fr,_,t0,wn,n,rfl,Vg.Que.nil _ _ _ _,H_h3.out.grows hg,hg.blk H_h2.out,H_h4.out,H_hen.out,hn0,h5,Vg.Touch.of_grows hg,hnw,.inl ⟨rfl,rfl,rfl,rfl,hnw⟩⟩
     have H_hJ:=h_ hJ;have H_hnw:=h_ hnw;clear hJ hnw
     cases is with
     | false=>
      go_wp2_with ((go_at_call 27;(with_reducible refine(H_hwk0.out _ (Vg.Grows.refl _)).mono ?_);rintro e2 w2 ⟨rfl,hg2⟩;have H_hg2:=h_ hg2;clear hg2))
      go_meet
      exact H_hJ.out _ H_hg2.out
     | true=>
      have hgt:en<a0:=by
       have h8:¬a0<=en:=fun hh=>hno ⟨rfl,hh⟩
       omega
      go_wp2_with ((go_at_call 27;(with_reducible refine(H_hwk0.out _ (Vg.Grows.refl _)).mono ?_);rintro e2 w2 ⟨rfl,hg2⟩;have H_hg2:=h_ hg2;clear hg2))
      go_meet
      exact H_hJ.out _ H_hg2.out
   ·have hwn9:∃nx,Vg.NxV V nx true/\en=Vg.wkA mn mx t0 nx:=⟨nx,H_hnx.out,by have h9:=H_ha0.out;simp only[if_true]at h9;omega⟩
    have hJ:=fun(wz:World)(hg:Vg.Grows wr wz)=>AdvI.J (t:=t) hA hwn9 hg
    obtain⟨a3,c3,l3,V3,P3,fr3,s3,rfl,hq3,hF3,hl3,hd3,hv3,hb3,hk3,hs3,ht3⟩:=hA
    obtain⟨q3,hq3e⟩:∃q3,l3.length=q3:=⟨_,rfl⟩
    rw[hq3e]at hJ hl3 ⊢
    obtain⟨nx3,is3,hnx3⟩:=nx_of V3 (fun z u hz=>(hv3.rngV.2 z u hz).1)
    have hwk3:=svc_wake hb3 ⟨by have:=hk3.b.tr;omega,hk3.b.tr.2.2⟩ (Sok_wk hk3 hnx3)
    have hq0:¬1024<=q3:=by omega
    clear c_hb f_hb p_hb
    cases is3 with
    | false=>
     have H_hJ:=h_ hJ;have H_hq3:=h_ hq3;have H_hF3:=h_ hF3;have H_hd3:=h_ hd3;have H_hv3:=h_ hv3;have H_hb3:=h_ hb3;have H_hk3:=h_ hk3;have H_ht3:=h_ ht3;have H_hq3e:=h_ hq3e;have H_hwk3:=h_ hwk3;have H_hwn9:=h_ hwn9;have H_hnx3:=h_ hnx3;clear hJ hq3 hF3 hd3 hv3 hb3 hk3 ht3 hq3e hwk3 hwn9 hnx3
     go_wp2_with ((go_at_call 27;(with_reducible refine(H_hwk3.out).mono ?_);rintro e2 w2 ⟨rfl,hg2⟩;have H_hg2:=h_ hg2;clear hg2))
     go_meet
     exact H_hJ.out _ H_hg2.out
    | true=>
     have hgt:en<Vg.wkA mn mx en nx3:=by
      rcases hnx3 with⟨e,_⟩|⟨_,⟨z,hz⟩,_⟩
      ·cases e
      ·exact(Vg.wkA_rng hk3.b.tm (hv3.rngV.2 z nx3 hz).2 (hd3 z nx3 hz)).1
     obtain⟨a9,ha9⟩:∃a9,Vg.wkA mn mx en nx3=a9:=⟨_,rfl⟩
     simp only[if_true]at hwk3
     rw[ha9]at hgt hwk3
     have H_hJ:=h_ hJ;have H_hq3:=h_ hq3;have H_hF3:=h_ hF3;have H_hd3:=h_ hd3;have H_hv3:=h_ hv3;have H_hb3:=h_ hb3;have H_hk3:=h_ hk3;have H_ht3:=h_ ht3;have H_hq3e:=h_ hq3e;have H_hwk3:=h_ hwk3;have H_hwn9:=h_ hwn9;have H_hnx3:=h_ hnx3;have H_ha9:=h_ ha9;clear hJ hq3 hF3 hd3 hv3 hb3 hk3 ht3 hq3e hwk3 hwn9 hnx3 ha9
     go_wp2_with ((go_at_call 27;(with_reducible refine(H_hwk3.out).mono ?_);rintro e2 w2 ⟨rfl,hg2⟩;have H_hg2:=h_ hg2;clear hg2))
     go_meet
     exact H_hJ.out _ H_hg2.out
 case rest=>
  obtain⟨a,c2,l,V',P',fr',s2,t02,wn2,m2,rfl,hq2,hv2,hb2,hk2,hsm,hm0,hwn2,ht2,hwk2,hfin⟩:=hcut
  obtain⟨q,hqe⟩:∃q,l.length=q:=⟨_,rfl⟩
  rw[hqe]at hq2 hv2 ⊢
  obtain⟨⟨cc,cm,ca,cl⟩,tt,ar2,g2,p2⟩:=s2
  simp only at hsm hwn2
  have htr2:=hk2.b.tr
  simp only at htr2
  have hT2:=ht2.tabS H_hT.out H_h0.out
  have hen9:en<=4503599627370496:=by have:=H_hen.out;omega
  obtain⟨nx2,is2,hnx2⟩:=nx_of V' (fun z u hz=>(hv2.rngV.2 z u hz).1)
  have hst2:=fun wz=>step_at cc cm tt m2 ca cl wz hk2.b.cnt (by omega) hm0 (by omega)
  obtain⟨⟨cc1,cm1,ca1,cl1⟩,hgo2⟩:∃h1,Vg.go ⟨cc,cm,ca,cl⟩ m2=h1:=⟨_,rfl⟩
  have hcm1:cm1=cm:=by have:=congrArg Vg.Hw.compare hgo2;exact this.symm
  subst hcm1
  rw[hgo2]at hst2
  simp only[hsm]at hst2
  have hk3:=hk2.step hm0 (by show tt+m2<=_;omega) (fun har=>by
   show tt+m2<_
   rw[hsm]
   exact hwk2 _ (.inr ⟨rfl,hk2.yes har⟩))
  have hss2:Vg.stepS ⟨⟨cc,cm1,ca,cl⟩,tt,ar2,g2,p2⟩ m2=⟨⟨cc1,cm1,ca1,cl1⟩,en,ar2,g2,p2⟩:=by unfold Vg.stepS;rw[hgo2,hsm]
  rw[hss2]at hk3
  have w6e:IntKind.i64.wrap (en-tt)=m2:=by rw[IntKind.wrap_i64];omega
  have hne1:¬tb=sb:=fun e=>by
   obtain⟨b,gp,mn9,Xw,z1,z2,z3,z4,z5,z6,z7⟩:=hv2
   exact H_h6.out (e ▸ z6)
  have hne2:¬sb=tb:=fun e=>hne1 e.symm
  have hwk:=svc_wake hb2 ⟨by show 0<=tt;omega,htr2.2.2⟩ (Sok_wk hk2 hnx2)
  have hwe:wn2<=en:=by omega
  clear c_hb f_hb p_hb
  cases is2 with
  | false=>
   have H_hq2:=h_ hq2;have H_hv2:=h_ hv2;have H_hb2:=h_ hb2;have H_hk2:=h_ hk2;have H_hT2:=h_ hT2;have H_hst2:=h_ hst2;have H_hgo2:=h_ hgo2;have H_hk3:=h_ hk3;have H_hss2:=h_ hss2;have H_hwk:=h_ hwk;have H_ht2:=h_ ht2;have H_hwk2:=h_ hwk2;have H_hfin:=h_ hfin;have H_hnx2:=h_ hnx2;have H_hqe:=h_ hqe;have H_hsm:=h_ hsm;clear hq2 hv2 hb2 hk2 hT2 hst2 hgo2 hk3 hss2 hwk ht2 hwk2 hfin hnx2 hqe hsm
   go_upto_region 17 with((go_at_call 27;(with_reducible refine(H_hwk.out).mono ?_);rintro e6 w6 ⟨rfl,hg6⟩;have zb6:=hg6.blk H_hb2.out;have hv6:=H_hv2.out.grows hg6;have hT6:=H_hT2.out.grows hg6;have H_hg6:=h_ hg6;clear hg6))
   obtain⟨b6,gp6,y6,hset⟩:=hv6.setk
   have l6:=Vg.lt_of zb6
   have hp6:Vg.Touch (fun k=>k=sb) w6 (Vg.put w6 sb (svcC mn mx ⟨⟨cc1,cm1,ca1,cl1⟩,en,ar2,g2,p2⟩ tb)):=Vg.Touch.put (t:=fun k=>k=sb) (Vg.Touch.refl _ w6) rfl _
   have hs6:∀wz,Vg.Grows (Vg.put w6 sb (svcC mn mx ⟨⟨cc1,cm1,ca1,cl1⟩,en,ar2,g2,p2⟩ tb)) wz->Calls Tryz.prog 63 #[.pointer (some ⟨b6,0,none⟩),.int .i64 en] wz fun e w'=>e=.returned (.int .i64 0)/\(TVn wz w' tb X en V' P' fr' (N+q)/\Vg.blk w' tb=some (timsC b6 gp6))/\Vg.blk w' sb=some (svcC mn mx ⟨⟨cc1,cm1,ca1,cl1⟩,en,ar2,g2,p2⟩ tb):=fun wz hg=>by
    refine(hset wz (fun k=>k=sb) en (hp6.trans (Vg.Touch.of_grows hg)) (fun k hk e=>H_h6.out (by subst e;exact hk)) (Vg.Tab.grows (hp6.tabS hT6 (by simpa using Ne.symm hs0)) hg) H_hX0.out hwe hen9).mono ?_
    rintro e w' ⟨rfl,hA,hB⟩
    exact⟨rfl,⟨hA,hB⟩,(hA.2.block sb (Nat.lt_of_lt_of_le (by rw[Vg.put_size];exact l6) hg.size) H_h6.out).trans (hg.blk (Vg.blk_put_same l6))⟩
   simp only[svcC]at hs6 hp6
   obtain⟨c_zb6,f_zb6,p_zb6,l_zb6,H_zb6⟩:=Vg.lay zb6;clear zb6;obtain⟨c_y6,f_y6,p_y6,l_y6,H_y6⟩:=Vg.lay y6;clear y6
   clear hset
   have H_hv6:=h_ hv6;have H_hT6:=h_ hT6;have H_hs6:=h_ hs6;have H_hp6:=h_ hp6;clear hv6 hT6 hs6 hp6
   refine wp_region_held_drew (S:=fun w'=>sb<w'.heap.size) (by kernel_rfl) (by go_split_ands<;>(try dsimp only)<;>go_simp) (fun hHeld=>?_)
   refine tk 0 ?_
   refine tk 1 ?_
   refine tk 2 ?_
   refine tk 3 ?_
   refine tk 5 ?_
   refine tk 6 ?_
   refine wpAnyH_ready (rs:=[4,7]) (by kernel_rfl) (by simp) ?_
   refine AllReadyH.cons (o:=_) rfl (fun K hK=>?st33) ?mo33
   case st33=>
    go_simp
    refine hK.out _ _ (by go_split_ands<;>(try dsimp only)<;>go_simp) (fun hHeld33=>?_)
    clear hK K
    refine wpAnyH_ready (rs:=[7]) (by kernel_rfl) (by simp) ?_
    refine AllReadyH.cons (o:=_) rfl (fun K hK=>?st34) ?mo34
    case st34=>
     go_simp
     ((go_at_call 26;(with_reducible refine(svc_now_c (t:=tt) (by go_simp)).mono ?_);rintro e3 w3 ⟨rfl,rfl⟩))
     all_goals(try go_wp2_with fail)
     refine hK.out _ _ (by go_split_ands<;>(try dsimp only)<;>go_simp) (fun hHeld34=>?_)
     clear hK K
     refine tk 8 ?_
     refine wpAnyH_ready (rs:=[9]) (by kernel_rfl) (by simp) ?_
     refine AllReadyH.cons (o:=_) rfl (fun K hK=>?st36) ?mo36
     case st36=>
      go_simp
      ((go_at_call 61;(with_reducible refine(H_hst2.out _).mono ?_);rintro e4 w4 ⟨rfl,x4,n4,rfl⟩))
      all_goals(try go_wp2_with fail)
      refine hK.out _ _ (by go_split_ands<;>(try dsimp only)<;>go_simp) (fun hHeld36=>?_)
      clear hK K
      refine tk 10 ?_
      refine tk 11 ?_
      refine tk 12 ?_
      refine tk 13 ?_
      refine tk 14 ?_
      refine wpAnyH_ready (rs:=[15]) (by kernel_rfl) (by simp) ?_
      refine AllReadyH.cons (o:=_) rfl (fun K hK=>?st42) ?mo42
      case st42=>
       go_simp
       refine hK.out _ _ (by go_split_ands<;>(try dsimp only)<;>go_simp) (fun hHeld42=>?_)
       clear hK K
       refine wpAnyH_done (by kernel_rfl) ?_ _
       go_upto_region 18 with fail
       refine wp_region_held_drew (S:=fun w'=>sb<w'.heap.size/\tb<w'.heap.size/\w'.cell? ⟨sb,6,none⟩=some (.int .i64 en)/\w'.cell? ⟨sb,7,none⟩=some (.pointer (some ⟨tb,0,none⟩))/\w'.cell? ⟨tb,0,none⟩=some (.pointer (some ⟨b6,0,none⟩))) (by kernel_rfl) (by go_split_ands<;>(try dsimp only)<;>go_simp) (fun hHeld=>?_)
       refine tk 0 ?_
       refine tk 1 ?_
       refine tk 2 ?_
       refine tk 3 ?_
       refine tk 4 ?_
       refine tk 5 ?_
       refine tk 6 ?_
       refine tk 7 ?_
       refine wpAnyH_ready (rs:=[8]) (by kernel_rfl) (by simp) ?_
       refine AllReadyH.cons (o:=_) rfl (fun K hK=>?st51) ?mo51
       case st51=>
        go_simp
        ((go_at_call 26;(with_reducible refine(svc_now_c (t:=en) (by go_simp)).mono ?_);rintro e3 w3 ⟨rfl,rfl⟩))
        all_goals(try go_wp2_with fail)
        refine hK.out _ _ (by go_split_ands<;>(try dsimp only)<;>go_simp) (fun hHeld51=>?_)
        clear hK K
        refine wpAnyH_ready (rs:=[9]) (by kernel_rfl) (by simp) ?_
        refine AllReadyH.cons (o:=_) rfl (fun K hK=>?st52) ?mo52
        case st52=>
         go_simp
         ((go_at_call 63;(with_reducible refine(H_hs6.out _ (Vg.gro)).mono ?_);rintro e7 w7 ⟨rfl,⟨hA7,y7⟩,zb7⟩;have ht67:Vg.Touch (fun k=>k=sb\/X k) w6 w7:=(((H_hp6.out.mono fun k _ hk=>.inl hk)).trans (Vg.Touch.of_grows (Vg.gro))).trans (hA7.2.mono fun k _ hk=>.inr hk);have ht7:Vg.Touch Y w w7:=(H_ht2.out.trans (Vg.Touch.of_grows H_hg6.out)).trans (ht67.mono fun k _ hk=>hk.elim (fun e=>e ▸ h8) (fun hh=>H_h7.out k hh));clear c_zb6 f_zb6 p_zb6 c_y6 f_y6 p_y6;obtain⟨c_zb7,f_zb7,p_zb7,l_zb7,H_zb7⟩:=Vg.lay zb7;clear zb7;obtain⟨c_y7,f_y7,p_y7,l_y7,H_y7⟩:=Vg.lay y7;clear y7;have H_hA7:=h_ hA7;have H_ht7:=h_ ht7;have H_ht67:=h_ ht67;clear hA7 ht7 ht67))
         all_goals(try go_wp2_with fail)
         refine hK.out _ _ (by go_split_ands<;>(try dsimp only)<;>go_simp) (fun hHeld52=>?_)
         clear hK K
         refine wpAnyH_done (by kernel_rfl) ?_ _
         go_wp2_with ((go_at_call 26;(with_reducible refine(svc_now_c (t:=en) (by go_simp)).mono ?_);rintro e3 w3 ⟨rfl,rfl⟩))
         (try rw[Exit.noGoto_ret])
         go_returns
         have htF:=H_ht2.out.trans (Vg.Touch.of_grows H_hg6.out)
         have ht67:Vg.Touch (fun k=>k=sb\/X k) w6 w7:=H_ht67.out
         have hlb:∀k,w.heap.size<=k->k<wc.heap.size->¬(k=sb\/X k):=fun k h1 h2 hh=>by
          rcases hh with hh|hh
          ·omega
          ·have:=H_h9.out k (H_h7.out k hh);omega
         refine⟨a,c2,l,V',P',t02,fr',by rw[H_hqe.out];rfl,?_,⟨_,tb,X,en,H_hen.out.symm,H_zb7.out,by rw[H_hqe.out];exact H_hA7.out.1,H_hk3.out,by have:=H_hen.out;omega,H_h6.out,H_h7.out,h8,fun k hk=>Nat.lt_of_lt_of_le (H_h9.out k hk) H_ht7.out.size⟩,H_ht7.out,?_⟩
         ·rw[H_hqe.out,H_hen.out]
          have hq6:=H_hq2.out.grows H_hg6.out
          have q1:=H_hq2.out.lt
          exact hq6.kept fun k hk=>ht67.block k (Nat.lt_of_lt_of_le (q1 k hk).2 H_hg6.out.size) (hlb k (q1 k hk).1 (q1 k hk).2)
         ·have h9:=H_hfin.out
          rw[<-H_hen.out]at h9
          exact h9
        exact AllReadyH.nil
       exact AllReadyH.nil
      exact AllReadyH.nil
     exact AllReadyH.nil
    exact AllReadyH.nil
   refine AllReadyH.cons (o:=_) rfl (fun K hK=>?st53) ?mo53
   case st53=>
    go_simp
    ((go_at_call 26;(with_reducible refine(svc_now_c (t:=tt) (by go_simp)).mono ?_);rintro e3 w3 ⟨rfl,rfl⟩))
    all_goals(try go_wp2_with fail)
    refine hK.out _ _ (by go_split_ands<;>(try dsimp only)<;>go_simp) (fun hHeld53=>?_)
    clear hK K
    refine tk 8 ?_
    refine wpAnyH_ready (rs:=[4]) (by kernel_rfl) (by simp) ?_
    refine AllReadyH.cons (o:=_) rfl (fun K hK=>?st55) ?mo55
    case st55=>
     go_simp
     refine hK.out _ _ (by go_split_ands<;>(try dsimp only)<;>go_simp) (fun hHeld55=>?_)
     clear hK K
     refine wpAnyH_ready (rs:=[9]) (by kernel_rfl) (by simp) ?_
     refine AllReadyH.cons (o:=_) rfl (fun K hK=>?st56) ?mo56
     case st56=>
      go_simp
      ((go_at_call 61;(with_reducible refine(H_hst2.out _).mono ?_);rintro e4 w4 ⟨rfl,x4,n4,rfl⟩))
      all_goals(try go_wp2_with fail)
      refine hK.out _ _ (by go_split_ands<;>(try dsimp only)<;>go_simp) (fun hHeld56=>?_)
      clear hK K
      refine tk 10 ?_
      refine tk 11 ?_
      refine tk 12 ?_
      refine tk 13 ?_
      refine tk 14 ?_
      refine wpAnyH_ready (rs:=[15]) (by kernel_rfl) (by simp) ?_
      refine AllReadyH.cons (o:=_) rfl (fun K hK=>?st62) ?mo62
      case st62=>
       go_simp
       refine hK.out _ _ (by go_split_ands<;>(try dsimp only)<;>go_simp) (fun hHeld62=>?_)
       clear hK K
       refine wpAnyH_done (by kernel_rfl) ?_ _
       go_upto_region 18 with fail
       refine wp_region_held_drew (S:=fun w'=>sb<w'.heap.size/\tb<w'.heap.size/\w'.cell? ⟨sb,6,none⟩=some (.int .i64 en)/\w'.cell? ⟨sb,7,none⟩=some (.pointer (some ⟨tb,0,none⟩))/\w'.cell? ⟨tb,0,none⟩=some (.pointer (some ⟨b6,0,none⟩))) (by kernel_rfl) (by go_split_ands<;>(try dsimp only)<;>go_simp) (fun hHeld=>?_)
       refine tk 0 ?_
       refine tk 1 ?_
       refine tk 2 ?_
       refine tk 3 ?_
       refine tk 4 ?_
       refine tk 5 ?_
       refine tk 6 ?_
       refine tk 7 ?_
       refine wpAnyH_ready (rs:=[8]) (by kernel_rfl) (by simp) ?_
       refine AllReadyH.cons (o:=_) rfl (fun K hK=>?st71) ?mo71
       case st71=>
        go_simp
        ((go_at_call 26;(with_reducible refine(svc_now_c (t:=en) (by go_simp)).mono ?_);rintro e3 w3 ⟨rfl,rfl⟩))
        all_goals(try go_wp2_with fail)
        refine hK.out _ _ (by go_split_ands<;>(try dsimp only)<;>go_simp) (fun hHeld71=>?_)
        clear hK K
        refine wpAnyH_ready (rs:=[9]) (by kernel_rfl) (by simp) ?_
        refine AllReadyH.cons (o:=_) rfl (fun K hK=>?st72) ?mo72
        case st72=>
         go_simp
         ((go_at_call 63;(with_reducible refine(H_hs6.out _ (Vg.gro)).mono ?_);rintro e7 w7 ⟨rfl,⟨hA7,y7⟩,zb7⟩;have ht67:Vg.Touch (fun k=>k=sb\/X k) w6 w7:=(((H_hp6.out.mono fun k _ hk=>.inl hk)).trans (Vg.Touch.of_grows (Vg.gro))).trans (hA7.2.mono fun k _ hk=>.inr hk);have ht7:Vg.Touch Y w w7:=(H_ht2.out.trans (Vg.Touch.of_grows H_hg6.out)).trans (ht67.mono fun k _ hk=>hk.elim (fun e=>e ▸ h8) (fun hh=>H_h7.out k hh));clear c_zb6 f_zb6 p_zb6 c_y6 f_y6 p_y6;obtain⟨c_zb7,f_zb7,p_zb7,l_zb7,H_zb7⟩:=Vg.lay zb7;clear zb7;obtain⟨c_y7,f_y7,p_y7,l_y7,H_y7⟩:=Vg.lay y7;clear y7;have H_hA7:=h_ hA7;have H_ht7:=h_ ht7;have H_ht67:=h_ ht67;clear hA7 ht7 ht67))
         all_goals(try go_wp2_with fail)
         refine hK.out _ _ (by go_split_ands<;>(try dsimp only)<;>go_simp) (fun hHeld72=>?_)
         clear hK K
         refine wpAnyH_done (by kernel_rfl) ?_ _
         go_wp2_with ((go_at_call 26;(with_reducible refine(svc_now_c (t:=en) (by go_simp)).mono ?_);rintro e3 w3 ⟨rfl,rfl⟩))
         (try rw[Exit.noGoto_ret])
         go_returns
         have htF:=H_ht2.out.trans (Vg.Touch.of_grows H_hg6.out)
         have ht67:Vg.Touch (fun k=>k=sb\/X k) w6 w7:=H_ht67.out
         have hlb:∀k,w.heap.size<=k->k<wc.heap.size->¬(k=sb\/X k):=fun k h1 h2 hh=>by
          rcases hh with hh|hh
          ·omega
          ·have:=H_h9.out k (H_h7.out k hh);omega
         refine⟨a,c2,l,V',P',t02,fr',by rw[H_hqe.out];rfl,?_,⟨_,tb,X,en,H_hen.out.symm,H_zb7.out,by rw[H_hqe.out];exact H_hA7.out.1,H_hk3.out,by have:=H_hen.out;omega,H_h6.out,H_h7.out,h8,fun k hk=>Nat.lt_of_lt_of_le (H_h9.out k hk) H_ht7.out.size⟩,H_ht7.out,?_⟩
         ·rw[H_hqe.out,H_hen.out]
          have hq6:=H_hq2.out.grows H_hg6.out
          have q1:=H_hq2.out.lt
          exact hq6.kept fun k hk=>ht67.block k (Nat.lt_of_lt_of_le (q1 k hk).2 H_hg6.out.size) (hlb k (q1 k hk).1 (q1 k hk).2)
         ·have h9:=H_hfin.out
          rw[<-H_hen.out]at h9
          exact h9
        exact AllReadyH.nil
       exact AllReadyH.nil
      exact AllReadyH.nil
     exact AllReadyH.nil
    exact AllReadyH.nil
   exact AllReadyH.nil
  | true=>
   obtain⟨a9,ha9⟩:∃a9,Vg.wkA mn mx t02 nx2=a9:=⟨_,rfl⟩
   have hgt9:en<a9:=by rw[<-ha9];exact hwk2 _ hnx2
   simp only[if_true]at hwk
   rw[ha9]at hwk
   have H_hq2:=h_ hq2;have H_hv2:=h_ hv2;have H_hb2:=h_ hb2;have H_hk2:=h_ hk2;have H_hT2:=h_ hT2;have H_hst2:=h_ hst2;have H_hgo2:=h_ hgo2;have H_hk3:=h_ hk3;have H_hss2:=h_ hss2;have H_hwk:=h_ hwk;have H_ht2:=h_ ht2;have H_hwk2:=h_ hwk2;have H_hfin:=h_ hfin;have H_hnx2:=h_ hnx2;have H_hqe:=h_ hqe;have H_hsm:=h_ hsm;have H_ha9:=h_ ha9;clear hq2 hv2 hb2 hk2 hT2 hst2 hgo2 hk3 hss2 hwk ht2 hwk2 hfin hnx2 hqe hsm ha9
   go_upto_region 17 with((go_at_call 27;(with_reducible refine(H_hwk.out).mono ?_);rintro e6 w6 ⟨rfl,hg6⟩;have zb6:=hg6.blk H_hb2.out;have hv6:=H_hv2.out.grows hg6;have hT6:=H_hT2.out.grows hg6;have H_hg6:=h_ hg6;clear hg6))
   obtain⟨b6,gp6,y6,hset⟩:=hv6.setk
   have l6:=Vg.lt_of zb6
   have hp6:Vg.Touch (fun k=>k=sb) w6 (Vg.put w6 sb (svcC mn mx ⟨⟨cc1,cm1,ca1,cl1⟩,en,ar2,g2,p2⟩ tb)):=Vg.Touch.put (t:=fun k=>k=sb) (Vg.Touch.refl _ w6) rfl _
   have hs6:∀wz,Vg.Grows (Vg.put w6 sb (svcC mn mx ⟨⟨cc1,cm1,ca1,cl1⟩,en,ar2,g2,p2⟩ tb)) wz->Calls Tryz.prog 63 #[.pointer (some ⟨b6,0,none⟩),.int .i64 en] wz fun e w'=>e=.returned (.int .i64 0)/\(TVn wz w' tb X en V' P' fr' (N+q)/\Vg.blk w' tb=some (timsC b6 gp6))/\Vg.blk w' sb=some (svcC mn mx ⟨⟨cc1,cm1,ca1,cl1⟩,en,ar2,g2,p2⟩ tb):=fun wz hg=>by
    refine(hset wz (fun k=>k=sb) en (hp6.trans (Vg.Touch.of_grows hg)) (fun k hk e=>H_h6.out (by subst e;exact hk)) (Vg.Tab.grows (hp6.tabS hT6 (by simpa using Ne.symm hs0)) hg) H_hX0.out hwe hen9).mono ?_
    rintro e w' ⟨rfl,hA,hB⟩
    exact⟨rfl,⟨hA,hB⟩,(hA.2.block sb (Nat.lt_of_lt_of_le (by rw[Vg.put_size];exact l6) hg.size) H_h6.out).trans (hg.blk (Vg.blk_put_same l6))⟩
   simp only[svcC]at hs6 hp6
   obtain⟨c_zb6,f_zb6,p_zb6,l_zb6,H_zb6⟩:=Vg.lay zb6;clear zb6;obtain⟨c_y6,f_y6,p_y6,l_y6,H_y6⟩:=Vg.lay y6;clear y6
   clear hset
   have H_hv6:=h_ hv6;have H_hT6:=h_ hT6;have H_hs6:=h_ hs6;have H_hp6:=h_ hp6;clear hv6 hT6 hs6 hp6
   refine wp_region_held_drew (S:=fun w'=>sb<w'.heap.size) (by kernel_rfl) (by go_split_ands<;>(try dsimp only)<;>go_simp) (fun hHeld=>?_)
   refine tk 0 ?_
   refine tk 1 ?_
   refine tk 2 ?_
   refine tk 3 ?_
   refine tk 5 ?_
   refine tk 6 ?_
   refine wpAnyH_ready (rs:=[4,7]) (by kernel_rfl) (by simp) ?_
   refine AllReadyH.cons (o:=_) rfl (fun K hK=>?st79) ?mo79
   case st79=>
    go_simp
    refine hK.out _ _ (by go_split_ands<;>(try dsimp only)<;>go_simp) (fun hHeld79=>?_)
    clear hK K
    refine wpAnyH_ready (rs:=[7]) (by kernel_rfl) (by simp) ?_
    refine AllReadyH.cons (o:=_) rfl (fun K hK=>?st80) ?mo80
    case st80=>
     go_simp
     ((go_at_call 26;(with_reducible refine(svc_now_c (t:=tt) (by go_simp)).mono ?_);rintro e3 w3 ⟨rfl,rfl⟩))
     all_goals(try go_wp2_with fail)
     refine hK.out _ _ (by go_split_ands<;>(try dsimp only)<;>go_simp) (fun hHeld80=>?_)
     clear hK K
     refine tk 8 ?_
     refine wpAnyH_ready (rs:=[9]) (by kernel_rfl) (by simp) ?_
     refine AllReadyH.cons (o:=_) rfl (fun K hK=>?st82) ?mo82
     case st82=>
      go_simp
      ((go_at_call 61;(with_reducible refine(H_hst2.out _).mono ?_);rintro e4 w4 ⟨rfl,x4,n4,rfl⟩))
      all_goals(try go_wp2_with fail)
      refine hK.out _ _ (by go_split_ands<;>(try dsimp only)<;>go_simp) (fun hHeld82=>?_)
      clear hK K
      refine tk 10 ?_
      refine tk 11 ?_
      refine tk 12 ?_
      refine tk 13 ?_
      refine tk 14 ?_
      refine wpAnyH_ready (rs:=[15]) (by kernel_rfl) (by simp) ?_
      refine AllReadyH.cons (o:=_) rfl (fun K hK=>?st88) ?mo88
      case st88=>
       go_simp
       refine hK.out _ _ (by go_split_ands<;>(try dsimp only)<;>go_simp) (fun hHeld88=>?_)
       clear hK K
       refine wpAnyH_done (by kernel_rfl) ?_ _
       go_upto_region 18 with fail
       refine wp_region_held_drew (S:=fun w'=>sb<w'.heap.size/\tb<w'.heap.size/\w'.cell? ⟨sb,6,none⟩=some (.int .i64 en)/\w'.cell? ⟨sb,7,none⟩=some (.pointer (some ⟨tb,0,none⟩))/\w'.cell? ⟨tb,0,none⟩=some (.pointer (some ⟨b6,0,none⟩))) (by kernel_rfl) (by go_split_ands<;>(try dsimp only)<;>go_simp) (fun hHeld=>?_)
       refine tk 0 ?_
       refine tk 1 ?_
       refine tk 2 ?_
       refine tk 3 ?_
       refine tk 4 ?_
       refine tk 5 ?_
       refine tk 6 ?_
       refine tk 7 ?_
       refine wpAnyH_ready (rs:=[8]) (by kernel_rfl) (by simp) ?_
       refine AllReadyH.cons (o:=_) rfl (fun K hK=>?st97) ?mo97
       case st97=>
        go_simp
        ((go_at_call 26;(with_reducible refine(svc_now_c (t:=en) (by go_simp)).mono ?_);rintro e3 w3 ⟨rfl,rfl⟩))
        all_goals(try go_wp2_with fail)
        refine hK.out _ _ (by go_split_ands<;>(try dsimp only)<;>go_simp) (fun hHeld97=>?_)
        clear hK K
        refine wpAnyH_ready (rs:=[9]) (by kernel_rfl) (by simp) ?_
        refine AllReadyH.cons (o:=_) rfl (fun K hK=>?st98) ?mo98
        case st98=>
         go_simp
         ((go_at_call 63;(with_reducible refine(H_hs6.out _ (Vg.gro)).mono ?_);rintro e7 w7 ⟨rfl,⟨hA7,y7⟩,zb7⟩;have ht67:Vg.Touch (fun k=>k=sb\/X k) w6 w7:=(((H_hp6.out.mono fun k _ hk=>.inl hk)).trans (Vg.Touch.of_grows (Vg.gro))).trans (hA7.2.mono fun k _ hk=>.inr hk);have ht7:Vg.Touch Y w w7:=(H_ht2.out.trans (Vg.Touch.of_grows H_hg6.out)).trans (ht67.mono fun k _ hk=>hk.elim (fun e=>e ▸ h8) (fun hh=>H_h7.out k hh));clear c_zb6 f_zb6 p_zb6 c_y6 f_y6 p_y6;obtain⟨c_zb7,f_zb7,p_zb7,l_zb7,H_zb7⟩:=Vg.lay zb7;clear zb7;obtain⟨c_y7,f_y7,p_y7,l_y7,H_y7⟩:=Vg.lay y7;clear y7;have H_hA7:=h_ hA7;have H_ht7:=h_ ht7;have H_ht67:=h_ ht67;clear hA7 ht7 ht67))
         all_goals(try go_wp2_with fail)
         refine hK.out _ _ (by go_split_ands<;>(try dsimp only)<;>go_simp) (fun hHeld98=>?_)
         clear hK K
         refine wpAnyH_done (by kernel_rfl) ?_ _
         go_wp2_with ((go_at_call 26;(with_reducible refine(svc_now_c (t:=en) (by go_simp)).mono ?_);rintro e3 w3 ⟨rfl,rfl⟩))
         (try rw[Exit.noGoto_ret])
         go_returns
         have htF:=H_ht2.out.trans (Vg.Touch.of_grows H_hg6.out)
         have ht67:Vg.Touch (fun k=>k=sb\/X k) w6 w7:=H_ht67.out
         have hlb:∀k,w.heap.size<=k->k<wc.heap.size->¬(k=sb\/X k):=fun k h1 h2 hh=>by
          rcases hh with hh|hh
          ·omega
          ·have:=H_h9.out k (H_h7.out k hh);omega
         refine⟨a,c2,l,V',P',t02,fr',by rw[H_hqe.out];rfl,?_,⟨_,tb,X,en,H_hen.out.symm,H_zb7.out,by rw[H_hqe.out];exact H_hA7.out.1,H_hk3.out,by have:=H_hen.out;omega,H_h6.out,H_h7.out,h8,fun k hk=>Nat.lt_of_lt_of_le (H_h9.out k hk) H_ht7.out.size⟩,H_ht7.out,?_⟩
         ·rw[H_hqe.out,H_hen.out]
          have hq6:=H_hq2.out.grows H_hg6.out
          have q1:=H_hq2.out.lt
          exact hq6.kept fun k hk=>ht67.block k (Nat.lt_of_lt_of_le (q1 k hk).2 H_hg6.out.size) (hlb k (q1 k hk).1 (q1 k hk).2)
         ·have h9:=H_hfin.out
          rw[<-H_hen.out]at h9
          exact h9
        exact AllReadyH.nil
       exact AllReadyH.nil
      exact AllReadyH.nil
     exact AllReadyH.nil
    exact AllReadyH.nil
   refine AllReadyH.cons (o:=_) rfl (fun K hK=>?st99) ?mo99
   case st99=>
    go_simp
    ((go_at_call 26;(with_reducible refine(svc_now_c (t:=tt) (by go_simp)).mono ?_);rintro e3 w3 ⟨rfl,rfl⟩))
    all_goals(try go_wp2_with fail)
    refine hK.out _ _ (by go_split_ands<;>(try dsimp only)<;>go_simp) (fun hHeld99=>?_)
    clear hK K
    refine tk 8 ?_
    refine wpAnyH_ready (rs:=[4]) (by kernel_rfl) (by simp) ?_
    refine AllReadyH.cons (o:=_) rfl (fun K hK=>?st101) ?mo101
    case st101=>
     go_simp
     refine hK.out _ _ (by go_split_ands<;>(try dsimp only)<;>go_simp) (fun hHeld101=>?_)
     clear hK K
     refine wpAnyH_ready (rs:=[9]) (by kernel_rfl) (by simp) ?_
     refine AllReadyH.cons (o:=_) rfl (fun K hK=>?st102) ?mo102
     case st102=>
      go_simp
      ((go_at_call 61;(with_reducible refine(H_hst2.out _).mono ?_);rintro e4 w4 ⟨rfl,x4,n4,rfl⟩))
      all_goals(try go_wp2_with fail)
      refine hK.out _ _ (by go_split_ands<;>(try dsimp only)<;>go_simp) (fun hHeld102=>?_)
      clear hK K
      refine tk 10 ?_
      refine tk 11 ?_
      refine tk 12 ?_
      refine tk 13 ?_
      refine tk 14 ?_
      refine wpAnyH_ready (rs:=[15]) (by kernel_rfl) (by simp) ?_
      refine AllReadyH.cons (o:=_) rfl (fun K hK=>?st108) ?mo108
      case st108=>
       go_simp
       refine hK.out _ _ (by go_split_ands<;>(try dsimp only)<;>go_simp) (fun hHeld108=>?_)
       clear hK K
       refine wpAnyH_done (by kernel_rfl) ?_ _
       go_upto_region 18 with fail
       refine wp_region_held_drew (S:=fun w'=>sb<w'.heap.size/\tb<w'.heap.size/\w'.cell? ⟨sb,6,none⟩=some (.int .i64 en)/\w'.cell? ⟨sb,7,none⟩=some (.pointer (some ⟨tb,0,none⟩))/\w'.cell? ⟨tb,0,none⟩=some (.pointer (some ⟨b6,0,none⟩))) (by kernel_rfl) (by go_split_ands<;>(try dsimp only)<;>go_simp) (fun hHeld=>?_)
       refine tk 0 ?_
       refine tk 1 ?_
       refine tk 2 ?_
       refine tk 3 ?_
       refine tk 4 ?_
       refine tk 5 ?_
       refine tk 6 ?_
       refine tk 7 ?_
       refine wpAnyH_ready (rs:=[8]) (by kernel_rfl) (by simp) ?_
       refine AllReadyH.cons (o:=_) rfl (fun K hK=>?st117) ?mo117
       case st117=>
        go_simp
        ((go_at_call 26;(with_reducible refine(svc_now_c (t:=en) (by go_simp)).mono ?_);rintro e3 w3 ⟨rfl,rfl⟩))
        all_goals(try go_wp2_with fail)
        refine hK.out _ _ (by go_split_ands<;>(try dsimp only)<;>go_simp) (fun hHeld117=>?_)
        clear hK K
        refine wpAnyH_ready (rs:=[9]) (by kernel_rfl) (by simp) ?_
        refine AllReadyH.cons (o:=_) rfl (fun K hK=>?st118) ?mo118
        case st118=>
         go_simp
         ((go_at_call 63;(with_reducible refine(H_hs6.out _ (Vg.gro)).mono ?_);rintro e7 w7 ⟨rfl,⟨hA7,y7⟩,zb7⟩;have ht67:Vg.Touch (fun k=>k=sb\/X k) w6 w7:=(((H_hp6.out.mono fun k _ hk=>.inl hk)).trans (Vg.Touch.of_grows (Vg.gro))).trans (hA7.2.mono fun k _ hk=>.inr hk);have ht7:Vg.Touch Y w w7:=(H_ht2.out.trans (Vg.Touch.of_grows H_hg6.out)).trans (ht67.mono fun k _ hk=>hk.elim (fun e=>e ▸ h8) (fun hh=>H_h7.out k hh));clear c_zb6 f_zb6 p_zb6 c_y6 f_y6 p_y6;obtain⟨c_zb7,f_zb7,p_zb7,l_zb7,H_zb7⟩:=Vg.lay zb7;clear zb7;obtain⟨c_y7,f_y7,p_y7,l_y7,H_y7⟩:=Vg.lay y7;clear y7;have H_hA7:=h_ hA7;have H_ht7:=h_ ht7;have H_ht67:=h_ ht67;clear hA7 ht7 ht67))
         all_goals(try go_wp2_with fail)
         refine hK.out _ _ (by go_split_ands<;>(try dsimp only)<;>go_simp) (fun hHeld118=>?_)
         clear hK K
         refine wpAnyH_done (by kernel_rfl) ?_ _
         go_wp2_with ((go_at_call 26;(with_reducible refine(svc_now_c (t:=en) (by go_simp)).mono ?_);rintro e3 w3 ⟨rfl,rfl⟩))
         (try rw[Exit.noGoto_ret])
         go_returns
         have htF:=H_ht2.out.trans (Vg.Touch.of_grows H_hg6.out)
         have ht67:Vg.Touch (fun k=>k=sb\/X k) w6 w7:=H_ht67.out
         have hlb:∀k,w.heap.size<=k->k<wc.heap.size->¬(k=sb\/X k):=fun k h1 h2 hh=>by
          rcases hh with hh|hh
          ·omega
          ·have:=H_h9.out k (H_h7.out k hh);omega
         refine⟨a,c2,l,V',P',t02,fr',by rw[H_hqe.out];rfl,?_,⟨_,tb,X,en,H_hen.out.symm,H_zb7.out,by rw[H_hqe.out];exact H_hA7.out.1,H_hk3.out,by have:=H_hen.out;omega,H_h6.out,H_h7.out,h8,fun k hk=>Nat.lt_of_lt_of_le (H_h9.out k hk) H_ht7.out.size⟩,H_ht7.out,?_⟩
         ·rw[H_hqe.out,H_hen.out]
          have hq6:=H_hq2.out.grows H_hg6.out
          have q1:=H_hq2.out.lt
          exact hq6.kept fun k hk=>ht67.block k (Nat.lt_of_lt_of_le (q1 k hk).2 H_hg6.out.size) (hlb k (q1 k hk).1 (q1 k hk).2)
         ·have h9:=H_hfin.out
          rw[<-H_hen.out]at h9
          exact h9
        exact AllReadyH.nil
       exact AllReadyH.nil
      exact AllReadyH.nil
     exact AllReadyH.nil
    exact AllReadyH.nil
   exact AllReadyH.nil
end
end Go.Proofs.YtlkdkgefjipjmaaGreatDoor
