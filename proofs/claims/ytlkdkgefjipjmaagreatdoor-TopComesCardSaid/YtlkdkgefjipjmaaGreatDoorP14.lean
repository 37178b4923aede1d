/- SvcA (put together). -/
import Derived.Test.YtlkdkgefjipjmaaGreatDoorP13
import Derived.Test.YtlkdkgefjipjmaaGreatDoorQ0
set_option linter.all false
set_option maxHeartbeats 40000000
set_option maxRecDepth 100000
namespace Go.Proofs.YtlkdkgefjipjmaaGreatDoor
open Go.ChangeShapes Go.WideShapes Go.ChangeAt Go.RowKit
def SX(w:World)(sb:Nat)(Y:Nat->Prop)(mn mx t t0:Int)(V P:Int->Option Int)(fr N:Nat):Prop:=
 ∃s tb X wn,s.t=t/\Vg.blk w sb=some (svcC mn mx s tb)/\TV w tb X wn V P fr N/\Vg.Sok mn mx s V t0/\wn<=t/\¬X sb/\(∀k,X k->Y k)/\Y sb/\(∀k,Y k->k<w.heap.size)
section
variable {w w0 w':World}{sb tb fr N:Nat}{s:Vg.Sv}{mn mx t t0 wn nx:Int}{X Y:Nat->Prop}{V P V' P':Int->Option Int}
theorem TV.rngV(h:TV w tb X wn V P fr N):(0<=wn/\wn<=4503599627370496)/\∀z t,V z=some t->0<=t/\t<=4503599627370496:=by
 obtain⟨b,gp,Xw,y1,y2,y3,y4,y5,y6⟩:=h.open
 exact y2.rng
theorem SX.touch{u:Nat->Prop}(h:SX w sb Y mn mx t t0 V P fr N)(ht:Vg.Touch u w w')(hv:∀k,Y k->¬u k):SX w' sb Y mn mx t t0 V P fr N:=by
 obtain⟨s,tb,X,wn,h1,h2,h3,h4,h5,h6,h7,h8,h9⟩:=h
 exact⟨s,tb,X,wn,h1,(ht.block sb (Vg.lt_of h2) (hv sb h8)).trans h2,h3.touch ht (fun k hk=>hv k (h7 k hk)),h4,h5,h6,h7,h8,fun k hk=>Nat.lt_of_lt_of_le (h9 k hk) ht.size⟩
theorem SX.grows(h:SX w sb Y mn mx t t0 V P fr N)(hg:Vg.Grows w w'):SX w' sb Y mn mx t t0 V P fr N:=h.touch (u:=fun _=>False) (Vg.Touch.of_grows hg) fun _ _ hh=>hh.elim
theorem SX.rng(h:SX w sb Y mn mx t t0 V P fr N):(0<=t0/\t0<=t/\t<=4503599627370496)/\∀z t,V z=some t->0<=t/\t<=4503599627370496:=by
 obtain⟨s,tb,X,wn,rfl,h2,h3,h4,h5,h6,h7,h8,h9⟩:=h
 exact⟨h4.b.tr,h3.rngV.2⟩
theorem SX.own(h:SX w sb Y mn mx t t0 V P fr N):Y sb/\∀k,Y k->k<w.heap.size:=by
 obtain⟨s,tb,X,wn,rfl,h2,h3,h4,h5,h6,h7,h8,h9⟩:=h
 exact⟨h8,h9⟩
theorem SX.le(h:SX w sb Y mn mx t t0 V P fr N)(hn:Vg.NxV V nx true):t<=Vg.wkA mn mx t0 nx:=by
 obtain⟨s,tb,X,wn,rfl,h2,h3,h4,h5,h6,h7,h8,h9⟩:=h
 rcases hn with⟨h,_⟩|⟨_,⟨z,hz⟩,hl⟩
 ·cases h
 cases har:s.ar with
 | false=>rw[h4.no har z]at hz;cases hz
 | true=>
  obtain⟨⟨z2,hz2⟩,hl2⟩:=h4.yes har
  have:s.goal=nx:=Int.le_antisymm (hl2 z nx hz) (hl z2 _ hz2)
  subst this
  rcases(h4.a har).2 with⟨a1,a2,a3⟩|⟨a1,a2,a3,a4,a5⟩
  ·rw[Vg.wkA_past a2];omega
  ·omega
theorem sx_now(h:SX w sb Y mn mx t t0 V P fr N):Calls Tryz.prog 26 #[.pointer (some ⟨sb,0,none⟩)] w fun e w'=>e=.returned (.int .i64 t)/\w=w':=by
 obtain⟨s,tb,X,wn,rfl,h2,h3,h4,h5,h6,h7,h8,h9⟩:=h
 exact svc_now h2
theorem Sok_wk{is:Bool}(h4:Vg.Sok mn mx s V t0)(hn:Vg.NxV V nx is):Vg.wakeV s=(if is=true then Vg.wkA mn mx t0 nx else 0,is):=by
 rw[h4.wake]
 rcases hn with⟨rfl,rfl,hn⟩|⟨rfl,⟨z,hz⟩,hl⟩
 ·cases har:s.ar with
  | false=>rfl
  | true=>obtain⟨⟨z,hz⟩,_⟩:=h4.yes har;rw[hn z]at hz;cases hz
 ·cases har:s.ar with
  | false=>rw[h4.no har z]at hz;cases hz
  | true=>
   obtain⟨⟨z2,hz2⟩,hl2⟩:=h4.yes har
   have:s.goal=nx:=Int.le_antisymm (hl2 z nx hz) (hl z2 _ hz2)
   rw[this];rfl
theorem sx_wake{is:Bool}{a:Int}(h:SX w sb Y mn mx t t0 V P fr N)(hn:Vg.NxV V nx is)(ha:(if is=true then Vg.wkA mn mx t0 nx else 0)=a):
  Calls Tryz.prog 27 #[.pointer (some ⟨sb,0,none⟩)] w fun e w'=>e=.returned (.tuple #[.int .i64 a,.bool is])/\Vg.Grows w w':=by
 obtain⟨s,tb,X,wn,rfl,h2,h3,h4,h5,h6,h7,h8,h9⟩:=h
 subst ha
 exact svc_wake h2 ⟨by have:=h4.b.tr;omega,h4.b.tr.2.2⟩ (Sok_wk h4 hn)
def RingP(w w':World)(sb tb:Nat)(X:Nat->Prop)(mn mx nx:Int)(V P:Int->Option Int)(fr N:Nat)(e:Ending):Prop:=
 ∃(a:Option Addr)(c:Nat)(l:List (Int×Int))(V' P':Int->Option Int)(fr':Nat)(s':Vg.Sv),e=.returned (.slice a l.length c)/\Vg.Que w' w.heap.size 105 3 (.slice a l.length c) l.length (Vg.fcells nx l) /\
   Vg.Fires nx (V,P) l (V',P')/\l.length<=1024/\(l.length<1024->∀z t,V' z=some t->nx<t)/\fr<=fr'/\TV w' tb X nx V' P' fr' (N+l.length)/\Vg.blk w' sb=some (svcC mn mx s' tb)/\Vg.Sok mn mx s' V' nx/\s'.t=nx/\Vg.Touch (fun k=>k=sb\/X k) w w'
theorem svc_ring(h:Vg.blk w sb=some (svcC mn mx s tb))(hv:TV w tb X wn V P fr N)(hT:Vg.Tab w)(h0:¬X 0)(hb0:sb≠0)(hB:Vg.SvB mn mx s t0)(hX:¬X sb)(hwn:wn<=s.t)(hN:N<=2305843009213693952)(hst:s.t=nx):
  Calls Tryz.prog 62 #[.pointer (some ⟨sb,0,none⟩)] w fun e w'=>RingP w w' sb tb X mn mx nx V P fr N e:=by
 have hB0:Vg.SvB mn mx (Vg.ackS s) nx:=by rw[<-hst];exact⟨hB.tm,hB.cnt,hB.cmp,by have:=hB.tr;show 0<=s.t/\s.t<=s.t/\s.t<=4503599627370496;omega⟩
 have htr:=hB.tr
 have hlX:∀k,X k->k<w.heap.size:=by
  obtain⟨b,gp,Xw,y1,y2,y3,y4,y5,y6⟩:=hv.open
  exact y5
 obtain⟨⟨c,n,ha,la⟩,t,ar,goal,past⟩:=s
 simp only at hwn htr hst
 subst hst
 have hak:=hw_ack c n ha la
 have hrk:∀wz,TV wz tb X wn V P fr N->Vg.Tab wz->Calls Tryz.prog 111 #[.pointer (some ⟨tb,0,none⟩),.int .i64 t] wz fun e w'=>RunP wz w' tb X t V P fr N e:=fun wz h9 hT9=>tv_run t h9 hT9 h0 hwn htr.2.2 hN
 obtain⟨c_h,f_h,p_h,l_h,H_h⟩:=Vg.lay h;clear h
 have H_hv:=h_ hv;have H_hT:=h_ hT;have H_hB:=h_ hB;have H_hX:=h_ hX;have H_hak:=h_ hak;have H_hrk:=h_ hrk;have H_hB0:=h_ hB0;have H_h0:=h_ h0;clear hv hT hB hX hak hrk hB0 h0
 go_enter Tryz.func62,Tryz.ntmps62
 go_upto_region 2 with((go_at_call 110;(with_reducible refine(H_hak.out _).mono ?_);rintro e w1 ⟨rfl,x1,n1,rfl⟩))
 obtain⟨u1,hu1⟩:∃u1,Vg.plus (Vg.put w sb (svcC mn mx (Vg.ackS ⟨⟨c,n,ha,la⟩,t,ar,goal,past⟩) tb)) x1 n1=u1:=⟨_,rfl⟩
 have hu1':=hu1
 simp only[svcC,Vg.ackS]at hu1'
 have su1:SW w u1 sb (svcC mn mx (Vg.ackS ⟨⟨c,n,ha,la⟩,t,ar,goal,past⟩) tb):=by rw[<-hu1];exact SW.grows (SW.mk0 l_h) ((Vg.Grows.refl _).plus x1 n1)
 have zu:=su1.1
 simp only[svcC,Vg.ackS]at zu
 rw[hu1']
 clear hu1 hu1' c_h f_h p_h l_h
 have hvu:TV u1 tb X wn V P fr N:=H_hv.out.touch su1.2 (fun k hk e=>H_hX.out (by subst e;exact hk))
 have hTu:=su1.2.tabS H_hT.out (by simpa using Ne.symm hb0)
 have hsu:=su1.2.size
 obtain⟨c_zu,f_zu,p_zu,l_zu,H_zu⟩:=Vg.lay zu;clear zu
 have H_su1:=h_ su1;have H_hvu:=h_ hvu;have H_hTu:=h_ hTu;clear su1 hvu hTu
 refine wp_region_held_drew (S:=fun w'=>sb<w'.heap.size/\w'.cell? ⟨sb,6,none⟩=some (.int .i64 t)/\w'.cell? ⟨sb,7,none⟩=some (.pointer (some ⟨tb,0,none⟩))) (by kernel_rfl) (by go_split_ands<;>(try dsimp only)<;>go_simp) (fun hHeld=>?_)
 refine tk 0 ?_
 refine tk 1 ?_
 refine tk 2 ?_
 refine tk 3 ?_
 refine tk 4 ?_
 refine wpAnyH_ready (rs:=[5]) (by kernel_rfl) (by simp) ?_
 refine AllReadyH.cons (o:=_) rfl (fun K hK=>?st6) ?mo6
 case st6=>
  go_simp
  ((go_at_call 26;(with_reducible refine(svc_now_c (t:=t) (by go_simp)).mono ?_);rintro e2 w2 ⟨rfl,rfl⟩))
  all_goals(try go_wp2_with fail)
  refine hK.out _ _ (by go_split_ands<;>(try dsimp only)<;>go_simp) (fun hHeld6=>?_)
  clear hK K
  refine wpAnyH_ready (rs:=[6]) (by kernel_rfl) (by simp) ?_
  refine AllReadyH.cons (o:=_) rfl (fun K hK=>?st7) ?mo7
  case st7=>
   go_simp
   ((go_at_call 111;(with_reducible refine(H_hrk.out _ (H_hvu.out.grows (Vg.gro)) (H_hTu.out.grows (Vg.gro))).mono ?_);rintro e3 w3 ⟨a3,c3,l3,V3,P3,fr3,rfl,hq3,hF3,hl3,hd3,hfr3,hA3⟩;have zb3:=(hA3.2.block sb (by simp;omega) H_hX.out).trans (((Vg.Grows.refl u1).drew).blk H_zu.out);clear c_zu f_zu p_zu;obtain⟨c_zb3,f_zb3,p_zb3,l_zb3,H_zb3⟩:=Vg.lay zb3;clear zb3;have H_hq3:=h_ hq3;have H_hF3:=h_ hF3;have H_hd3:=h_ hd3;have H_hA3:=h_ hA3;clear hq3 hF3 hd3 hA3))
   all_goals(try go_wp2_with fail)
   refine hK.out _ _ (by go_split_ands<;>(try dsimp only)<;>go_simp) (fun hHeld7=>?_)
   clear hK K
   refine tk 7 ?_
   refine tk 8 ?_
   refine tk 9 ?_
   refine tk 10 ?_
   refine tk 11 ?_
   refine wpAnyH_done (by kernel_rfl) ?_ _
   have hT3:=H_hA3.out.2.tabS (H_hTu.out.grows (Vg.gro)) H_h0.out
   have hv3:TV w3 tb X t V3 P3 fr3 (N+l3.length):=H_hA3.out.1
   have hrk4:=svc_rest (s:=Vg.ackS ⟨⟨c,n,ha,la⟩,t,ar,goal,past⟩) H_zb3.out
   have ht3:=H_hA3.out.2.size
   simp only[World.size_drew]at ht3
   obtain⟨q3,hq3e⟩:∃q3,l3.length=q3:=⟨_,rfl⟩
   rw[hq3e]at hl3 hv3 ⊢
   clear c_zb3 f_zb3 p_zb3
   have H_hv3:=h_ hv3;have H_hrk4:=h_ hrk4;have H_hT3:=h_ hT3;have H_hq3e:=h_ hq3e;clear hv3 hrk4 hT3 hq3e
   go_wp2_with (first|(go_at_call 112;(with_reducible refine(H_hrk4.out).mono ?_);rintro e4 w4 ⟨rfl,hw4⟩;have hv4:=H_hv3.out.touch hw4.2 (fun k hk e=>H_hX.out (by subst e;exact hk));have hT4:=hw4.2.tabS H_hT3.out (by simpa using Ne.symm hb0);have hlk:=svc_look hw4.1 hv4 hT4 H_hB0.out.tm H_hB0.out.rest.cnt ⟨H_hB0.out.tr.1,H_hB0.out.tr.2.2⟩ H_hX.out;have H_hw4:=h_ hw4;have H_hv4:=h_ hv4;have H_hT4:=h_ hT4;have H_hlk:=h_ hlk;clear hw4 hv4 hT4 hlk)|(go_at_call 88;(with_reducible refine(H_hlk.out).mono ?_);rintro e5 w5 ⟨rfl,nx5,is5,hN5,hw5⟩;have H_hN5:=h_ hN5;have H_hw5:=h_ hw5;clear hN5 hw5))
   go_ret
   obtain⟨k1,k2⟩:=H_hB0.out.rest.look rfl (fun e=>by simp[Vg.restS]at e) H_hN5.out H_hv4.out.rngV.2
   have hne:∀k,u1.heap.size<=k->¬k=sb:=fun k hk e=>by omega
   refine⟨a3,c3,l3,V3,P3,fr3,_,by rw[H_hq3e.out];rfl,?_,H_hF3.out,by rw[H_hq3e.out];exact hl3,H_hd3.out,hfr3,by rw[H_hq3e.out];exact H_hv4.out.touch H_hw5.out.2 (fun k hk e=>H_hX.out (by subst e;exact hk)),H_hw5.out.1,k1,k2,?_⟩
   ·have q1:=H_hq3.out.weaken (B':=w.heap.size) (by simp;omega)
    have q2:=H_hq3.out.lt
    simp only[World.size_drew]at q2
    exact(q1.kept fun k hk=>H_hw4.out.2.block k (q2 k hk).2 (hne k (q2 k hk).1)).kept fun k hk=>H_hw5.out.2.block k (Nat.lt_of_lt_of_le (q2 k hk).2 H_hw4.out.2.size) (hne k (q2 k hk).1)
   ·exact((((H_su1.out.2.mono fun k _ hk=>.inl hk).trans (Vg.Touch.of_grows ((Vg.Grows.refl u1).drew))).trans (H_hA3.out.2.mono fun k _ hk=>.inr hk)).trans (H_hw4.out.2.mono fun k _ hk=>.inl hk)).trans (H_hw5.out.2.mono fun k _ hk=>.inl hk)
  exact AllReadyH.nil
 exact AllReadyH.nil
theorem svc_looked(h:Vg.blk w sb=some (svcC mn mx s tb))(hv:TV w tb X wn V P fr N)(hT:Vg.Tab w)(hm:1<=mn/\mx<2147483648/\2*mn<=mx)(hc:s.h.count=Vg.low s.t)(ht:0<=s.t/\s.t<=4503599627370496)(hX:¬X sb):
  Calls Tryz.prog 51 #[.pointer (some ⟨sb,0,none⟩),.int .i64 0] w fun e w'=>e=.returned (.int .i64 0)/\∃t is,Vg.NxV V t is/\SW w w' sb (svcC mn mx (Vg.lookS mn mx s t is) tb):=by
 have hlk:=svc_look h hv hT hm hc ht hX
 clear h hv
 have H_hlk:=h_ hlk;have H_hT:=h_ hT;have H_hc:=h_ hc;clear hlk hT hc
 go_enter Tryz.func51,Tryz.ntmps51
 go_wp2_with ((go_at_call 88;(with_reducible refine(H_hlk.out).mono ?_);rintro e5 w5 ⟨rfl,hw5⟩;have H_hw5:=h_ hw5;clear hw5))
 go_ret
 exact⟨rfl,H_hw5.out⟩
theorem sx_every(id first per:Int)(h:SX w sb Y mn mx t0 t0 V P (fr+1) N)(hT:Vg.Tab w)(h0:¬Y 0)(hp:1<=per/\per<=4503599627370496)(hf:0<=first/\first<=4503599627370496)(hid:(Lit.int .i64 id).wf=true)(hj:V id=none)(hN:N<=4611686018427387904):
  Calls Tryz.prog 25 #[.pointer (some ⟨sb,0,none⟩),.int .i64 id,.int .i64 first,.int .i64 per] w fun e w'=>e=.returned (.int .i64 0)/\SX w' sb Y mn mx t0 t0 (fun y=>if y=id then some first else V y) (fun y=>if y=id then some per else P y) fr (N+1)/\Vg.Touch Y w w':=by
 obtain⟨s,tb,X,wn,hst,h2,h3,h4,h5,h6,h7,h8,h9⟩:=h
 have hek:=tv_every id first per h3 hp hf hid hj hN
 have c7:=Vg.cells_of h2 7
 simp at c7
 have hlb:=Vg.lt_of h2
 have H_h2:=h_ h2;have H_h3:=h_ h3;have H_h4:=h_ h4;have H_h6:=h_ h6;have H_h7:=h_ h7;have H_h9:=h_ h9;have H_hek:=h_ hek;have H_hT:=h_ hT;have H_h0:=h_ h0;have H_hj:=h_ hj;have H_hid:=h_ hid;clear h2 h3 h4 h6 h7 h9 hek hT h0 hj hid
 go_enter Tryz.func25,Tryz.ntmps25
 go_wp2_with (first|(go_at_call 52;(with_reducible refine(H_hek.out).mono ?_);rintro e1 w1 ⟨rfl,hA1⟩;have hb1:=(hA1.2.block sb hlb H_h6.out).trans H_h2.out;have hT1:=hA1.2.tabS H_hT.out (fun hh=>H_h0.out (H_h7.out 0 hh));have hlk:=svc_looked hb1 hA1.1 hT1 H_h4.out.b.tm H_h4.out.b.cnt (by have:=H_h4.out.b.tr;omega) H_h6.out;have H_hA1:=h_ hA1;have H_hlk:=h_ hlk;have H_hb1:=h_ hb1;have H_hT1:=h_ hT1;clear hA1 hlk hb1 hT1)|(go_at_call 51;(with_reducible refine(H_hlk.out).mono ?_);rintro e2 w2 ⟨rfl,nx,is,hN2,hw2⟩;have H_hN2:=h_ hN2;have H_hw2:=h_ hw2;clear hN2 hw2))
 go_ret
 have hv2:=H_hA1.out.1.touch H_hw2.out.2 (fun k hk e=>H_h6.out (by subst e;exact hk))
 obtain⟨k1,k2⟩:=H_h4.out.b.look hst H_h4.out.a H_hN2.out H_hA1.out.1.rngV.2
 refine⟨rfl,⟨_,tb,X,wn,k2.trans hst,H_hw2.out.1,hv2,k1,h5,H_h6.out,H_h7.out,h8,fun k hk=>Nat.lt_of_lt_of_le (H_h9.out k hk) (Nat.le_trans H_hA1.out.2.size H_hw2.out.2.size)⟩,?_⟩
 exact(H_hA1.out.2.mono fun k _ hk=>H_h7.out k hk).trans (H_hw2.out.2.mono fun k _ hk=>by rw[hk];exact h8)
theorem svc_new(start:Int)(n:Nat)(w:World)(hm:1<=mn/\mx<2147483648/\2*mn<=mx)(h1:0<=start)(h2:start<=4503599627370496)(hn1:1<=n)(hn:n<=4096)(hmx : -9223372036854775808<=mx):
  Calls Tryz.prog 20 #[.int .i64 start,tmV mn mx,.int .i64 n] w fun e w'=>∃sb Y,e=.returned (.tuple #[.pointer (some ⟨sb,0,none⟩),.int .i64 0])/\SX w' sb Y mn mx start start (fun _=>none) (fun _=>none) n 0/\(∀k,Y k->w.heap.size<=k)/\Vg.Grows w w':=by
 have hck:=fun wz=>shot_check mn mx wz hmx
 have hc0:Vg.tmC mn mx=0:=by unfold Vg.tmC;rw[if_pos (Vg.tmB_true.2 hm)]
 rw[hc0]at hck
 have hmk:=fun wz=>clock_make start wz
 rw[if_pos (Vg.timeB_true.2 ⟨h1,h2⟩)]at hmk
 have htk:=fun wz=>tv_new start n wz h1 h2 hn1 hn
 have H_hck:=h_ hck;have H_hmk:=h_ hmk;have H_htk:=h_ htk;clear hck hmk htk
 go_enter Tryz.func20,Tryz.ntmps20
 go_wp2_with (first|(go_at_call 41;(with_reducible refine(H_hck.out _).mono ?_);rintro e1 w1 ⟨rfl,x1,n1,rfl⟩)|(go_at_call 42;(with_reducible refine(H_htk.out _).mono ?_);rintro e2 w2 ⟨tb,X,rfl,hv2,hX2,hg2⟩;have yb:Vg.blk w2 w.heap.size=some (.cells #[.int .i64 mn,.int .i64 mx] 25):=hg2.blk (((Vg.Grows.refl _).plus x1 n1).blk (Vg.alloc_heap_at rfl));obtain⟨c_yb,f_yb,p_yb,l_yb,H_yb⟩:=Vg.lay yb;clear yb;have H_hv2:=h_ hv2;have H_hX2:=h_ hX2;have H_hg2:=h_ hg2;clear hv2 hX2 hg2)|(go_at_call 43;(with_reducible refine(H_hmk.out _).mono ?_);rintro e3 w3 ⟨rfl,x3,n3,rfl⟩))
 go_ret2
 have hlX:∀k,X k->k<w2.heap.size:=by
  obtain⟨b,gp,Xw,y1,y2,y3,y4,y5,y6⟩:=H_hv2.out.open
  exact y5
 have hs2:=H_hg2.out.size
 simp only[Vg.plus_size,World.size_alloc]at hs2
 have hlw:=Vg.low_bd start
 refine⟨w2.heap.size+1+Vg.sz x3,fun k=>X k\/k=w2.heap.size+1+Vg.sz x3,rfl,⟨⟨⟨Vg.low start,0,false,false⟩,start,false,0,false⟩,tb,X,start,rfl,?_,H_hv2.out.grows (Vg.gro),⟨⟨hm,rfl,by show(0:Int)<=0/\(0:Int)<=4294967295;omega,by show 0<=start/\start<=start/\start<=4503599627370496;omega⟩,fun _ _=>rfl,fun e=>by simp at e,fun e=>by simp at e⟩,Int.le_refl _,fun hk=>by have:=hlX _ hk;omega,fun k hk=>.inl hk,.inr rfl,fun k hk=>?_⟩,fun k hk=>?_,((((Vg.Grows.refl w).alloc _).plus x1 n1).trans H_hg2.out).trans (Vg.gro)⟩
 ·exact Vg.alloc_heap_at (by simp only[Vg.plus_size,World.size_alloc];omega)
 ·simp only[Vg.plus_size,World.size_alloc]
  rcases hk with hk|rfl
  ·have:=hlX _ hk;omega
  ·omega
 ·rcases hk with hk|rfl
  ·have:=H_hX2.out k hk;simp only[Vg.plus_size,World.size_alloc]at this;omega
  ·omega
end
end Go.Proofs.YtlkdkgefjipjmaaGreatDoor
