/- Tims, QueN, TimsB, TimsC, Wrap (put together). -/
import Derived.Test.YtlkdkgefjipjmaaGreatDoorP9
import Derived.StillTailTactics
import Derived.Test.YtlkdkgefjipjmaaGreatDoorQ1
import Derived.Test.YtlkdkgefjipjmaaGreatDoorQ0
import Derived.Deep.RegionLaw
import Derived.Deep.DeepAppendWide
import Derived.Maps.OwnIn
import Derived.Test.YtlkdkgefjipjmaaGreatDoorChecked
set_option linter.all false
set_option maxHeartbeats 40000000
set_option maxRecDepth 100000
namespace Vg
open Go
def fire1(V P:Int->Option Int)(z t:Int):(Int->Option Int)×(Int->Option Int):=
 if(P z).getD 0=0 then(fun y=>if y=z then none else V y,P)
 else if t+(P z).getD 0<=4503599627370496 then(fun y=>if y=z then some (t+(P z).getD 0)else V y,P)
 else(fun y=>if y=z then none else V y,fun y=>if y=z then none else P y)
end Vg
namespace Go.Proofs.YtlkdkgefjipjmaaGreatDoor
open Go.ChangeShapes Go.WideShapes Go.ChangeAt Go.RowKit
abbrev timsC(b gp:Nat):Obj:=.cells #[.pointer (some ⟨b,0,none⟩),.map (some gp)] 191
def TV(w:World)(tb:Nat)(X:Nat->Prop)(now:Int)(V P:Int->Option Int)(fr N:Nat):Prop:=
 ∃b gp mn Xw,Vg.blk w tb=some (timsC b gp)/\WV w b Xw now V fr N/\Vg.IMap w Tryz.prog 3 2 gp mn P/\mn<=N/\(∀k,Xw k->X k)/\X tb/\X gp/\tb≠gp/\¬Xw tb/\¬Xw gp/\(∀k,X k->k<w.heap.size)/\(∀z p,P z=some p->0<=p/\p<=4503599627370496)
def TVn(w0 w:World)(tb:Nat)(X:Nat->Prop)(now:Int)(V P:Int->Option Int)(fr N:Nat):Prop:=TV w tb X now V P fr N/\Vg.Touch X w0 w
theorem Tryz.info_int64p:(Tryz.prog.info? 2).map (fun i=>(i.zero,i.size,i.bytes))=some (some (.int .i64 0),1,8):=by kernel_rfl
theorem zero64p(w:World):(zeroValue 2).run Tryz.prog w=.ok (.int .i64 0) w:=by
 obtain⟨i,hi,hz,hs,hb⟩:=info_parts Tryz.info_int64p
 simp[zeroValue,typeInfo,hi,hz]
section
variable {w w0 w':World}{tb fr N:Nat}{X:Nat->Prop}{now:Int}{V P V' P':Int->Option Int}
theorem TV.grows(h:TV w tb X now V P fr N)(hg:Vg.Grows w w'):TV w' tb X now V P fr N:=by
 obtain⟨b,gp,mn,Xw,h1,h2,h3,h4,h5,h6,h7,h8,h9,h10,h11,h12⟩:=h
 exact⟨b,gp,mn,Xw,hg.blk h1,h2.grows hg,h3.grows hg,h4,h5,h6,h7,h8,h9,h10,fun k hk=>Nat.lt_of_lt_of_le (h11 k hk) hg.size,h12⟩
theorem TV.touch{t:Nat->Prop}(h:TV w tb X now V P fr N)(ht:Vg.Touch t w w')(hv:∀k,X k->¬t k):TV w' tb X now V P fr N:=by
 obtain⟨b,gp,mn,Xw,h1,h2,h3,h4,h5,h6,h7,h8,h9,h10,h11,h12⟩:=h
 exact⟨b,gp,mn,Xw,(ht.block tb (Vg.lt_of h1) (hv tb h6)).trans h1,h2.touch ht (fun k hk=>hv k (h5 k hk)),h3.keep (ht.block gp h3.lt (hv gp h7)),h4,h5,h6,h7,h8,h9,h10,fun k hk=>Nat.lt_of_lt_of_le (h11 k hk) ht.size,h12⟩
theorem TVn.grows(h:TVn w0 w tb X now V P fr N)(hg:Vg.Grows w w'):TVn w0 w' tb X now V P fr N:=⟨h.1.grows hg,h.2.trans (Vg.Touch.of_grows hg)⟩
theorem tv_every(id first per:Int)(h:TV w tb X now V P (fr+1) N)(hp:1<=per/\per<=4503599627370496)(hf:0<=first/\first<=4503599627370496)(hid:(Lit.int .i64 id).wf=true)(hj:V id=none)(hN:N<=4611686018427387904):
  Calls Tryz.prog 52 #[.pointer (some ⟨tb,0,none⟩),.int .i64 id,.int .i64 first,.int .i64 per] w fun e w'=>e=.returned (.int .i64 0)/\TVn w w' tb X now (fun y=>if y=id then some first else V y) (fun y=>if y=id then some per else P y) fr (N+1):=by
 obtain⟨b,gp,mn,Xw,h1,h2,h3,h4,h5,h6,h7,h8,h9,h10,h11,h12⟩:=h
 obtain⟨hp0,hp1⟩:=hp
 have hperw:(Lit.int .i64 per).wf=true:=by
  simp only[Lit.wf,Bool.and_eq_true,decide_eq_true_eq]
  exact⟨by show(-9223372036854775808:Int)<=_;omega,by show _<=(9223372036854775807:Int);omega⟩
 have hik:=wv_insert id first h2 hf hid hj hN
 have hmn9:mn<maxLen:=by unfold maxLen;omega
 obtain⟨c_h1,f_h1,p_h1,l_h1,H_h1⟩:=Vg.lay h1;clear h1
 have H_hik:=h_ hik;have H_h2:=h_ h2;have H_h3:=h_ h3;have H_h5:=h_ h5;have H_h6:=h_ h6;have H_h7:=h_ h7;have H_h9:=h_ h9;have H_h10:=h_ h10;have H_h11:=h_ h11;have H_h12:=h_ h12;clear hik h2 h3 h5 h6 h7 h9 h10 h11 h12
 go_enter Tryz.func52,Tryz.ntmps52
 go_upto_region 5 with((go_at_call 89;(with_reducible refine(H_hik.out).mono ?_);rintro e w1 ⟨rfl,hw1,ht1⟩;have H_hw1:=h_ hw1;have H_ht1:=h_ ht1;clear hw1 ht1))
 have y1:=(H_ht1.out.block tb l_h1 H_h9.out).trans H_h1.out
 have hi1:=H_h3.out.keep (H_ht1.out.block gp H_h3.out.lt H_h10.out)
 have y1:Vg.blk w1 tb=some (timsC b gp):=y1
 clear c_h1 f_h1 p_h1
 obtain⟨c_y1,f_y1,p_y1,l_y1,H_y1⟩:=Vg.lay y1;clear y1
 have H_hi1:=h_ hi1;clear hi1
 go_upto_region 6 with(at_mapUpdate;(refine Vg.wpList_set_imap _ rfl _ _ _ 189 rfl 3 2 Tryz.underlying3 Tryz.underlying189 Tryz.underlying2 gp mn _ rfl H_hi1.out hmn9 _ rfl hid _ rfl hperw ?_);intro ob hob;have H_hob:=h_ hob;clear hob)
 have hne:=H_h10.out
 have htc:Vg.Touch (fun k=>k=gp) w1 (Vg.put w1 gp ob):=Vg.Touch.put (t:=fun k=>k=gp) (Vg.Touch.refl _ w1) rfl _
 have hfin:TVn w (Vg.put w1 gp ob) tb X now (fun y=>if y=id then some first else V y) (fun y=>if y=id then some per else P y) fr (N+1):=
  ⟨⟨b,gp,mn+1,Xw,(Vg.blk_put_other (Ne.symm h8)).trans H_y1.out,H_hw1.out.touch htc (fun k hk e=>hne (e ▸ hk)),H_hob.out,by omega,H_h5.out,H_h6.out,H_h7.out,h8,H_h9.out,hne,fun k hk=>by rw[Vg.put_size];exact Nat.lt_of_lt_of_le (H_h11.out k hk) H_ht1.out.size,fun z p hz=>by
   by_cases hzi:z=id
   ·simp only[if_pos hzi,Option.some.injEq]at hz;omega
   ·simp only[if_neg hzi]at hz;exact H_h12.out z p hz⟩,(H_ht1.out.mono fun k _ hk=>H_h5.out k hk).put H_h7.out _⟩
 have H_hfin:=h_ hfin;clear hfin
 go_wp2_with fail
 go_ret
 exact⟨rfl,H_hfin.out⟩
theorem tv_again(z t:Int)(h:TV w tb X now (fun y=>if y=z then none else V y) P (fr+1) N)(ht:0<=t/\t<=4503599627370496)(hid:(Lit.int .i64 z).wf=true)(hN:N<=4611686018427387904):
  Calls Tryz.prog 175 #[.pointer (some ⟨tb,0,none⟩),.agg #[.int .i64 z,.int .i64 t]] w fun e w'=>e=.returned (.tuple #[])/\∃fr',fr<=fr'/\TVn w w' tb X now (Vg.fire1 V P z t).1 (Vg.fire1 V P z t).2 fr' (N+1):=by
 have h00:=h
 obtain⟨b,gp,mn,Xw,h1,h2,h3,h4,h5,h6,h7,h8,h9,h10,h11,h12⟩:=h
 obtain⟨p,hp⟩:∃p,(P z).getD 0=p:=⟨_,rfl⟩
 obtain⟨hp0,hp1⟩:0<=p/\p<=4503599627370496:=by
  cases hz:P z with
  | none=>rw[hz]at hp;simp at hp;omega
  | some q=>rw[hz]at hp;simp at hp;subst hp;exact h12 z q hz
 obtain⟨ht0,ht1⟩:=ht
 have hpw:WV w b Xw now (fun y=>if y=z then none else V y) (fr+1) (N+1):=by
  obtain⟨pb,p1,p2,gt,gm,n,s,L,F,g1,g2,g3,g4,g5,g6,g7,g8,g9⟩:=h2
  exact⟨pb,p1,p2,gt,gm,n,s,L,F,g1,g2,g3,g4,g5,g6,g7,by omega,g9⟩
 have hpad:TV w tb X now (fun y=>if y=z then none else V y) P (fr+1) (N+1):=
  ⟨b,gp,mn,Xw,h1,hpw,h3,by omega,h5,h6,h7,h8,h9,h10,h11,h12⟩
 have hb1:Vg.blk (w.alloc (.cells #[.int .i64 z,.int .i64 t] 302)) w.heap.size=some (.cells #[.int .i64 z,.int .i64 t] 302):=Vg.alloc_heap_at rfl
 by_cases hpz:p=0
 ·subst hpz
  have hfe:Vg.fire1 V P z t=(fun y=>if y=z then none else V y,P):=by unfold Vg.fire1;rw[hp,if_pos rfl]
  rw[hfe]
  obtain⟨c_h1,f_h1,p_h1,l_h1,H_h1⟩:=Vg.lay h1;clear h1
  have H_h00:=h_ h00;have H_h2:=h_ h2;have H_h3:=h_ h3;have H_h5:=h_ h5;have H_h6:=h_ h6;have H_h7:=h_ h7;have H_h9:=h_ h9;have H_h10:=h_ h10;have H_h11:=h_ h11;have H_h12:=h_ h12;have H_hp:=h_ hp;have H_hpad:=h_ hpad;have H_hpw:=h_ hpw;clear h00 h2 h3 h5 h6 h7 h9 h10 h11 h12 hp hpad hpw
  go_enter Tryz.func175,Tryz.ntmps175
  go_upto_region 1 with fail
  obtain⟨bx,hbx⟩:∃bx,w.heap.size=bx:=⟨_,rfl⟩
  rw[hbx]
  rw[hbx]at hb1
  obtain⟨u1,u1e⟩:∃u1,w.alloc (.cells #[.int .i64 z,.int .i64 t] 302)=u1:=⟨_,rfl⟩
  have g_u1:Vg.Grows w u1:=by rw[<-u1e];exact Vg.gro
  have a_u1:=g_u1.blk H_h1.out
  have b_u1:Vg.blk u1 bx=some (.cells #[.int .i64 z,.int .i64 t] 302):=by rw[<-u1e];exact hb1
  have a_u1:Vg.blk u1 tb=some (timsC b gp):=a_u1
  rw[u1e]
  clear u1e c_h1 f_h1 p_h1 l_h1
  have k_u1:=h_ b_u1
  obtain⟨c_a_u1,f_a_u1,p_a_u1,l_a_u1,H_a_u1⟩:=Vg.lay a_u1;clear a_u1;obtain⟨c_b_u1,f_b_u1,p_b_u1,l_b_u1,H_b_u1⟩:=Vg.lay b_u1;clear b_u1
  go_still_tail 6,(by kernel_rfl)
  change wpList _ _ _ _ _ u1.drew
  obtain⟨u2,u2e⟩:∃u2,u1.drew=u2:=⟨_,rfl⟩
  have g_u2:Vg.Grows w u2:=by rw[<-u2e];exact Vg.gro
  have a_u2:=g_u2.blk H_h1.out
  have b_u2:Vg.blk u2 bx=some (.cells #[.int .i64 z,.int .i64 t] 302):=by rw[<-u2e];exact(Vg.Grows.blk ((Vg.Grows.refl _).drew) k_u1.out)
  have a_u2:Vg.blk u2 tb=some (timsC b gp):=a_u2
  rw[u2e]
  clear u2e c_a_u1 f_a_u1 p_a_u1 l_a_u1 c_b_u1 f_b_u1 p_b_u1 l_b_u1
  have k_u2:=h_ b_u2
  obtain⟨c_a_u2,f_a_u2,p_a_u2,l_a_u2,H_a_u2⟩:=Vg.lay a_u2;clear a_u2;obtain⟨c_b_u2,f_b_u2,p_b_u2,l_b_u2,H_b_u2⟩:=Vg.lay b_u2;clear b_u2
  refine Vg.wpList_at_imap _ rfl _ _ 189 rfl 3 2 Tryz.underlying3 Tryz.underlying189 Tryz.underlying2 (zero64p _) gp mn _ rfl (H_h3.out.grows g_u2) _ rfl hid ?_
  rw[H_hp.out]
  go_wp2_with fail
  go_returns
  exact⟨rfl,fr+1,by omega,H_hpad.out.grows g_u2,Vg.Touch.of_grows g_u2⟩
 ·by_cases hle:t+p<=4503599627370496
  ·have hfe:Vg.fire1 V P z t=(fun y=>if y=z then some (t+p)else V y,P):=by unfold Vg.fire1;rw[hp,if_neg hpz,if_pos hle]
   rw[hfe]
   have hw1:IntKind.i64.wrap (t+p)=t+p:=by rw[IntKind.wrap_i64];omega
   have hik:∀wz,Vg.Grows w wz->Calls Tryz.prog 89 #[.pointer (some ⟨b,0,none⟩),.int .i64 z,.int .i64 (t+p)] wz fun e w'=>e=.returned (.int .i64 0)/\WV w' b Xw now (fun y=>if y=z then some (t+p)else V y) fr (N+1)/\Vg.Touch Xw wz w':=fun wz hg=>by
    have h9:=wv_insert z (t+p) (h2.grows hg) ⟨by omega,hle⟩ hid (by simp) hN
    have e:(fun y=>if y=z then some (t+p)else if y=z then none else V y)=fun y=>if y=z then some (t+p)else V y:=by
     funext y
     by_cases hy:y=z<;>simp[hy]
    rw[e]at h9
    exact h9
   have hpzI:(p==0)=false:=by simpa using hpz
   obtain⟨c_h1,f_h1,p_h1,l_h1,H_h1⟩:=Vg.lay h1;clear h1
   have H_h00:=h_ h00;have H_h2:=h_ h2;have H_h3:=h_ h3;have H_h5:=h_ h5;have H_h6:=h_ h6;have H_h7:=h_ h7;have H_h9:=h_ h9;have H_h10:=h_ h10;have H_h11:=h_ h11;have H_h12:=h_ h12;have H_hp:=h_ hp;have H_hpad:=h_ hpad;have H_hpw:=h_ hpw;have H_hik:=h_ hik;clear h00 h2 h3 h5 h6 h7 h9 h10 h11 h12 hp hpad hpw hik
   go_enter Tryz.func175,Tryz.ntmps175
   go_upto_region 1 with fail
   obtain⟨bx,hbx⟩:∃bx,w.heap.size=bx:=⟨_,rfl⟩
   rw[hbx]
   rw[hbx]at hb1
   obtain⟨u1,u1e⟩:∃u1,w.alloc (.cells #[.int .i64 z,.int .i64 t] 302)=u1:=⟨_,rfl⟩
   have g_u1:Vg.Grows w u1:=by rw[<-u1e];exact Vg.gro
   have a_u1:=g_u1.blk H_h1.out
   have b_u1:Vg.blk u1 bx=some (.cells #[.int .i64 z,.int .i64 t] 302):=by rw[<-u1e];exact hb1
   have a_u1:Vg.blk u1 tb=some (timsC b gp):=a_u1
   rw[u1e]
   clear u1e c_h1 f_h1 p_h1 l_h1
   have k_u1:=h_ b_u1
   obtain⟨c_a_u1,f_a_u1,p_a_u1,l_a_u1,H_a_u1⟩:=Vg.lay a_u1;clear a_u1;obtain⟨c_b_u1,f_b_u1,p_b_u1,l_b_u1,H_b_u1⟩:=Vg.lay b_u1;clear b_u1
   go_still_tail 6,(by kernel_rfl)
   change wpList _ _ _ _ _ u1.drew
   obtain⟨u2,u2e⟩:∃u2,u1.drew=u2:=⟨_,rfl⟩
   have g_u2:Vg.Grows w u2:=by rw[<-u2e];exact Vg.gro
   have a_u2:=g_u2.blk H_h1.out
   have b_u2:Vg.blk u2 bx=some (.cells #[.int .i64 z,.int .i64 t] 302):=by rw[<-u2e];exact(Vg.Grows.blk ((Vg.Grows.refl _).drew) k_u1.out)
   have a_u2:Vg.blk u2 tb=some (timsC b gp):=a_u2
   rw[u2e]
   clear u2e c_a_u1 f_a_u1 p_a_u1 l_a_u1 c_b_u1 f_b_u1 p_b_u1 l_b_u1
   have k_u2:=h_ b_u2
   obtain⟨c_a_u2,f_a_u2,p_a_u2,l_a_u2,H_a_u2⟩:=Vg.lay a_u2;clear a_u2;obtain⟨c_b_u2,f_b_u2,p_b_u2,l_b_u2,H_b_u2⟩:=Vg.lay b_u2;clear b_u2
   refine Vg.wpList_at_imap _ rfl _ _ 189 rfl 3 2 Tryz.underlying3 Tryz.underlying189 Tryz.underlying2 (zero64p _) gp mn _ rfl (H_h3.out.grows g_u2) _ rfl hid ?_
   rw[H_hp.out]
   go_upto_region 3 with fail
   go_still_tail 10,(by kernel_rfl)
   change wpList _ _ _ _ _ u2.drew
   obtain⟨u3,u3e⟩:∃u3,u2.drew=u3:=⟨_,rfl⟩
   have g_u3:Vg.Grows w u3:=by rw[<-u3e];exact Vg.gro
   have a_u3:=g_u3.blk H_h1.out
   have b_u3:Vg.blk u3 bx=some (.cells #[.int .i64 z,.int .i64 t] 302):=by rw[<-u3e];exact(Vg.Grows.blk ((Vg.Grows.refl _).drew) k_u2.out)
   have a_u3:Vg.blk u3 tb=some (timsC b gp):=a_u3
   rw[u3e]
   clear u3e c_a_u2 f_a_u2 p_a_u2 l_a_u2 c_b_u2 f_b_u2 p_b_u2 l_b_u2
   have k_u3:=h_ b_u3
   obtain⟨c_a_u3,f_a_u3,p_a_u3,l_a_u3,H_a_u3⟩:=Vg.lay a_u3;clear a_u3;obtain⟨c_b_u3,f_b_u3,p_b_u3,l_b_u3,H_b_u3⟩:=Vg.lay b_u3;clear b_u3
   go_wp2_with ((go_at_call 89;(with_reducible refine(H_hik.out _ g_u3).mono ?_);rintro e w1 ⟨rfl,hw1,ht1⟩;have H_hw1:=h_ hw1;have H_ht1:=h_ ht1;clear hw1 ht1))
   go_returns
   have hne:=H_h10.out
   have hlb:=H_h11.out tb H_h6.out
   refine⟨rfl,fr,Nat.le_refl _,⟨b,gp,mn,Xw,(H_ht1.out.block tb (by have:=g_u3.size;omega) H_h9.out).trans (g_u3.blk H_h1.out),H_hw1.out,(H_h3.out.grows g_u3).keep (H_ht1.out.block gp (H_h3.out.grows g_u3).lt hne),by omega,H_h5.out,H_h6.out,H_h7.out,h8,H_h9.out,hne,fun k hk=>Nat.lt_of_lt_of_le (H_h11.out k hk) (Nat.le_trans g_u3.size H_ht1.out.size),H_h12.out⟩,?_⟩
   exact(Vg.Touch.of_grows g_u3).trans (H_ht1.out.mono fun k _ hk=>H_h5.out k hk)
  ·have hfe:Vg.fire1 V P z t=(fun y=>if y=z then none else V y,fun y=>if y=z then none else P y):=by unfold Vg.fire1;rw[hp,if_neg hpz,if_neg hle]
   rw[hfe]
   have hw1:IntKind.i64.wrap (t+p)=t+p:=by rw[IntKind.wrap_i64];omega
   have hik:∀wz,Calls Tryz.prog 89 #[.pointer (some ⟨b,0,none⟩),.int .i64 z,.int .i64 (t+p)] wz fun e w'=>e=.returned (.int .i64 1)/\wz=w':=fun wz=>wv_insert_range z (t+p) (.inr (by omega))
   have hpzI:(p==0)=false:=by simpa using hpz
   obtain⟨c_h1,f_h1,p_h1,l_h1,H_h1⟩:=Vg.lay h1;clear h1
   have H_h00:=h_ h00;have H_h2:=h_ h2;have H_h3:=h_ h3;have H_h5:=h_ h5;have H_h6:=h_ h6;have H_h7:=h_ h7;have H_h9:=h_ h9;have H_h10:=h_ h10;have H_h11:=h_ h11;have H_h12:=h_ h12;have H_hp:=h_ hp;have H_hpad:=h_ hpad;have H_hpw:=h_ hpw;have H_hik:=h_ hik;clear h00 h2 h3 h5 h6 h7 h9 h10 h11 h12 hp hpad hpw hik
   go_enter Tryz.func175,Tryz.ntmps175
   go_upto_region 1 with fail
   obtain⟨bx,hbx⟩:∃bx,w.heap.size=bx:=⟨_,rfl⟩
   rw[hbx]
   rw[hbx]at hb1
   obtain⟨u1,u1e⟩:∃u1,w.alloc (.cells #[.int .i64 z,.int .i64 t] 302)=u1:=⟨_,rfl⟩
   have g_u1:Vg.Grows w u1:=by rw[<-u1e];exact Vg.gro
   have a_u1:=g_u1.blk H_h1.out
   have b_u1:Vg.blk u1 bx=some (.cells #[.int .i64 z,.int .i64 t] 302):=by rw[<-u1e];exact hb1
   have a_u1:Vg.blk u1 tb=some (timsC b gp):=a_u1
   rw[u1e]
   clear u1e c_h1 f_h1 p_h1 l_h1
   have k_u1:=h_ b_u1
   obtain⟨c_a_u1,f_a_u1,p_a_u1,l_a_u1,H_a_u1⟩:=Vg.lay a_u1;clear a_u1;obtain⟨c_b_u1,f_b_u1,p_b_u1,l_b_u1,H_b_u1⟩:=Vg.lay b_u1;clear b_u1
   go_still_tail 6,(by kernel_rfl)
   change wpList _ _ _ _ _ u1.drew
   obtain⟨u2,u2e⟩:∃u2,u1.drew=u2:=⟨_,rfl⟩
   have g_u2:Vg.Grows w u2:=by rw[<-u2e];exact Vg.gro
   have a_u2:=g_u2.blk H_h1.out
   have b_u2:Vg.blk u2 bx=some (.cells #[.int .i64 z,.int .i64 t] 302):=by rw[<-u2e];exact(Vg.Grows.blk ((Vg.Grows.refl _).drew) k_u1.out)
   have a_u2:Vg.blk u2 tb=some (timsC b gp):=a_u2
   rw[u2e]
   clear u2e c_a_u1 f_a_u1 p_a_u1 l_a_u1 c_b_u1 f_b_u1 p_b_u1 l_b_u1
   have k_u2:=h_ b_u2
   obtain⟨c_a_u2,f_a_u2,p_a_u2,l_a_u2,H_a_u2⟩:=Vg.lay a_u2;clear a_u2;obtain⟨c_b_u2,f_b_u2,p_b_u2,l_b_u2,H_b_u2⟩:=Vg.lay b_u2;clear b_u2
   refine Vg.wpList_at_imap _ rfl _ _ 189 rfl 3 2 Tryz.underlying3 Tryz.underlying189 Tryz.underlying2 (zero64p _) gp mn _ rfl (H_h3.out.grows g_u2) _ rfl hid ?_
   rw[H_hp.out]
   go_upto_region 3 with fail
   go_still_tail 10,(by kernel_rfl)
   change wpList _ _ _ _ _ u2.drew
   obtain⟨u3,u3e⟩:∃u3,u2.drew=u3:=⟨_,rfl⟩
   have g_u3:Vg.Grows w u3:=by rw[<-u3e];exact Vg.gro
   have a_u3:=g_u3.blk H_h1.out
   have b_u3:Vg.blk u3 bx=some (.cells #[.int .i64 z,.int .i64 t] 302):=by rw[<-u3e];exact(Vg.Grows.blk ((Vg.Grows.refl _).drew) k_u2.out)
   have a_u3:Vg.blk u3 tb=some (timsC b gp):=a_u3
   rw[u3e]
   clear u3e c_a_u2 f_a_u2 p_a_u2 l_a_u2 c_b_u2 f_b_u2 p_b_u2 l_b_u2
   have k_u3:=h_ b_u3
   obtain⟨c_a_u3,f_a_u3,p_a_u3,l_a_u3,H_a_u3⟩:=Vg.lay a_u3;clear a_u3;obtain⟨c_b_u3,f_b_u3,p_b_u3,l_b_u3,H_b_u3⟩:=Vg.lay b_u3;clear b_u3
   go_upto_region 5 with((go_at_call 89;(with_reducible refine(H_hik.out _).mono ?_);rintro e w1 ⟨rfl,rfl⟩))
   go_still_tail 6,(by kernel_rfl)
   change wpList _ _ _ _ _ u3.drew
   obtain⟨u4,u4e⟩:∃u4,u3.drew=u4:=⟨_,rfl⟩
   have g_u4:Vg.Grows w u4:=by rw[<-u4e];exact Vg.gro
   have a_u4:=g_u4.blk H_h1.out
   have b_u4:Vg.blk u4 bx=some (.cells #[.int .i64 z,.int .i64 t] 302):=by rw[<-u4e];exact(Vg.Grows.blk ((Vg.Grows.refl _).drew) k_u3.out)
   have a_u4:Vg.blk u4 tb=some (timsC b gp):=a_u4
   rw[u4e]
   clear u4e c_a_u3 f_a_u3 p_a_u3 l_a_u3 c_b_u3 f_b_u3 p_b_u3 l_b_u3
   refine Vg.wpList_del_imap _ rfl _ _ 189 3 rfl 2 Tryz.underlying3 Tryz.underlying189 gp mn _ rfl (H_h3.out.grows g_u4) _ rfl hid ?_
   intro ob hob
   have hne:=H_h10.out
   have htc:Vg.Touch (fun k=>k=gp) u4 (Vg.put u4 gp ob):=Vg.Touch.put (t:=fun k=>k=gp) (Vg.Touch.refl _ u4) rfl _
   have hfin:TVn w (Vg.put u4 gp ob) tb X now (fun y=>if y=z then none else V y) (fun y=>if y=z then none else P y) (fr+1) (N+1):=
    ⟨⟨b,gp,mn,Xw,(Vg.blk_put_other (Ne.symm h8)).trans a_u4,((H_hpw.out.grows g_u4).touch htc (fun k hk e=>hne (e ▸ hk))),hob,by omega,H_h5.out,H_h6.out,H_h7.out,h8,H_h9.out,hne,fun k hk=>by rw[Vg.put_size];exact Nat.lt_of_lt_of_le (H_h11.out k hk) g_u4.size,fun y q hz=>by
     by_cases hzi:y=z
     ·simp only[if_pos hzi]at hz;simp at hz
     ·simp only[if_neg hzi]at hz;exact H_h12.out y q hz⟩,(Vg.Touch.of_grows g_u4).put H_h7.out _⟩
   have H_hob:=h_ hob;have H_hfin:=h_ hfin;clear hob hfin
   go_wp2_with fail
   go_returns
   exact⟨rfl,fr+1,by omega,H_hfin.out⟩
end
end Go.Proofs.YtlkdkgefjipjmaaGreatDoor
namespace Vg
open Go Go.RowKit
theorem run_append_que1{P:Program}(w:World)(base:Nat)(t ty e:TypeId)(i:TypeInfo)(z:Value)(size bytes:Nat)(ht:P.underlying t=some (.slice e))(hi:P.info? e=some i)(hz:i.zero=some z)
  (hsize:i.size=size)(hby:i.bytes=bytes)(hzs:z.cells.size=size)(hsz:0<size)
  (v:Value)(n:Nat)(xs:List Value)(hown:Que w base e size v n xs)
  (a:Addr)(c:Nat)(news:List Value)(hl:news.length=1*size)(hnews:∀j u,news[j]? = some u->w.cell? (a.add j)=some u)(h1:∀u∈news,u.oneCell'=true) 
  (h63:n+1<=maxLen)(hbytes:((n+1)+(n+1)/4+192)*bytes<=281474976710656)(hb2:bytes<=1000)(hbase:base<=w.heap.size):
  ∃v' w',(Builtin.append_ #[t,t] ty #[v,.slice (some a) 1 c]).run P w=.ok v' w'/\Que w' base e size v' (n+1) (xs++news)/\w.grownBy w' v.ownBlock/\(v'.ownBlock=v.ownBlock\/v'.ownBlock=some w.heap.size):=by
 by_cases hsmall:(n+1)*bytes<=140737488355328
 ·exact run_append_que (P:=P) w base t ty e i z size bytes ht hi hz hsize hby hzs hsz v n xs hown a 1 c news hl hnews h1 (by decide) h63 hsmall hbase
 rcases hown.2 with⟨rfl,rfl⟩|⟨g,o,cap,cur,rfl,hbg,hg,hnc,hcm,hcs,htake⟩
 ·exact absurd (by omega) hsmall
 ·subst hsize
  subst hby
  have hlen:(xs++news).length=(n+1)*i.size:=by rw[List.length_append,hown.1,hl,Nat.add_mul]
  by_cases hroom:n+1<=cap
  ·have hfit:o+n*i.size+news.length<=cur.size:=by
    rw[hl,Nat.add_assoc,<-Nat.add_mul];exact Nat.le_trans (Nat.add_le_add_left (Nat.mul_le_mul_right _ hroom) _) hcs
   have hr:=run_append_room_at (P:=P) w t ty e i ht hi g o n cap cur hg a 1 c news hl hnews h1 hroom hfit
   refine⟨_,_,hr,⟨hlen,.inr ⟨g,o,cap,_,rfl,hbg,setRow_heap w g cur _ e _ hg,hroom,hcm,?_,?_⟩⟩,⟨rfl,rfl,rfl,by simp,fun k _ hk=>setRow_other w g k _ (fun e=>hk (by simp[Value.ownBlock,e]))⟩,.inl rfl⟩
   ·simp only[List.size_toArray,List.length_append,List.length_take,List.length_drop,Array.length_toList]
    omega
   ·simp only[List.append_assoc]
    rw[List.drop_append_of_le_length (by rw[List.length_take,Array.length_toList];omega),List.drop_take]
    rw[show o+n*i.size-o=n*i.size from by omega,htake,<-List.append_assoc,<-hlen]
    exact List.take_left
  ·have holds:∀j u,xs[j]? = some u->w.cell? ((⟨g,o,none⟩:Addr).add j)=some u:=by
    intro j u hu
    obtain⟨hj,rfl⟩:=List.getElem?_eq_some_iff.1 hu
    rcases hown.reads with⟨h0,_⟩|⟨g',o',cap',h0,_,_,_,_,hc⟩
    ·cases h0
    ·simp only[Value.slice.injEq,Option.some.injEq,Addr.mk.injEq]at h0
     obtain⟨⟨rfl,rfl,_⟩,_,rfl⟩:=h0
     rw[Addr.add_lit];exact hc j hj
   have hr:=run_append_grow (P:=P) w t ty e i z ht hi hz ⟨g,o,none⟩ n cap xs hown.1 holds a 1 c news hl hnews (by omega) (by simp only[maxLen]at h63;omega) (growslice_fits_wide (by omega) hbytes)
   have hge:=grownCap_ge w (n+1) cap e
   have hcm':grownCap w (n+1) cap e<=maxLen:=grownCap_le_maxLen w (n+1) cap e h63
   refine⟨_,_,hr,⟨hlen,.inr ⟨w.heap.size,0,_,_,rfl,hbase,heap_alloc_new w.drew _,hge,hcm',?_,?_⟩⟩,⟨rfl,rfl,rfl,by simp,fun k hk _=>alloc_heap_past (w:=w.drew) hk⟩,.inr rfl⟩
   ·simp only[Array.size_append,List.size_toArray,size_zeroCells,hzs,hown.1,hl,<-Nat.add_mul,Nat.zero_add]
    exact Nat.mul_le_mul_right _ (by omega)
   ·simp only[Array.toList_append,List.drop_zero]
    rw[<-hlen]
    exact List.take_left
theorem wpList_que1{P:Program}{w:World}{ops:Array Oper}{rest:List Oper}{o:Oper}{a:Act}{Q:Exit->Act->World->Prop}(hgd:o.guard=none)(s x:Operand)(t:TypeId)
  (ho:o.op=.call { callee:=.builtin .append,args:=#[s,x],argTypes:=#[t,t] })
  (base:Nat)(e:TypeId)(i:TypeInfo)(z:Value)(size bytes:Nat)(ht:P.underlying t=some (.slice e))(hi:P.info? e=some i)(hz:i.zero=some z)
  (hsize:i.size=size)(hby:i.bytes=bytes)(hzs:z.cells.size=size)(hsz:0<size)
  (v:Value)(n:Nat)(xs:List Value)(hs:a.eval s=v)(hown:Que w base e size v n xs)
  (ad:Addr)(c:Nat)(news:List Value)(hx:a.eval x=.slice (some ad) 1 c)(hl:news.length=1*size)(hnews:∀j u,news[j]? = some u->w.cell? (ad.add j)=some u)(h1:∀u∈news,u.oneCell'=true) 
  (h63:n+1<=maxLen)(hbytes:((n+1)+(n+1)/4+192)*bytes<=281474976710656)(hb2:bytes<=1000)(hbase:base<=w.heap.size)
  (h:∀v' W1 y k,Que (plus W1 y k) base e size v' (n+1) (xs++news)->Same (fun j=>v.ownBlock=some j) w W1->(v'.ownBlock=v.ownBlock\/v'.ownBlock=some w.heap.size)->wpList P ops Q rest (a.put o.dst v') (plus W1 y k)):wpList P ops Q (o::rest) a w:=by
 refine wpList_plain hgd fun _ hK=>?_
 obtain⟨v',w',hr,h2,h3,h4⟩:=run_append_que1 (P:=P) w base t o.type e i z size bytes ht hi hz hsize hby hzs hsz v n xs hown ad c news hl hnews h1 h63 hbytes hb2 hbase
 obtain⟨W1,y,k,rfl,hsame⟩:=grownBy_split h3
 unfold Oper.wp execOp
 simp only[ho,resolve,invoke,builtin,Sem.run_bind,Sem.run_pure,Result.andThen_ok,List.map_toArray,List.map_cons,List.map_nil,hs,hx,hr]
 exact hK _ _ (h v' W1 y k h2 hsame h4)
theorem step_que1{P:Program}{ops:Array Oper}{o:Oper}{a:Act}{w:World}{K:Act->World->Prop}{Q:Exit->Act->World->Prop}{E:Prop}
  (hg:o.guard=none)(s x:Operand)(t:TypeId)(hop:o.op=Op.call { callee:=Callee.builtin Builtin.append,args:=#[s,x],argTypes:=#[t,t] })
  (base:Nat)(e:TypeId)(i:TypeInfo)(z:Value)(size bytes:Nat)(ht:P.underlying t=some (.slice e))(hi:P.info? e=some i)(hz:i.zero=some z)
  (hsize:i.size=size)(hby:i.bytes=bytes)(hzs:z.cells.size=size)(hsz:0<size)
  (v:Value)(n:Nat)(xs:List Value)(hs:a.eval s=v)(hown:Que w base e size v n xs)
  (ad:Addr)(c:Nat)(news:List Value)(hx:a.eval x=.slice (some ad) 1 c)(hl:news.length=1*size)(hnews:∀j u,news[j]? = some u->w.cell? (ad.add j)=some u)(h1:∀u∈news,u.oneCell'=true) 
  (h63:n+1<=maxLen)(hbytes:((n+1)+(n+1)/4+192)*bytes<=281474976710656)(hb2:bytes<=1000)(hbase:base<=w.heap.size)
  (hK:∀v' W1 y k,Que (plus W1 y k) base e size v' (n+1) (xs++news)->Same (fun j=>v.ownBlock=some j) w W1->(v'.ownBlock=v.ownBlock\/v'.ownBlock=some w.heap.size)->K (a.put o.dst v') (plus W1 y k)):
  if Region.wanted o (yielded ops a.tmps)=true then Oper.wp P o a w K Q else E:=by
 have hw:Region.wanted o (yielded ops a.tmps)=true:=by simp[Region.wanted,hg]
 rw[if_pos hw]
 obtain⟨v',w',hr,h2,h3,h4⟩:=run_append_que1 (P:=P) w base t o.type e i z size bytes ht hi hz hsize hby hzs hsz v n xs hown ad c news hl hnews h1 h63 hbytes hb2 hbase
 obtain⟨W1,y,k,rfl,hsame⟩:=grownBy_split h3
 unfold Oper.wp
 simp[execOp,hop,resolve,invoke,builtin,hs,hx,hr,Result.andThen]
 exact hK v' W1 y k h2 hsame h4
theorem five_new {w:World} {x y z u v:Value} {t:TypeId} {n:Nat} (hn:n=w.heap.size):∀j q,[x,y,z,u,v][j]? = some q->(w.alloc (.cells #[x,y,z,u,v] t)).cell? ((⟨n,0,none⟩:Addr).add j)=some q:=by
 subst hn
 intro j q hu
 rw[Addr.add_lit,cells_of (w:=w.alloc (.cells #[x,y,z,u,v] t)) (b:=w.heap.size) (cs:=#[x,y,z,u,v]) (t:=t) (f:=(0,0)) (alloc_heap_at rfl)]
 simpa using hu
end Vg
namespace Vg
open Go
abbrev VP:=(Int->Option Int)×(Int->Option Int)
inductive Fires (now:Int):VP->List (Int×Int)->VP->Prop where
 | nil (s:VP):Fires now s [] s
 | snoc {s s1:VP}{l:List (Int×Int)}{z t:Int}(h:Fires now s l s1)(hz:s1.1 z=some t)(ht:t<=now):Fires now s (l ++ [(z,t)]) (fire1 s1.1 s1.2 z t)
def fcells(now:Int):List (Int×Int)->List Value
 | []=>[]
 | x::l=>.int .i64 x.1 :: .int .i64 x.2 :: .int .i64 (now-x.2):: fcells now l
theorem fcells_snoc(now:Int):∀(l:List (Int×Int))(z t:Int),fcells now (l ++ [(z,t)])=fcells now l ++ [.int .i64 z,.int .i64 t,.int .i64 (now-t)]
 | [],_,_=>rfl
 | x::l,z,t=>by simp[fcells,fcells_snoc now l z t]
theorem fcells_len(now:Int):∀(l:List (Int×Int)),(fcells now l).length=l.length*3
 | []=>rfl
 | x::l=>by simp[fcells,fcells_len now l];omega
end Vg
namespace Go.Proofs.YtlkdkgefjipjmaaGreatDoor
open Go.ChangeShapes Go.WideShapes Go.ChangeAt Go.RowKit
theorem Tryz.info_fired:(Tryz.prog.info? 105).map (fun i=>(i.zero,i.size,i.bytes))=some (some (.agg #[.int .i64 0,.int .i64 0,.int .i64 0]),3,24):=by kernel_rfl
section
variable {w w0 w':World}{tb fr N:Nat}{X:Nat->Prop}{now:Int}{V P V' P':Int->Option Int}
theorem TV.open(h:TV w tb X now V P fr N):∃b gp Xw,Vg.blk w tb=some (timsC b gp)/\WV w b Xw now V fr N/\¬Xw tb/\(∀k,Xw k->X k)/\(∀k,X k->k<w.heap.size) /\
  ∀w' now' V' fr' N',WV w' b Xw now' V' fr' N'->Vg.Touch Xw w w'->N<=N'->TVn w w' tb X now' V' P fr' N':=by
 obtain⟨b,gp,mn,Xw,h1,h2,h3,h4,h5,h6,h7,h8,h9,h10,h11,h12⟩:=h
 refine⟨b,gp,Xw,h1,h2,h9,h5,h11,fun w' now' V' fr' N' hw ht hN=>⟨⟨b,gp,mn,Xw,(ht.block tb (Vg.lt_of h1) h9).trans h1,hw,h3.keep (ht.block gp h3.lt h10),by omega,h5,h6,h7,h8,h9,h10,fun k hk=>Nat.lt_of_lt_of_le (h11 k hk) ht.size,h12⟩,ht.mono fun k _ hk=>h5 k hk⟩⟩
theorem WV.idwf{b:Nat}{Xw:Nat->Prop}(h:WV w b Xw now V fr N){z t:Int}(hz:V z=some t):(Lit.int .i64 z).wf=true:=by
 obtain⟨pb,p1,p2,gt,gm,n,s,L,F,h1,h2,h3,h4,h5,h6,h7,h8,h9⟩:=h
 obtain⟨l,i,hl,hi,rfl,_⟩:=h3.of h4 hz
 obtain⟨q,q1,q2⟩:=h1.pl
 exact h3.d3 i (q2.rng l hl i hi)
theorem TVn.que{v:Value}{lo n size:Nat}{e:TypeId}{xs:List Value}(h:TVn w w' tb X now V P fr N)(hX:∀k,X k->k<lo)(hq:Vg.Que w lo e size v n xs):Vg.Que w' lo e size v n xs:=
 hq.kept fun k hk=>h.2.block k (hq.lt k hk).2 fun hh=>by have:=hX k hh;have:=(hq.lt k hk).1;omega
def RunP(w w':World)(tb:Nat)(X:Nat->Prop)(nx:Int)(V P:Int->Option Int)(fr N:Nat)(e:Ending):Prop:=
 ∃(a:Option Addr)(c:Nat)(l:List (Int×Int))(V' P':Int->Option Int)(fr':Nat),e=.returned (.tuple #[.slice a l.length c,.int .i64 0])/\Vg.Que w' w.heap.size 105 3 (.slice a l.length c) l.length (Vg.fcells nx l) /\
   Vg.Fires nx (V,P) l (V',P')/\l.length<=1024/\(l.length<1024->∀z t,V' z=some t->nx<t)/\fr<=fr'/\TVn w w' tb X nx V' P' fr' (N+l.length)
theorem tv_run(nx:Int)(h:TV w tb X now V P fr N)(hT:Vg.Tab w)(h0:¬X 0)(hn1:now<=nx)(hn2:nx<=4503599627370496)(hN:N<=2305843009213693952):
  Calls Tryz.prog 111 #[.pointer (some ⟨tb,0,none⟩),.int .i64 nx] w fun e w'=>RunP w w' tb X nx V P fr N e:=by
 obtain⟨b,gp,Xw,h1,h2,h3,h4,h5,h6⟩:=h.open
 have hsk:=wv_set nx h2 hT (fun hh=>h0 (h4 0 hh)) hn1 hn2
 obtain⟨c_h1,f_h1,p_h1,l_h1,H_h1⟩:=Vg.lay h1;clear h1
 have H_h:=h_ h;have H_h2:=h_ h2;have H_h3:=h_ h3;have H_h4:=h_ h4;have H_h5:=h_ h5;have H_h6:=h_ h6;have H_hsk:=h_ hsk;have H_hT:=h_ hT;have H_h0:=h_ h0;clear h h2 h3 h4 h5 h6 hsk hT h0
 go_enter Tryz.func111,Tryz.ntmps111
 go_wp2_with ((go_at_call 63;(with_reducible refine(H_hsk.out).mono ?_);rintro e w1 ⟨rfl,hw1,ht1⟩;have H_hw1:=h_ hw1;have H_ht1:=h_ ht1;clear hw1 ht1))
 have hA:=H_h6.out w1 nx V fr N H_hw1.out H_ht1.out (Nat.le_refl _)
 have H_hA:=h_ hA;clear hA
 go_loopg [7] 1024 (fun k v wr=>∃(l:List (Int×Int))(a:Option Addr)(c:Nat)(V1 P1:Int->Option Int)(fr1:Nat),k=1024-l.length/\v=.slice a l.length c/\Vg.Que wr w.heap.size 105 3 (.slice a l.length c) l.length (Vg.fcells nx l)/\l.length<=1024/\Vg.Fires nx (V,P) l (V1,P1)/\fr<=fr1/\TVn w wr tb X nx V1 P1 fr1 (N+l.length))
 case atStart=>exact⟨[],none,0,V,P,fr,rfl,rfl,Vg.Que.nil _ _ _ _,by simp,.nil _,Nat.le_refl _,H_hA.out⟩
 case round=>
  obtain⟨l,a,c,V1,P1,fr1,hk,rfl,hq,hl,hF,hfr,hA1⟩:=hrel
  clear c_h1 f_h1 p_h1 l_h1
  obtain⟨n,hn⟩:∃n,l.length=n:=⟨_,rfl⟩
  rw[hn]at hk hq hl hA1 ⊢
  obtain⟨b1,gp1,Xw1,y1,y2,y3,y4,y5,y6⟩:=hA1.1.open
  by_cases hlt:n<1024
  ·have hltI:(n:Int)<1024:=by omega
   by_cases hd:∃z t,V1 z=some t/\t<=nx
   ·have hpk:=wv_pop y2 hd
    have hrg:=y2.rng
    obtain⟨c_y1,f_y1,p_y1,l_y1,H_y1⟩:=Vg.lay y1;clear y1
    have H_hq:=h_ hq;have H_hF:=h_ hF;have H_hA1:=h_ hA1;have H_y2:=h_ y2;have H_y3:=h_ y3;have H_y4:=h_ y4;have H_y5:=h_ y5;have H_y6:=h_ y6;have H_hpk:=h_ hpk;have H_hn:=h_ hn;have H_hrg:=h_ hrg;clear hq hF hA1 y2 y3 y4 y5 y6 hpk hn hrg
    go_upto_region 8 with((go_at_call 174;(with_reducible refine(H_hpk.out).mono ?_);rintro e w2 ⟨z,t,hz,ht,rfl,hw2,ht2⟩;have H_hw2:=h_ hw2;have H_ht2:=h_ ht2;clear hw2 ht2))
    have hA2:=H_y6.out w2 nx _ (fr1+1) (N+n) H_hw2.out H_ht2.out (Nat.le_refl _)
    have hq2:=hA2.que H_h5.out H_hq.out
    have hzw:=WV.idwf H_y2.out hz
    obtain⟨ht0,ht1⟩:=H_hrg.out.2 z t hz
    have hwx:IntKind.i64.wrap (nx-t)=nx-t:=by rw[IntKind.wrap_i64];omega
    obtain⟨i0,hI,hz0,hz1,hz2⟩:=info_parts Tryz.info_fired
    have hF2:=Vg.Fires.snoc H_hF.out hz ht
    have hs2:=hA2.2.size
    have hs1:=H_hA1.out.2.size
    have hbx:Vg.blk (w2.alloc (.cells #[.int .i64 z,.int .i64 t] 302)) w2.heap.size=some (.cells #[.int .i64 z,.int .i64 t] 302):=Vg.alloc_heap_at rfl
    clear c_y1 f_y1 p_y1 l_y1
    obtain⟨c_hbx,f_hbx,p_hbx,l_hbx,H_hbx⟩:=Vg.lay hbx;clear hbx
    have H_hA2:=h_ hA2;have H_hq2:=h_ hq2;have H_hz:=h_ hz;have H_hF2:=h_ hF2;clear hA2 hq2 hz hF2
    go_upto_region 9 with(at_builtin;(refine Vg.wpList_que1 (w:=_) rfl (.tmp 32) (.tmp 42) 101 rfl w.heap.size 105 i0 (.agg #[.int .i64 0,.int .i64 0,.int .i64 0]) 3 24 Tryz.underlying101 hI hz0 hz1 hz2 rfl (by decide) (.slice a n c) n (Vg.fcells nx l) rfl (H_hq2.out.grows (Vg.gro)) _ 1 [.int .i64 z,.int .i64 t,.int .i64 (nx-t)] rfl rfl (Vg.three_new (by first|rfl|((try simp only[World.size_alloc,Vg.plus_size,Vg.put_size,World.size_setCell,World.size_drew,World.heap_drewN])<;>omega))) (by simp[Value.oneCell']) (by unfold maxLen;omega) (by omega) (by decide) (by simp only[World.size_alloc];omega) ?_);intro v2 W1 y2 m2 hq4 hs4 ho4;obtain⟨a2,c2',rfl⟩:=hq4.shape;have hT4:=((Vg.Touch.of_grows (t:=fun j=>(Value.slice a n c).ownBlock=some j) (Vg.gro:Vg.Grows w2 _)).trans (Vg.Touch.of_same hs4)).trans (Vg.Touch.of_grows ((Vg.Grows.refl _).plus y2 m2));have yb4:=(((Vg.Touch.of_grows (t:=fun j=>(Value.slice a n c).ownBlock=some j) (Vg.gro:Vg.Grows (w2.alloc (.cells #[.int .i64 z,.int .i64 t] 302)) _)).trans (Vg.Touch.of_same hs4)).trans (Vg.Touch.of_grows ((Vg.Grows.refl _).plus y2 m2))).block w2.heap.size (by simp) (fun hh=>by have:=(H_hq2.out.lt _ hh).2;omega);obtain⟨W3,hW3⟩:∃W3,Vg.plus W1 y2 m2=W3:=⟨_,rfl⟩;rw[hW3]at hq4 hT4 yb4 ⊢;clear hW3 hs4 ho4;have H_hq4:=h_ hq4;have H_hT4:=h_ hT4;clear hq4 hT4)
    have yb4:=yb4.trans H_hbx.out
    have yb4:Vg.blk W3 w2.heap.size=some (.cells #[.int .i64 z,.int .i64 t] 302):=yb4
    have hA3:TV W3 tb X nx (fun y=>if y=z then none else V1 y) P1 (fr1+1) (N+n):=H_hA2.out.1.touch H_hT4.out fun k hk hh=>by
     have h8:=(H_hq2.out.lt k hh).1
     have h7:=H_h5.out k hk
     omega
    have hT5:Vg.Touch X w W3:=Vg.Touch.nextW (H_hA1.out.2.trans H_hA2.out.2) H_hT4.out fun k hh=>.inr (H_hq2.out.lt k hh).1
    have hak:=tv_again z t hA3 ⟨ht0,ht1⟩ hzw (by omega)
    clear c_hbx f_hbx p_hbx l_hbx
    obtain⟨c_yb4,f_yb4,p_yb4,l_yb4,H_yb4⟩:=Vg.lay yb4;clear yb4
    have H_hA3:=h_ hA3;have H_hT5:=h_ hT5;have H_hak:=h_ hak;clear hA3 hT5 hak
    go_wp2_with ((go_at_call 175;(with_reducible refine(H_hak.out).mono ?_);rintro e w5 ⟨rfl,fr5,hfr5,hA5⟩;have H_hA5:=h_ hA5;clear hA5))
    have hlen:(l ++ [(z,t)]).length=n+1:=by rw[List.length_append,H_hn.out];rfl
    go_roundg (1024-(n+1))
    case measure=>omega
    case rel=>exact⟨l ++ [(z,t)],a2,c2',_,_,fr5,by rw[hlen],by rw[hlen],by rw[hlen,Vg.fcells_snoc];exact H_hA5.out.que H_h5.out H_hq4.out,by rw[hlen];omega,H_hF2.out,by omega,by rw[hlen];exact⟨H_hA5.out.1,H_hT5.out.trans H_hA5.out.2⟩⟩
   ·have hd2:∀z t,V1 z=some t->nx<t:=fun z t hz=>by
     have:¬t<=nx:=fun h9=>hd ⟨z,t,hz,h9⟩
     omega
    have hpk:=wv_pop_no y2 hd2
    obtain⟨c_y1,f_y1,p_y1,l_y1,H_y1⟩:=Vg.lay y1;clear y1
    have H_hq:=h_ hq;have H_hF:=h_ hF;have H_hA1:=h_ hA1;have H_y2:=h_ y2;have H_y3:=h_ y3;have H_y4:=h_ y4;have H_y5:=h_ y5;have H_y6:=h_ y6;have H_hpk:=h_ hpk;have H_hn:=h_ hn;have H_hd2:=h_ hd2;clear hq hF hA1 y2 y3 y4 y5 y6 hpk hn hd2
    go_wp2_with ((go_at_call 174;(with_reducible refine(H_hpk.out).mono ?_);rintro e w2 ⟨rfl,hg2⟩;have H_hg2:=h_ hg2;clear hg2))
    go_ret2
    refine⟨a,c,l,V1,P1,fr1,by rw[H_hn.out];rfl,?_,H_hF.out,by rw[H_hn.out];exact hl,fun _=>H_hd2.out,hfr,?_⟩
    ·rw[H_hn.out];exact H_hq.out.grows (by have h9:=H_hg2.out;exact(show Vg.Grows _ _ from Vg.gro))
    ·rw[H_hn.out];exact H_hA1.out.grows (by have h9:=H_hg2.out;exact(show Vg.Grows _ _ from Vg.gro))
  ·have hltI:¬(n:Int)<1024:=by omega
   obtain⟨c_y1,f_y1,p_y1,l_y1,H_y1⟩:=Vg.lay y1;clear y1
   have H_hq:=h_ hq;have H_hF:=h_ hF;have H_hA1:=h_ hA1;have H_hn:=h_ hn;clear hq hF hA1 hn
   go_wp2_with fail
   go_ret2
   refine⟨a,c,l,V1,P1,fr1,by rw[H_hn.out];rfl,by rw[H_hn.out];exact H_hq.out,H_hF.out,by rw[H_hn.out];exact hl,fun h9=>by rw[H_hn.out]at h9;exact absurd h9 hlt,hfr,by rw[H_hn.out];exact H_hA1.out⟩
end
end Go.Proofs.YtlkdkgefjipjmaaGreatDoor
namespace Go.Proofs.YtlkdkgefjipjmaaGreatDoor
open Go.ChangeShapes Go.WideShapes Go.ChangeAt Go.RowKit
def TNew(w w':World)(n:Nat)(now:Int)(e:Ending):Prop:=∃tb X,e=.returned (.tuple #[.pointer (some ⟨tb,0,none⟩),.int .i64 0])/\TV w' tb X now (fun _=>none) (fun _=>none) n 0/\(∀k,X k->w.heap.size<=k)/\Vg.Grows w w'
theorem tv_new(now:Int)(n:Nat)(w:World)(h1:0<=now)(h2:now<=4503599627370496)(hn1:1<=n)(hn:n<=4096):
  Calls Tryz.prog 42 #[.int .i64 now,.int .i64 n] w fun e w'=>TNew w w' n now e:=by
 have hmm:=@run_makeMap Tryz.prog
 have hnk:=wv_new now n w h1 h2 hn1 hn
 have H_hnk:=h_ hnk;clear hnk
 go_enter Tryz.func42,Tryz.ntmps42
 go_wp2_with ((go_at_call 79;(with_reducible refine(H_hnk.out).mono ?_);rintro e w1 ⟨b,Xw,rfl,hw,hx,hxb,hg⟩;have H_hw:=h_ hw;have H_hx:=h_ hx;have H_hxb:=h_ hxb;have H_hg:=h_ hg;clear hw hx hxb hg))
 go_ret2
 refine⟨w1.heap.size+1,fun k=>Xw k\/k=w1.heap.size+1\/k=w1.heap.size,rfl,⟨b,w1.heap.size,0,Xw,?_,H_hw.out.grows (Vg.gro),?_,Nat.le_refl _,fun k hk=>.inl hk,.inr (.inl rfl),.inr (.inr rfl),by omega,fun hh=>by have:=(H_hx.out _ hh).2;omega,fun hh=>by have:=(H_hx.out _ hh).2;omega,fun k hk=>?_,fun z p hz=>by simp at hz⟩,fun k hk=>?_,by have h9:=H_hg.out;exact Vg.gro⟩
 ·exact Vg.alloc_heap_at (by simp)
 ·exact(Vg.IMap.made w1 Tryz.prog 3 2).keep (Vg.alloc_heap_past (by simp))
 ·simp only[World.size_alloc]
  rcases hk with hk|rfl|rfl
  ·have:=(H_hx.out _ hk).2;omega
  ·omega
  ·omega
 ·have h9:=H_hg.out.size
  rcases hk with hk|rfl|rfl
  ·exact(H_hx.out _ hk).1
  ·omega
  ·omega
end Go.Proofs.YtlkdkgefjipjmaaGreatDoor
namespace Vg
def low(t:Int):Int:=t%4294967296
def timeB(t:Int):Bool:=decide (0<=t)&&decide (t<=4503599627370496)
def extend(last lo:Int):Int×Int:=
 if !timeB last then(0,1)else
 if !timeB (last+(lo-low last)%4294967296)then(0,6)else(last+(lo-low last)%4294967296,0)
theorem timeB_true{t:Int}:timeB t=true↔0<=t/\t<=4503599627370496:=by simp[timeB]
theorem timeB_false{t:Int}:timeB t=false↔¬(0<=t/\t<=4503599627370496):=by simp[timeB]
theorem low_bd(t:Int):0<=low t/\low t<=4294967295:=by unfold low;omega
end Vg
namespace Go.Proofs.YtlkdkgefjipjmaaGreatDoor
open Go.ChangeShapes Go.WideShapes Go.ChangeAt Go.RowKit
theorem u64_low(t:Int):IntKind.u64.wrap t%4294967296=Vg.low t:=by unfold Vg.low;simp only[IntKind.wrap_u64];omega
theorem low_any(t:Int)(w:World):
  Calls Tryz.prog 17 #[.int .i64 t] w fun e w'=>e=.returned (.int .u32 (Vg.low t))/\w=w':=by
 go_enter Tryz.func17,Tryz.ntmps17
 go_wp2
 go_ret
 exact⟨ret_int (u64_low t),rfl⟩
theorem time_any (t : Int) (w : World) :
  Calls Tryz.prog 206 #[.int .i64 t] w fun e w' => e = .returned (.bool (Vg.timeB t)) /\ w = w' := by
 go_enter Tryz.func206, Tryz.ntmps206
 go_wp2
 all_goals go_ret
 ·exact ⟨ret_bool (by simp [Vg.timeB, *]), rfl⟩
 ·exact ⟨ret_bool (by simp [Vg.timeB]; omega), rfl⟩
theorem extend_any (last lo : Int) (w : World) :
  Calls Tryz.prog 171 #[.int .i64 last, .int .u32 lo] w fun e w' => e = .returned (.tuple #[.int .i64 (Vg.extend last lo).1, .int .i64 (Vg.extend last lo).2]) /\ w = w' := by
 by_cases ht : Vg.timeB last = true
 ·have h := Vg.timeB_true.1 ht
  go_enter Tryz.func171, Tryz.ntmps171
  go_wp2_with (first | (go_at_call 206; refine (time_any _ _).mono ?_; rintro e w' ⟨rfl, rfl⟩) | (go_at_call 17; refine (low_any _ _).mono ?_; rintro e w' ⟨rfl, rfl⟩))
  all_goals go_ret2
  all_goals exact ⟨by simp [Vg.extend, *], rfl⟩
 ·simp only [Bool.not_eq_true] at ht
  go_enter Tryz.func171, Tryz.ntmps171
  go_wp2_with (first | (go_at_call 206; refine (time_any _ _).mono ?_; rintro e w' ⟨rfl, rfl⟩) | (go_at_call 17; refine (low_any _ _).mono ?_; rintro e w' ⟨rfl, rfl⟩))
  go_ret2
  exact ⟨by simp [Vg.extend, *], rfl⟩
end Go.Proofs.YtlkdkgefjipjmaaGreatDoor
