/- ExC, ExD, ExE, ExF (put together). -/
import Derived.Test.YtlkdkgefjipjmaaGreatDoorP29
import Derived.StillTailTactics
import Derived.Test.YtlkdkgefjipjmaaGreatDoorQ0
set_option linter.all false
set_option maxHeartbeats 40000000
set_option maxRecDepth 100000
namespace Vg
open Go
def Xp.rel(A:Ad)(s:Xp)(i:Nat)(c a:Int):Xp:=
 if(Kn.release s.K i (c+A.sw) a).2=0 then{ s with K:=(Kn.release s.K i (c+A.sw) a).1,B:=s.B.set i ⟨(s.B[i]?.getD ⟨0,[],St.zero⟩).co,(s.B[i]?.getD ⟨0,[],St.zero⟩).wh ++ [s.t],(s.B[i]?.getD ⟨0,[],St.zero⟩).st⟩,ms:=s.ms ++ [⟨s.t,1,i,a⟩] }
 else{ s with K:=(Kn.release s.K i (c+A.sw) a).1,ms:=s.ms ++ [⟨s.t,3,i,a⟩] }
end Vg
namespace Go.Proofs.YtlkdkgefjipjmaaGreatDoor
open Go.ChangeShapes Go.WideShapes Go.ChangeAt Go.RowKit
section
variable {w w' w0 w2:World}{xb lo N k N' k':Nat}{A:Vg.Ad}{s s':Vg.Xp}{mv:Value}{ws:List Value}{Bs:List Vg.Bp}{ql:Int}{ow:Nat->Nat}{OB:Nat->Prop}
theorem es_krel(i c a:Int)(h:ES w xb lo A s N k OB)(hk:k<=1000000){K':List Vg.Kt}{r:Int}(hx:Vg.Kn.release s.K i c a=(K',r)):
  Calls Tryz.prog 115 #[.pointer (some ⟨A.kb,0,none⟩),.int .i64 i,.int .i64 c,.int .i64 a] w fun e w'=>e=.returned (.int .i64 r)/\ESn w w' xb lo A { s with K:=K' } N (k+1) OB:=by
 obtain⟨mv,ws,Bs,ql,ow,h1,h2,h3⟩:=h
 refine(kq_release i c a h1.kq h1.ki hk hx).mono ?_
 rintro e w' ⟨rfl,hn⟩
 have hI:=Vg.Kn.Inv.release h1.ki i c a
 rw[hx]at hI
 obtain⟨ow',e1,e2,e3⟩:=h1.kern hn hI
 exact⟨rfl,ESn.of h2 e1 e2 e3⟩
theorem EX.when{i:Nat}{w3:World}{v':Value}{o:Obj}{t:Int}(h:EX w xb lo A s N k mv ws Bs ql ow)(hi:i<s.B.length)(hi':i<ws.length)(ht:Vg.Touch (fun j=>ow j=20+i) w w3)(hq:Vg.Que w3 1 2 1 v' (s.B[i].wh.length+1) (Vg.ics s.B[i].wh ++ [.int .i64 t]))(hv:∀j,v'.ownBlock=some j->ow j=20+i\/w.heap.size<=j)
  (ho:o=.cells (Vg.bkcells ((s.B.zip ws).set i (⟨s.B[i].co,s.B[i].wh ++ [t],s.B[i].st⟩,v'))).toArray 95):
  ∃ow',EX (Vg.put w3 A.gb o) xb lo A { s with B:=s.B.set i ⟨s.B[i].co,s.B[i].wh ++ [t],s.B[i].st⟩ } N k mv (ws.set i v') Bs ql ow'/\(∀j,ow' j≠0->ow j≠0\/w.heap.size<=j)/\Vg.Touch (fun j=>ow j≠0) w (Vg.put w3 A.gb o):=by
 subst ho
 have ht2:Vg.Touch (fun j=>ow j=20+i\/ow j=6) w (Vg.put w3 A.gb (.cells (Vg.bkcells ((s.B.zip ws).set i (⟨s.B[i].co,s.B[i].wh ++ [t],s.B[i].st⟩,v'))).toArray 95)):=(ht.mono fun j _ hj=>.inl hj).put (.inr h.og) _
 obtain⟨ow',e1,e0,e2,g⟩:=h.g (20+i) 6 (S:=fun j=>v'.ownBlock=some j) hv (fun j hj=>by rw[Vg.put_size];exact(hq.lt j hj).2) (by omega) ht2
 have hx8:∀j,v'.ownBlock=some j->j≠A.gb:=fun j hj e=>by
  subst e
  rcases hv _ hj with h9|h9
  ·rw[h.og]at h9;omega
  ·have:=Vg.lt_of h.bk;omega
 have hz:(s.B.set i ⟨s.B[i].co,s.B[i].wh ++ [t],s.B[i].st⟩).zip (ws.set i v')=(s.B.zip ws).set i (⟨s.B[i].co,s.B[i].wh ++ [t],s.B[i].st⟩,v'):=by
  apply List.ext_getElem
  ·simp
  ·intro j h1 h2
   simp only[List.getElem_zip,List.getElem_set]
   split<;>rfl
 refine⟨ow',⟨g.tab (by omega) (by omega),g.sx (by omega) (by omega),g.kq (by omega) (by omega),g.ki,g.qz (by omega) (by omega),g.ql,g.bs (by omega) (by omega),g.bi,?_,?_,fun j hj hj'=>?_,g.mq (by omega) (by omega),g.mo (by omega) (by omega),g.gm (by omega) (by omega),g.tk (by omega) (by omega),g.ox (by omega) (by omega),(e0 6 (by omega) (by omega) _).2 h.og,g.om (by omega) (by omega),g.hw⟩,e2,lab2 (by omega) (by omega) ht2⟩
 ·show Vg.blk _ A.gb=some (.cells (Vg.bkcells ((s.B.set i ⟨s.B[i].co,s.B[i].wh ++ [t],s.B[i].st⟩).zip (ws.set i v'))).toArray _)
  rw[hz]
  exact Vg.blk_put_same (Nat.lt_of_lt_of_le (Vg.lt_of h.bk) ht.size)
 ·show(s.B.set i _).length=_/\(ws.set i _).length=_
  rw[List.length_set,List.length_set];exact g.bl
 ·have hj2:j<s.B.length:=by simpa using hj
  have hj3:j<ws.length:=by simpa using hj'
  show Vg.Que _ _ _ _ (ws.set i v')[j] (s.B.set i ⟨s.B[i].co,s.B[i].wh ++ [t],s.B[i].st⟩)[j].wh.length (Vg.ics (s.B.set i ⟨s.B[i].co,s.B[i].wh ++ [t],s.B[i].st⟩)[j].wh)/\∀q,(ws.set i v')[j].ownBlock=some q->ow' q=20+j
  by_cases hji:i=j
  ·subst hji
   simp only[List.getElem_set_self]
   refine⟨?_,fun q hq=>(e1 q).2 hq⟩
   have e3:Vg.ics (s.B[i].wh ++ [t])=Vg.ics s.B[i].wh ++ [.int .i64 t]:=by simp[Vg.ics]
   rw[e3,List.length_append]
   exact hq.kept fun j hj=>Vg.put_heap_other (Ne.symm (hx8 j hj))
  ·simp only[List.getElem_set_ne hji]
   exact g.wq j hj2 hj3 (by omega) (by omega)
theorem Tryz.info_int64q:(Tryz.prog.info? 2).map (fun i=>(i.zero,i.size,i.bytes))=some (some (.int .i64 0),1,8):=by kernel_rfl
theorem EX.book_at{i:Nat}(h:EX w xb lo A s N k mv ws Bs ql ow)(hi:i<s.B.length):∃(us:List Value)(hi':i<ws.length)(ua:Option Addr)(uc:Nat),Vg.bkcells (s.B.zip ws)=us/\Vg.blk w A.gb=some (.cells us.toArray 95)/\us[i*7]? = some (.int .i64 s.B[i].co)/\us[i*7+1]? = some (.slice ua s.B[i].wh.length uc)/\ws[i]=.slice ua s.B[i].wh.length uc /\
  us[i*7+2]? = some (.int .i64 s.B[i].st.j)/\us[i*7+3]? = some (.int .i64 s.B[i].st.m)/\us[i*7+4]? = some (.int .i64 s.B[i].st.w)/\us[i*7+5]? = some (.int .i64 s.B[i].st.s)/\us[i*7+6]? = some (.int .i64 s.B[i].st.l):=by
 have hi':i<ws.length:=by have:=h.bl;omega
 have hz:i<(s.B.zip ws).length:=by simp;omega
 obtain⟨a0,a1,a2,a3,a4,a5,a6⟩:=Vg.bkcells_get (s.B.zip ws) i hz
 obtain⟨ua,uc,hu⟩:=(h.wq i hi hi').1.shape
 simp only[List.getElem_zip]at a0 a1 a2 a3 a4 a5 a6
 exact⟨_,hi',ua,uc,rfl,h.bk,a0,by rw[<-hu];exact a1,hu,a2,a3,a4,a5,a6⟩
theorem es_release(i:Nat)(c a:Int)(h:ES w xb lo A s N k OB)(hlo:1<=lo)(hk:k<=1000000)(hlen:s.ms.length<65536)(hi:i<s.B.length)(hc:0<=c/\c<=1099511627776)(hsw:0<=A.sw/\A.sw<=1099511627776)(hwh:∀x∈s.B,x.wh.length<=1000000):
  Calls Tryz.prog 64 #[.pointer (some ⟨xb,0,none⟩),.int .i64 i,.int .i64 c,.int .i64 a] w fun e w'=>(∃r,e=.returned (.int .i64 r))/\ESn w w' xb lo A (s.rel A i c a) N (k+1) OB:=by
 obtain⟨i0,hI,hz0,hz1,hz2⟩:=info_parts Tryz.info_int64q
 obtain⟨⟨K',r⟩,hx⟩:∃p,Vg.Kn.release s.K i (c+A.sw) a=p:=⟨_,rfl⟩
 have hwr:IntKind.i64.wrap (c+A.sw)=c+A.sw:=by rw[IntKind.wrap_i64];omega
 have hrk:∀wz,Vg.Grows w wz->Calls Tryz.prog 115 #[.pointer (some ⟨A.kb,0,none⟩),.int .i64 i,.int .i64 (c+A.sw),.int .i64 a] wz fun e w'=>e=.returned (.int .i64 r)/\ESn wz w' xb lo A { s with K:=K' } N (k+1) OB:=fun wz hg=>es_krel i (c+A.sw) a (h.grows hg) hk hx
 obtain⟨ma,mc,h0⟩:=h.tab
 have hBi:(s.B[i]?.getD ⟨0,[],Vg.St.zero⟩)=s.B[i]:=by rw[List.getElem?_eq_getElem hi];rfl
 have hnT:(i:Int)<A.T.length:=by
  obtain⟨mv,ws,Bs,ql,ow,h1,h2,h3⟩:=h
  have:=h1.bl.1;omega
 obtain⟨sw,hswe⟩:∃sw,A.sw=sw:=⟨_,rfl⟩
 have hrel:s.rel A i c a=if r=0 then{ s with K:=K',B:=s.B.set i ⟨s.B[i].co,s.B[i].wh ++ [s.t],s.B[i].st⟩,ms:=s.ms ++ [⟨s.t,1,i,a⟩] } else{ s with K:=K',ms:=s.ms ++ [⟨s.t,3,i,a⟩] }:=by
  unfold Vg.Xp.rel
  rw[hx,hBi]
 rw[hrel]
 obtain⟨nt,hnt⟩:∃nt,A.T.length=nt:=⟨_,rfl⟩
 rw[hswe]at hwr hrk
 simp only[exC]at h0
 rw[hswe,hnt]at h0
 rw[hnt]at hnT
 have hi0:(0:Int)<=i:=by omega
 have hl0:=Vg.lt_of h0
 obtain⟨c_h0,f_h0,p_h0,l_h0,H_h0⟩:=Vg.lay h0;clear h0
 have H_h:=h_ h;have H_hx:=h_ hx;have H_hrk:=h_ hrk;have H_hBi:=h_ hBi;have H_hrel:=h_ hrel;have H_hswe:=h_ hswe;have H_hnt:=h_ hnt;have H_hwh:=h_ hwh;clear h hx hrk hBi hrel hswe hnt hwh
 go_enter Tryz.func64,Tryz.ntmps64
 go_upto_region 1 with fail
 refine wp_region_held_drew (S:=fun w'=>xb<w'.heap.size/\w'.cell? ⟨xb,7,none⟩=some (.pointer (some ⟨A.kb,0,none⟩))/\w'.cell? ⟨xb,2,none⟩=some (.int .i64 sw)) (by kernel_rfl) (by go_split_ands<;>(try dsimp only)<;>go_simp) (fun hHeld=>?_)
 refine tk 0 ?_
 refine tk 1 ?_
 refine tk 2 ?_
 refine tk 3 ?_
 refine tk 4 ?_
 refine tk 5 ?_
 refine tk 6 ?_
 refine tk 7 ?_
 refine tk 8 ?_
 refine tk 9 ?_
 refine tk 10 ?_
 refine tk 11 ?_
 refine tk 12 ?_
 refine wpAnyH_ready (rs:=[13]) (by kernel_rfl) (by simp) ?_
 refine AllReadyH.cons (o:=_) rfl (fun K hK=>?st14) ?mo14
 case st14=>
  go_simp
  ((go_at_call 115;(with_reducible refine(H_hrk.out _ (Vg.gro)).mono ?_);rintro e1 w1 ⟨rfl,OB1,hE1,hO1,ht1⟩;obtain⟨ma1,mc1,x1⟩:=hE1.tab;simp only[exC]at x1;rw[H_hswe.out,H_hnt.out]at x1;clear c_h0 f_h0 p_h0;obtain⟨c_x1,f_x1,p_x1,l_x1,H_x1⟩:=Vg.lay x1;clear x1;have H_hE1:=h_ hE1;have H_hO1:=h_ hO1;have H_ht1:=h_ ht1;clear hE1 hO1 ht1))
  all_goals(try go_wp2_with fail)
  refine hK.out _ _ (by go_split_ands<;>(try dsimp only)<;>go_simp) (fun hHeld14=>?_)
  clear hK K
  refine tk 14 ?_
  refine wpAnyH_done (by kernel_rfl) ?_ _
  have hT1:Vg.Touch OB w w1:=(Vg.Touch.of_grows ((Vg.Grows.refl w).drew)).trans H_ht1.out
  have hO2:∀j,OB1 j->OB j\/w.heap.size<=j:=fun j hj=>(H_hO1.out j hj).imp id fun hh=>by simpa using hh
  by_cases hr:r=0
  ·subst hr
   obtain⟨mv1,ws1,Bs1,ql1,ow1,g1,g2,g3⟩:=H_hE1.out
   obtain⟨us,hi1,ua,uc,hus,hgb,u0,u1,u2,-⟩:=g1.book_at hi
   have hq1:=(g1.wq i hi hi1).1
   have hq1o:=(g1.wq i hi hi1).2
   have hgx:A.gb≠xb:=fun e=>by have h8:=g1.og;rw[e,g1.ox]at h8;omega
   have hfin:∀(w3:World)(v':Value),Vg.Touch (fun j=>ow1 j=20+i) w1 w3->Vg.Que w3 1 2 1 v' (s.B[i].wh.length+1) (Vg.ics s.B[i].wh ++ [.int .i64 s.t])->(∀j,v'.ownBlock=some j->ow1 j=20+i\/w1.heap.size<=j)->ESn w1 (Vg.put w3 A.gb (.cells (us.set (i*7+1) v').toArray 95)) xb lo A { s with K:=K',B:=s.B.set i ⟨s.B[i].co,s.B[i].wh ++ [s.t],s.B[i].st⟩ } N (k+1) OB1:=fun w3 v' q1 q2 q3=>by
    have hz:i<(s.B.zip ws1).length:=by simp;omega
    have e9:=Vg.bkcells_wh (s.B.zip ws1) i hz (s.B[i].wh ++ [s.t]) v'
    simp only[List.getElem_zip]at e9
    rw[hus]at e9
    obtain⟨ow',f1,f2,f3⟩:=g1.when hi hi1 q1 q2 q3 rfl
    have f1':=f1
    rw[e9]
    exact ESn.of g2 f1 f2 f3
   have hm9:=H_hwh.out _ (List.getElem_mem hi)
   obtain⟨m,hm⟩:∃m,s.B[i].wh.length=m:=⟨_,rfl⟩
   rw[u2]at hq1 hq1o
   rw[hm]at hq1 hq1o u1 hfin hm9
   have hq1l:=hq1.lt
   have hlb:=Vg.lt_of hgb
   have ce2:w1.cell? ⟨A.gb,i*7+1,none⟩=some (.slice ua m uc):=by rw[Vg.cells_of hgb];simpa using u1
   have hlo1:1<=w1.heap.size:=by have:=g1.lo_le;omega
   have hgo:=g1.og
   have hub:∀j,(Value.slice ua m uc).ownBlock=some j->j≠A.gb:=fun j hj e=>by
    have:=hq1o j hj;rw[e,hgo]at this;omega
   have hub2:∀j,(Value.slice ua m uc).ownBlock=some j->j≠xb:=fun j hj e=>by
    have:=hq1o j hj;rw[e,g1.ox]at this;omega
   have hnw:=es_now_c (w2:=w1.drew) (H_hE1.out) (Vg.gro)
   simp only at hnw
   obtain⟨gb,hgbe⟩:∃gb,A.gb=gb:=⟨_,rfl⟩
   rw[hgbe]at hgb hlb ce2 hub hfin hgx
   simp only[hgbe]at *
   have H_g1:=h_ g1;have H_g2:=h_ g2;have H_g3:=h_ g3;have H_hus:=h_ hus;have H_hgb:=h_ hgb;have H_u0:=h_ u0;have H_u1:=h_ u1;have H_u2:=h_ u2;have H_hq1:=h_ hq1;have H_hq1o:=h_ hq1o;have H_hq1l:=h_ hq1l;have H_hub:=h_ hub;have H_hub2:=h_ hub2;have H_hfin:=h_ hfin;have H_hm:=h_ hm;have H_hgbe:=h_ hgbe;have H_hnw:=h_ hnw;clear g1 g2 g3 hus hgb u0 u1 u2 hq1 hq1o hq1l hub hub2 hfin hm hgbe hnw
   go_upto_region 6 with fail
   refine wp_region_held_drew (S:=fun w'=>xb<w'.heap.size/\gb<w'.heap.size) (by kernel_rfl) (by go_split_ands<;>(try dsimp only)<;>go_simp) (fun hHeld=>?_)
   refine tk 0 ?_
   refine tk 1 ?_
   refine tk 2 ?_
   refine tk 3 ?_
   refine tk 5 ?_
   refine wpAnyH_ready (rs:=[4,6]) (by kernel_rfl) (by simp) ?_
   refine AllReadyH.cons (o:=_) rfl (fun K hK=>?st21) ?mo21
   case st21=>
    go_simp
    refine hK.out _ _ (by go_split_ands<;>(try dsimp only)<;>go_simp) (fun hHeld21=>?_)
    clear hK K
    refine wpAnyH_ready (rs:=[6]) (by kernel_rfl) (by simp) ?_
    refine AllReadyH.cons (o:=_) rfl (fun K hK=>?st22) ?mo22
    case st22=>
     go_simp
     ((go_at_call 8;(with_reducible refine(H_hnw.out).mono ?_);rintro e2 w2 ⟨rfl,rfl⟩))
     all_goals(try go_wp2_with fail)
     refine hK.out _ _ (by go_split_ands<;>(try dsimp only)<;>go_simp) (fun hHeld22=>?_)
     clear hK K
     refine wpAnyH_ready (rs:=[7]) (by kernel_rfl) (by simp) ?_
     refine AllReadyH.cons (o:=_) rfl (fun K hK=>?st23) ?mo23
     case st23=>
      go_simp
      refine hK.out _ _ (by go_split_ands<;>(try dsimp only)<;>go_simp) (fun hHeld23=>?_)
      clear hK K
      refine wpAnyH_ready (rs:=[8]) (by kernel_rfl) (by simp) ?_
      refine AllReadyH.cons (o:=_) rfl (fun K hK=>?st24) ?mo24
      case st24=>
       refine Vg.step_que1 rfl (.tmp 42) (.tmp 45) 91 rfl 1 2 i0 (.int .i64 0) 1 8 Tryz.underlying91 hI hz0 hz1 hz2 rfl (by decide) (.slice ua m uc) m (Vg.ics s.B[i].wh) (by simp[Act.eval,Act.put]) (H_hq1.out.grows (Vg.gro)) ⟨w1.heap.size,0,none⟩ 1 [.int .i64 s.t] (by simp[Act.eval,Act.put]) rfl (Vg.one_new (by first|rfl|((try simp only[World.size_alloc,Vg.plus_size,Vg.put_size,World.size_setCell,World.size_drew,World.heap_drewN])<;>omega))) (by simp[Value.oneCell']) (by unfold maxLen;omega) (by omega) (by decide) (by simp only[World.size_alloc,World.size_drew];omega) ?_;intro v2 W1 y2' m2 hq2 hs2 ho2;obtain⟨a2,c2,rfl⟩:=hq2.shape;have hT7:=((Vg.Touch.of_grows (t:=fun j=>(Value.slice ua m uc).ownBlock=some j) (Vg.gro:Vg.Grows w1 _)).trans (Vg.Touch.of_same hs2)).trans (Vg.Touch.of_grows ((Vg.Grows.refl _).plus y2' m2));have x7:=(hT7.block xb l_x1 (fun hh=>H_hub2.out _ hh rfl)).trans H_x1.out;have z7:=(hT7.block gb hlb (fun hh=>H_hub.out _ hh rfl)).trans H_hgb.out;obtain⟨W7,hW7⟩:∃W7,Vg.plus W1 y2' m2=W7:=⟨_,rfl⟩;rw[hW7]at hq2 x7 z7 hT7 ⊢;clear hW7 hs2;have hfn:=H_hfin.out W7 (.slice a2 (m+1) c2) (hT7.mono fun j _ hj=>H_hq1o.out j hj) hq2 (fun j hj=>by(rcases ho2 with h9|h9;(exact .inl (H_hq1o.out j (h9.symm.trans hj)));(have h8:=h9.symm.trans hj;simp only[World.size_alloc,World.size_drew,Option.some.injEq]at h8;right;omega)));clear ho2 hq2;have l7:=hT7.size;clear c_x1 f_x1 p_x1;clear ce2;have p7:W7.setCell ⟨gb,i*7+1,none⟩ (.slice a2 (m+1) c2)=Vg.put W7 gb (.cells (us.set (i*7+1) (.slice a2 (m+1) c2)).toArray 95):=(by rw[Vg.setCell_of z7,List.setIfInBounds_toArray]);have c7:W7.cell? ⟨gb,i*7+1,none⟩=some (.slice ua m uc):=(by rw[Vg.cells_of z7];simpa using H_u1.out);have f7:=Vg.frozen_of z7;have l77:=Vg.lt_of z7;obtain⟨c_x7,f_x7,p_x7,l_x7,H_x7⟩:=Vg.lay x7;clear x7;have H_hfn:=h_ hfn;have H_hT7:=h_ hT7;have H_z7:=h_ z7;clear hfn hT7 z7
       refine hK.out _ _ (by go_split_ands<;>(try dsimp only)<;>go_simp) (fun hHeld24=>?_)
       clear hK K
       refine tk 9 ?_
       refine tk 10 ?_
       refine wpAnyH_ready (rs:=[11]) (by kernel_rfl) (by simp) ?_
       refine AllReadyH.cons (o:=_) rfl (fun K hK=>?st27) ?mo27
       case st27=>
        go_simp
        refine hK.out _ _ (by go_split_ands<;>(try dsimp only)<;>go_simp) (fun hHeld27=>?_)
        clear hK K
        refine wpAnyH_done (by kernel_rfl) ?_ _
        obtain⟨OB3,hE3,hO3,ht3⟩:=H_hfn.out
        have hnt9:=es_note 1 i a hE3 hlo hlen
        clear c_x7 f_x7 p_x7
        have H_hE3:=h_ hE3;have H_hO3:=h_ hO3;have H_ht3:=h_ ht3;have H_hnt9:=h_ hnt9;clear hE3 hO3 ht3 hnt9
        go_wp2_with ((go_at_call 67;(with_reducible refine(H_hnt9.out).mono ?_);rintro e4 w4 ⟨rfl,hs4⟩;have H_hs4:=h_ hs4;clear hs4))
        go_ret
        (try rw[if_pos rfl])
        exact⟨⟨_,rfl⟩,ESn.next hO2 hT1 (ESn.next H_hO3.out H_ht3.out H_hs4.out)⟩
       exact AllReadyH.nil
      exact AllReadyH.nil
     exact AllReadyH.nil
    exact AllReadyH.nil
   refine AllReadyH.cons (o:=_) rfl (fun K hK=>?st28) ?mo28
   case st28=>
    go_simp
    ((go_at_call 8;(with_reducible refine(H_hnw.out).mono ?_);rintro e2 w2 ⟨rfl,rfl⟩))
    all_goals(try go_wp2_with fail)
    refine hK.out _ _ (by go_split_ands<;>(try dsimp only)<;>go_simp) (fun hHeld28=>?_)
    clear hK K
    refine wpAnyH_ready (rs:=[4,7]) (by kernel_rfl) (by simp) ?_
    refine AllReadyH.cons (o:=_) rfl (fun K hK=>?st29) ?mo29
    case st29=>
     go_simp
     refine hK.out _ _ (by go_split_ands<;>(try dsimp only)<;>go_simp) (fun hHeld29=>?_)
     clear hK K
     refine wpAnyH_ready (rs:=[7]) (by kernel_rfl) (by simp) ?_
     refine AllReadyH.cons (o:=_) rfl (fun K hK=>?st30) ?mo30
     case st30=>
      go_simp
      refine hK.out _ _ (by go_split_ands<;>(try dsimp only)<;>go_simp) (fun hHeld30=>?_)
      clear hK K
      refine wpAnyH_ready (rs:=[8]) (by kernel_rfl) (by simp) ?_
      refine AllReadyH.cons (o:=_) rfl (fun K hK=>?st31) ?mo31
      case st31=>
       refine Vg.step_que1 rfl (.tmp 42) (.tmp 45) 91 rfl 1 2 i0 (.int .i64 0) 1 8 Tryz.underlying91 hI hz0 hz1 hz2 rfl (by decide) (.slice ua m uc) m (Vg.ics s.B[i].wh) (by simp[Act.eval,Act.put]) (H_hq1.out.grows (Vg.gro)) ⟨w1.heap.size,0,none⟩ 1 [.int .i64 s.t] (by simp[Act.eval,Act.put]) rfl (Vg.one_new (by first|rfl|((try simp only[World.size_alloc,Vg.plus_size,Vg.put_size,World.size_setCell,World.size_drew,World.heap_drewN])<;>omega))) (by simp[Value.oneCell']) (by unfold maxLen;omega) (by omega) (by decide) (by simp only[World.size_alloc,World.size_drew];omega) ?_;intro v2 W1 y2' m2 hq2 hs2 ho2;obtain⟨a2,c2,rfl⟩:=hq2.shape;have hT7:=((Vg.Touch.of_grows (t:=fun j=>(Value.slice ua m uc).ownBlock=some j) (Vg.gro:Vg.Grows w1 _)).trans (Vg.Touch.of_same hs2)).trans (Vg.Touch.of_grows ((Vg.Grows.refl _).plus y2' m2));have x7:=(hT7.block xb l_x1 (fun hh=>H_hub2.out _ hh rfl)).trans H_x1.out;have z7:=(hT7.block gb hlb (fun hh=>H_hub.out _ hh rfl)).trans H_hgb.out;obtain⟨W7,hW7⟩:∃W7,Vg.plus W1 y2' m2=W7:=⟨_,rfl⟩;rw[hW7]at hq2 x7 z7 hT7 ⊢;clear hW7 hs2;have hfn:=H_hfin.out W7 (.slice a2 (m+1) c2) (hT7.mono fun j _ hj=>H_hq1o.out j hj) hq2 (fun j hj=>by(rcases ho2 with h9|h9;(exact .inl (H_hq1o.out j (h9.symm.trans hj)));(have h8:=h9.symm.trans hj;simp only[World.size_alloc,World.size_drew,Option.some.injEq]at h8;right;omega)));clear ho2 hq2;have l7:=hT7.size;clear c_x1 f_x1 p_x1;clear ce2;have p7:W7.setCell ⟨gb,i*7+1,none⟩ (.slice a2 (m+1) c2)=Vg.put W7 gb (.cells (us.set (i*7+1) (.slice a2 (m+1) c2)).toArray 95):=(by rw[Vg.setCell_of z7,List.setIfInBounds_toArray]);have c7:W7.cell? ⟨gb,i*7+1,none⟩=some (.slice ua m uc):=(by rw[Vg.cells_of z7];simpa using H_u1.out);have f7:=Vg.frozen_of z7;have l77:=Vg.lt_of z7;obtain⟨c_x7,f_x7,p_x7,l_x7,H_x7⟩:=Vg.lay x7;clear x7;have H_hfn:=h_ hfn;have H_hT7:=h_ hT7;have H_z7:=h_ z7;clear hfn hT7 z7
       refine hK.out _ _ (by go_split_ands<;>(try dsimp only)<;>go_simp) (fun hHeld31=>?_)
       clear hK K
       refine tk 9 ?_
       refine tk 10 ?_
       refine wpAnyH_ready (rs:=[11]) (by kernel_rfl) (by simp) ?_
       refine AllReadyH.cons (o:=_) rfl (fun K hK=>?st34) ?mo34
       case st34=>
        go_simp
        refine hK.out _ _ (by go_split_ands<;>(try dsimp only)<;>go_simp) (fun hHeld34=>?_)
        clear hK K
        refine wpAnyH_done (by kernel_rfl) ?_ _
        obtain⟨OB3,hE3,hO3,ht3⟩:=H_hfn.out
        have hnt9:=es_note 1 i a hE3 hlo hlen
        clear c_x7 f_x7 p_x7
        have H_hE3:=h_ hE3;have H_hO3:=h_ hO3;have H_ht3:=h_ ht3;have H_hnt9:=h_ hnt9;clear hE3 hO3 ht3 hnt9
        go_wp2_with ((go_at_call 67;(with_reducible refine(H_hnt9.out).mono ?_);rintro e4 w4 ⟨rfl,hs4⟩;have H_hs4:=h_ hs4;clear hs4))
        go_ret
        (try rw[if_pos rfl])
        exact⟨⟨_,rfl⟩,ESn.next hO2 hT1 (ESn.next H_hO3.out H_ht3.out H_hs4.out)⟩
       exact AllReadyH.nil
      exact AllReadyH.nil
     exact AllReadyH.nil
    refine AllReadyH.cons (o:=_) rfl (fun K hK=>?st35) ?mo35
    case st35=>
     go_simp
     refine hK.out _ _ (by go_split_ands<;>(try dsimp only)<;>go_simp) (fun hHeld35=>?_)
     clear hK K
     refine wpAnyH_ready (rs:=[4]) (by kernel_rfl) (by simp) ?_
     refine AllReadyH.cons (o:=_) rfl (fun K hK=>?st36) ?mo36
     case st36=>
      go_simp
      refine hK.out _ _ (by go_split_ands<;>(try dsimp only)<;>go_simp) (fun hHeld36=>?_)
      clear hK K
      refine wpAnyH_ready (rs:=[8]) (by kernel_rfl) (by simp) ?_
      refine AllReadyH.cons (o:=_) rfl (fun K hK=>?st37) ?mo37
      case st37=>
       refine Vg.step_que1 rfl (.tmp 42) (.tmp 45) 91 rfl 1 2 i0 (.int .i64 0) 1 8 Tryz.underlying91 hI hz0 hz1 hz2 rfl (by decide) (.slice ua m uc) m (Vg.ics s.B[i].wh) (by simp[Act.eval,Act.put]) (H_hq1.out.grows (Vg.gro)) ⟨w1.heap.size,0,none⟩ 1 [.int .i64 s.t] (by simp[Act.eval,Act.put]) rfl (Vg.one_new (by first|rfl|((try simp only[World.size_alloc,Vg.plus_size,Vg.put_size,World.size_setCell,World.size_drew,World.heap_drewN])<;>omega))) (by simp[Value.oneCell']) (by unfold maxLen;omega) (by omega) (by decide) (by simp only[World.size_alloc,World.size_drew];omega) ?_;intro v2 W1 y2' m2 hq2 hs2 ho2;obtain⟨a2,c2,rfl⟩:=hq2.shape;have hT7:=((Vg.Touch.of_grows (t:=fun j=>(Value.slice ua m uc).ownBlock=some j) (Vg.gro:Vg.Grows w1 _)).trans (Vg.Touch.of_same hs2)).trans (Vg.Touch.of_grows ((Vg.Grows.refl _).plus y2' m2));have x7:=(hT7.block xb l_x1 (fun hh=>H_hub2.out _ hh rfl)).trans H_x1.out;have z7:=(hT7.block gb hlb (fun hh=>H_hub.out _ hh rfl)).trans H_hgb.out;obtain⟨W7,hW7⟩:∃W7,Vg.plus W1 y2' m2=W7:=⟨_,rfl⟩;rw[hW7]at hq2 x7 z7 hT7 ⊢;clear hW7 hs2;have hfn:=H_hfin.out W7 (.slice a2 (m+1) c2) (hT7.mono fun j _ hj=>H_hq1o.out j hj) hq2 (fun j hj=>by(rcases ho2 with h9|h9;(exact .inl (H_hq1o.out j (h9.symm.trans hj)));(have h8:=h9.symm.trans hj;simp only[World.size_alloc,World.size_drew,Option.some.injEq]at h8;right;omega)));clear ho2 hq2;have l7:=hT7.size;clear c_x1 f_x1 p_x1;clear ce2;have p7:W7.setCell ⟨gb,i*7+1,none⟩ (.slice a2 (m+1) c2)=Vg.put W7 gb (.cells (us.set (i*7+1) (.slice a2 (m+1) c2)).toArray 95):=(by rw[Vg.setCell_of z7,List.setIfInBounds_toArray]);have c7:W7.cell? ⟨gb,i*7+1,none⟩=some (.slice ua m uc):=(by rw[Vg.cells_of z7];simpa using H_u1.out);have f7:=Vg.frozen_of z7;have l77:=Vg.lt_of z7;obtain⟨c_x7,f_x7,p_x7,l_x7,H_x7⟩:=Vg.lay x7;clear x7;have H_hfn:=h_ hfn;have H_hT7:=h_ hT7;have H_z7:=h_ z7;clear hfn hT7 z7
       refine hK.out _ _ (by go_split_ands<;>(try dsimp only)<;>go_simp) (fun hHeld37=>?_)
       clear hK K
       refine tk 9 ?_
       refine tk 10 ?_
       refine wpAnyH_ready (rs:=[11]) (by kernel_rfl) (by simp) ?_
       refine AllReadyH.cons (o:=_) rfl (fun K hK=>?st40) ?mo40
       case st40=>
        go_simp
        refine hK.out _ _ (by go_split_ands<;>(try dsimp only)<;>go_simp) (fun hHeld40=>?_)
        clear hK K
        refine wpAnyH_done (by kernel_rfl) ?_ _
        obtain⟨OB3,hE3,hO3,ht3⟩:=H_hfn.out
        have hnt9:=es_note 1 i a hE3 hlo hlen
        clear c_x7 f_x7 p_x7
        have H_hE3:=h_ hE3;have H_hO3:=h_ hO3;have H_ht3:=h_ ht3;have H_hnt9:=h_ hnt9;clear hE3 hO3 ht3 hnt9
        go_wp2_with ((go_at_call 67;(with_reducible refine(H_hnt9.out).mono ?_);rintro e4 w4 ⟨rfl,hs4⟩;have H_hs4:=h_ hs4;clear hs4))
        go_ret
        (try rw[if_pos rfl])
        exact⟨⟨_,rfl⟩,ESn.next hO2 hT1 (ESn.next H_hO3.out H_ht3.out H_hs4.out)⟩
       exact AllReadyH.nil
      exact AllReadyH.nil
     exact AllReadyH.nil
    exact AllReadyH.nil
   exact AllReadyH.nil
  ·have hr9:(r==0)=false:=by simpa using hr
   have hnt9:=es_note 3 i a H_hE1.out hlo hlen
   have H_hnt9:=h_ hnt9;clear hnt9
   go_wp2_with ((go_at_call 67;(with_reducible refine(H_hnt9.out).mono ?_);rintro e4 w4 ⟨rfl,hs4⟩;have H_hs4:=h_ hs4;clear hs4))
   go_ret
   (try rw[if_neg hr])
   exact⟨⟨_,rfl⟩,ESn.next hO2 hT1 H_hs4.out⟩
 exact AllReadyH.nil
end
end Go.Proofs.YtlkdkgefjipjmaaGreatDoor
namespace Go.Proofs.YtlkdkgefjipjmaaGreatDoor
open Go.ChangeShapes Go.WideShapes Go.ChangeAt Go.RowKit
section
variable {w w' w0 w2:World}{xb lo N k N' k':Nat}{A:Vg.Ad}{s s':Vg.Xp}{mv:Value}{ws:List Value}{Bs:List Vg.Bp}{ql:Int}{ow:Nat->Nat}{OB:Nat->Prop}
theorem es_fires(i:Nat)(a la c:Int)(h:ES w xb lo A s N k OB)(hlo:1<=lo)(hk:k<=1000000)(hlen:s.ms.length<65536)(hi:i<s.B.length)(hi32:i<32)(hcc:s.B[i].co=c)(hc:0<=c/\c<=1099511627776)(hsw:0<=A.sw/\A.sw<=1099511627776)(hwh:∀x∈s.B,x.wh.length<=1000000):
  Calls Tryz.prog 31 #[.pointer (some ⟨xb,0,none⟩),.agg #[.int .i64 i,.int .i64 a,.int .i64 la]] w fun e w'=>e=.returned (.tuple #[])/\ESn w w' xb lo A (s.rel A i c a) N (k+1) OB:=by
 have hrk:∀wz,Vg.Grows w wz->Calls Tryz.prog 64 #[.pointer (some ⟨xb,0,none⟩),.int .i64 i,.int .i64 c,.int .i64 a] wz fun e w'=>(∃r,e=.returned (.int .i64 r))/\ESn wz w' xb lo A (s.rel A i c a) N (k+1) OB:=fun wz hg=>es_release i c a (h.grows hg) hlo hk hlen hi hc hsw hwh
 obtain⟨mv,ws,Bs,ql,ow,h1,h2,h3⟩:=h
 obtain⟨us,hi1,ua,uc,hus,hgb,u0,-⟩:=h1.book_at hi
 have c10:=Vg.cells_of h1.tab 10
 simp at c10
 have hl:=Vg.lt_of h1.tab
 have hlg:=Vg.lt_of hgb
 have hnT:(i:Int)<A.T.length:=by have:=h1.bl.1;omega
 rw[hcc]at u0
 have ce:w.cell? ⟨A.gb,i*7,none⟩=some (.int .i64 c):=by rw[Vg.cells_of hgb];simpa using u0
 obtain⟨gb,hgbe⟩:∃gb,A.gb=gb:=⟨_,rfl⟩
 obtain⟨nt,hnt⟩:∃nt,A.T.length=nt:=⟨_,rfl⟩
 rw[hgbe]at c10 hlg ce
 rw[hnt]at c10 hnT
 have hi0:(0:Int)<=i:=by omega
 have h32:¬(32:Int)<=i:=by omega
 have H_h1:=h_ h1;have H_h2:=h_ h2;have H_h3:=h_ h3;have H_hus:=h_ hus;have H_hgb:=h_ hgb;have H_u0:=h_ u0;have H_hrk:=h_ hrk;have H_hgbe:=h_ hgbe;have H_hnt:=h_ hnt;have H_hwh:=h_ hwh;clear h1 h2 h3 hus hgb u0 hrk hgbe hnt hwh
 go_enter Tryz.func31,Tryz.ntmps31
 go_wp2
 go_region
 all_goals go_wp2_with ((go_at_call 64;(with_reducible refine(H_hrk.out _ (Vg.gro)).mono ?_);rintro e1 w1 ⟨⟨r,rfl⟩,hs1⟩;have H_hs1:=h_ hs1;clear hs1))
 all_goals(first|go_end0|go_returns|refine bodyPost_ret (results_none rfl _ _ _) rfl ?_)
 all_goals exact⟨rfl,ESn.pre (Vg.gro) H_hs1.out⟩
end
end Go.Proofs.YtlkdkgefjipjmaaGreatDoor
namespace Vg
open Go
theorem Bo.refill_len(Bs:List Bp)(now:Int):(Bo.refill Bs now).1.length=Bs.length:=by
 unfold Bo.refill
 split<;>simp
theorem Bo.Inv.refill{k:Nat}{Bs:List Bp}{Q:List Wq}(h:Bo.Inv k Bs Q)(now:Int):Bo.Inv k (Bo.refill Bs now).1 Q:=by
 refine⟨fun x hx=>?_,h.wk,?_⟩
 ·unfold Bo.refill at hx
  split at hx
  ·obtain⟨y,hy,rfl⟩:=List.mem_map.1 hx
   obtain⟨a1,a2,a3,a4⟩:=h.each y hy
   exact⟨a1,a2,a3,Srv.refill_inv now a4⟩
  ·exact h.each x hx
 ·rw[Bo.refill_len]
  rcases h.len with h1|h1
  ·left;subst h1;unfold Bo.refill;split<;>rfl
  ·exact .inr h1
def Idle(Q:List Wq):Prop:=∀q∈Q,q.L=[]
theorem Idle.waiting{Q:List Wq}(h:Idle Q)(n:Int):Wk.waiting Q n=0:=by
 unfold Wk.waiting
 split
 ·rfl
 ·cases hq:Q[n.toNat]? with
  | none=>rfl
  | some q=>show(q.L.length:Int)=0;rw[h q (List.mem_of_getElem? hq)];rfl
theorem Idle.best{Q:List Wq}(h:Idle Q)(Bs:List Bp):Bo.best Bs Q=-1:=by
 have h1:∀k,Bo.ableK Bs Q k=false:=fun k=>by
  unfold Bo.ableK
  cases Bs[k]? with
  | none=>rfl
  | some x=>simp[h.waiting]
 have h2:∀k,Bo.ables Bs Q k=[]:=fun k=>by unfold Bo.ables;simp[h1]
 unfold Bo.best
 rw[h2];rfl
theorem Idle.next{Q:List Wq}(h:Idle Q)(Bs:List Bp):Bo.next Bs Q=(0,false):=by
 have h1:∀k,Bo.cand Bs Q k=none:=fun k=>by
  unfold Bo.cand
  cases Bs[k]? with
  | none=>rfl
  | some x=>simp[h.waiting]
 have h2:∀k,Bo.nextK Bs Q k=(0,false):=fun k=>by
  induction k with
  | zero=>rfl
  | succ k ih=>show Bo.least (Bo.cand Bs Q k) _=_;rw[h1,ih];rfl
 exact h2 _
def Xp.run(s:Xp):Int×Int:=if 0<=Kn.best s.K s.M then(1,Kn.best s.K s.M)else(0,0)
def Xp.settle(s:Xp):Xp:=if s.run=(s.rk,s.rn)then s else{ s with rk:=s.run.1,rn:=s.run.2,ms:=s.ms ++ [⟨s.t,11,s.run.2,s.run.1⟩] }
end Vg
namespace Go.Proofs.YtlkdkgefjipjmaaGreatDoor
open Go.ChangeShapes Go.WideShapes Go.ChangeAt Go.RowKit
section
variable {w w' w0 w2:World}{xb lo N k N' k':Nat}{A:Vg.Ad}{s s':Vg.Xp}{mv:Value}{ws:List Value}{Bs:List Vg.Bp}{ql:Int}{ow:Nat->Nat}{OB:Nat->Prop}
theorem es_active(h:ES w xb lo A s N k OB):Calls Tryz.prog 126 #[.pointer (some ⟨A.qb,0,none⟩)] w fun e w'=>e=.returned (.tuple #[.int .i64 0,.bool false])/\w=w':=by
 obtain⟨mv,ws,Bs,ql,ow,h1,h2,h3⟩:=h
 exact qz_active h1.qz
theorem es_kpick(h:ES w xb lo A s N k OB){r m:Int}{is:Bool}(hr:Vg.Kn.best s.K s.M=r)(hm:max r 0=m)(his:decide (0<=r)=is):
  Calls Tryz.prog 102 #[.pointer (some ⟨A.kb,0,none⟩)] w fun e w'=>e=.returned (.tuple #[.int .i64 m,.bool is])/\Vg.Grows w w':=by
 obtain⟨mv,ws,Bs,ql,ow,h1,h2,h3⟩:=h
 exact kq_pick h1.kq hr hm his
theorem es_bpick(h:ES w xb lo A s N k OB)(hQ:Vg.Idle A.Q):Calls Tryz.prog 127 #[.pointer (some ⟨A.tb,0,none⟩)] w fun e w'=>e=.returned (.tuple #[.int .i64 0,.bool false])/\Vg.Grows w w':=by
 obtain⟨mv,ws,Bs,ql,ow,h1,h2,h3⟩:=h
 exact bs_pick h1.bs (hQ.best Bs) (by decide) (by decide)
theorem es_runs(h:ES w xb lo A s N k OB)(hQ:Vg.Idle A.Q){a b:Int}(hr:s.run=(a,b)):
  Calls Tryz.prog 70 #[.pointer (some ⟨xb,0,none⟩)] w fun e w'=>e=.returned (.agg #[.int .u8 a,.int .i64 b])/\Vg.Grows w w':=by
 have hak:=fun wz (hg:Vg.Grows w wz)=>es_active (h.grows hg)
 have hbk:=fun wz (hg:Vg.Grows w wz)=>es_bpick (h.grows hg) hQ
 obtain⟨r,hbe⟩:∃r,Vg.Kn.best s.K s.M=r:=⟨_,rfl⟩
 obtain⟨ma,mc,x0⟩:=h.tab
 have hrk:=fun wz (hg:Vg.Grows w wz)=>es_kpick (h.grows hg) hbe rfl rfl
 unfold Vg.Xp.run at hr
 rw[hbe]at hr
 simp only[exC]at x0
 by_cases h0:0<=r
 ·rw[if_pos h0]at hr
  simp only[Prod.mk.injEq]at hr
  obtain⟨rfl,rfl⟩:=hr
  have hm:max r 0=r:=by omega
  have hd:decide (0<=r)=true:=by simp[h0]
  rw[hm,hd]at hrk
  obtain⟨c_x0,f_x0,p_x0,l_x0,H_x0⟩:=Vg.lay x0;clear x0
  have H_h:=h_ h;have H_hak:=h_ hak;have H_hbk:=h_ hbk;have H_hrk:=h_ hrk;have H_hbe:=h_ hbe;clear h hak hbk hrk hbe
  go_enter Tryz.func70,Tryz.ntmps70
  go_upto_region 6 with(first|(go_at_call 126;(with_reducible refine(H_hak.out _ (Vg.gro)).mono ?_);rintro e1 w1 ⟨rfl,rfl⟩)|(go_at_call 102;(with_reducible refine(H_hrk.out _ (Vg.gro)).mono ?_);rintro e1 w1 ⟨rfl,hg1⟩;obtain⟨x1,n1,rfl⟩:=hg1)|(go_at_call 127;(with_reducible refine(H_hbk.out _ (Vg.gro)).mono ?_);rintro e1 w1 ⟨rfl,hg2⟩;obtain⟨x2,n2,rfl⟩:=hg2))
  refine wp_region_held_drew (S:=fun w'=>xb<w'.heap.size) (by kernel_rfl) (by go_split_ands<;>(try dsimp only)<;>go_simp) (fun hHeld=>?_)
  refine tk 0 ?_
  refine tk 1 ?_
  refine tk 2 ?_
  refine tk 3 ?_
  refine tk 4 ?_
  refine tkn 5 ?_
  refine tkn 6 ?_
  refine tkn 7 ?_
  refine tkn 8 ?_
  refine tkn 9 ?_
  refine tkn 10 ?_
  refine tkn 11 ?_
  refine tkn 12 ?_
  refine tkn 13 ?_
  refine tkn 14 ?_
  refine tkn 15 ?_
  refine tkn 16 ?_
  refine tkn 17 ?_
  refine tkn 18 ?_
  refine tkn 19 ?_
  refine tkn 20 ?_
  refine tk 21 ?_
  refine tk 22 ?_
  (try simp only[List.getElem_toArray,List.getElem_cons_succ,List.getElem_cons_zero,Act.put,List.setIfInBounds_toArray,List.set_cons_zero,List.set_cons_succ])
  refine wpAnyH_done (by kernel_rfl) ?_ _
  go_wp2_with fail
  go_returns
  exact⟨rfl,Vg.gro⟩
 ·rw[if_neg h0]at hr
  simp only[Prod.mk.injEq]at hr
  obtain⟨rfl,rfl⟩:=hr
  have hm:max r 0=0:=by omega
  have hd:decide (0<=r)=false:=by simp[h0]
  rw[hm,hd]at hrk
  obtain⟨c_x0,f_x0,p_x0,l_x0,H_x0⟩:=Vg.lay x0;clear x0
  have H_h:=h_ h;have H_hak:=h_ hak;have H_hbk:=h_ hbk;have H_hrk:=h_ hrk;have H_hbe:=h_ hbe;clear h hak hbk hrk hbe
  go_enter Tryz.func70,Tryz.ntmps70
  go_upto_region 6 with(first|(go_at_call 126;(with_reducible refine(H_hak.out _ (Vg.gro)).mono ?_);rintro e1 w1 ⟨rfl,rfl⟩)|(go_at_call 102;(with_reducible refine(H_hrk.out _ (Vg.gro)).mono ?_);rintro e1 w1 ⟨rfl,hg1⟩;obtain⟨x1,n1,rfl⟩:=hg1)|(go_at_call 127;(with_reducible refine(H_hbk.out _ (Vg.gro)).mono ?_);rintro e1 w1 ⟨rfl,hg2⟩;obtain⟨x2,n2,rfl⟩:=hg2))
  refine wp_region_held_drew (S:=fun w'=>xb<w'.heap.size) (by kernel_rfl) (by go_split_ands<;>(try dsimp only)<;>go_simp) (fun hHeld=>?_)
  refine tk 0 ?_
  refine tk 1 ?_
  refine tkn 2 ?_
  refine tk 3 ?_
  refine tk 4 ?_
  refine tkn 5 ?_
  refine tkn 6 ?_
  refine tkn 7 ?_
  refine tkn 8 ?_
  refine tkn 9 ?_
  refine tkn 10 ?_
  refine tkn 11 ?_
  refine tkn 12 ?_
  refine tkn 13 ?_
  refine tkn 14 ?_
  refine tkn 15 ?_
  refine tkn 16 ?_
  refine tkn 17 ?_
  refine tkn 18 ?_
  refine tkn 19 ?_
  refine tkn 20 ?_
  refine tk 21 ?_
  refine tk 22 ?_
  (try simp only[List.getElem_toArray,List.getElem_cons_succ,List.getElem_cons_zero,Act.put,List.setIfInBounds_toArray,List.set_cons_zero,List.set_cons_succ])
  refine wpAnyH_done (by kernel_rfl) ?_ _
  go_wp2_with fail
  go_returns
  exact⟨rfl,Vg.gro⟩
end
end Go.Proofs.YtlkdkgefjipjmaaGreatDoor
namespace Go.Proofs.YtlkdkgefjipjmaaGreatDoor
open Go.ChangeShapes Go.WideShapes Go.ChangeAt Go.RowKit
section
variable {w w' w0 w2 w3:World}{xb lo N k N' k':Nat}{A:Vg.Ad}{s s':Vg.Xp}{mv:Value}{ws:List Value}{Bs:List Vg.Bp}{ql:Int}{ow:Nat->Nat}{OB:Nat->Prop}
theorem ES.masks(h:ES w xb lo A s N k OB):Vg.blk w A.gm=some (.cells (List.replicate A.nl (Value.bool false)).toArray 4)/\A.gm≠xb/\ESn w (Vg.put w A.gm (.cells (List.replicate A.nl (Value.bool false)).toArray 4)) xb lo A s N k OB:=by
 obtain⟨mv,ws,Bs,ql,ow,h,h2,h3⟩:=h
 have hne:A.gm≠xb:=fun e=>by have:=h.om;rw[e,h.ox]at this;omega
 have ht:Vg.Touch (fun j=>ow j=9) w (Vg.put w A.gm (.cells (List.replicate A.nl (Value.bool false)).toArray 4)):=Vg.Touch.put (t:=fun j=>ow j=9) (Vg.Touch.refl _ w) h.om _
 have g:=h.g0 9 9 (two ht)
 exact⟨h.gm,hne,ESn.of h2 (⟨g.tab (by omega) (by omega),g.sx (by omega) (by omega),g.kq (by omega) (by omega),g.ki,g.qz (by omega) (by omega),g.ql,g.bs (by omega) (by omega),g.bi,g.bk (by omega) (by omega),g.bl,fun i hi hi'=>g.wq i hi hi' (by omega) (by omega),g.mq (by omega) (by omega),g.mo (by omega) (by omega),Vg.blk_put_same (Vg.lt_of h.gm),g.tk (by omega) (by omega),g.ox (by omega) (by omega),g.og (by omega) (by omega),h.om,g.hw⟩:EX _ xb lo A s N k mv ws Bs ql ow) (fun j hj=>.inl hj) (lab (by omega) ht)⟩
theorem es_masked(i:Nat)(h:ES w xb lo A s N k OB)(hi:i<A.nl):Calls Tryz.prog 125 #[.pointer (some ⟨A.qb,0,none⟩),.int .i64 i] w fun e w'=>e=.returned (.bool false)/\w=w':=by
 obtain⟨mv,ws,Bs,ql,ow,h1,h2,h3⟩:=h
 exact qz_masked i h1.qz hi
theorem es_mask(h:ES w xb lo A s N k OB)(hnl:A.nl<=64):
  Calls Tryz.prog 69 #[.pointer (some ⟨xb,0,none⟩)] w fun e w'=>e=.returned (.tuple #[])/\ESn w w' xb lo A s N k OB:=by
 obtain⟨ma,mc,x0⟩:=h.tab
 simp only[exC]at x0
 obtain⟨nl,hnle⟩:∃nl,A.nl=nl:=⟨_,rfl⟩
 rw[hnle]at hnl x0
 obtain⟨c_x0,f_x0,p_x0,l_x0,H_x0⟩:=Vg.lay x0;clear x0
 have H_h:=h_ h;have H_hnle:=h_ hnle;clear h hnle
 go_enter Tryz.func69,Tryz.ntmps69
 go_wp2
 go_loopw [9] (fun i wr=>∃j:Nat,j<=nl/\i=.int .i64 j/\ESn w wr xb lo A s N k OB) (fun i _=>nl-(intOf i).toNat)
 case atStart=>exact⟨0,by omega,rfl,ESn.refl H_h.out⟩
 case round=>
  obtain⟨j,hj,rfl,hS⟩:=hrel
  clear c_x0 f_x0 p_x0 l_x0
  by_cases hlt:j<nl
  ·obtain⟨OB1,hE,hO,ht⟩:=id hS
   obtain⟨ma1,mc1,x1⟩:=hE.tab
   obtain⟨xm,hne,hput⟩:=hE.masks
   have hmk:=es_masked j hE (by rw[H_hnle.out];exact hlt)
   simp only[exC]at x1
   rw[H_hnle.out]at x1 xm hput
   have hjI:(j:Int)<nl:=by omega
   have hj0:(0:Int)<=j:=by omega
   have hset:(List.replicate nl (Value.bool false)).set j (Value.bool false)=List.replicate nl (Value.bool false):=List.set_replicate_self ..
   have cm:wr.cell? ⟨A.gm,j,none⟩=some (.bool false):=by rw[Vg.cells_of xm];simp[hlt]
   have fm:=Vg.frozen_of xm
   have lm:=Vg.lt_of xm
   have pm:wr.setCell ⟨A.gm,j,none⟩ (.bool false)=Vg.put wr A.gm (.cells (List.replicate nl (Value.bool false)).toArray 4):=by rw[Vg.setCell_of xm,List.setIfInBounds_toArray,hset]
   have hne2:xb≠A.gm:=Ne.symm hne
   obtain⟨gm,hgme⟩:∃gm,A.gm=gm:=⟨_,rfl⟩
   simp only[hgme]at x1 xm hput cm fm lm pm hne hne2
   obtain⟨c_x1,f_x1,p_x1,l_x1,H_x1⟩:=Vg.lay x1;clear x1
   have H_hS:=h_ hS;have H_hE:=h_ hE;have H_hO:=h_ hO;have H_ht:=h_ ht;have H_xm:=h_ xm;have H_hput:=h_ hput;have H_hmk:=h_ hmk;have H_hset:=h_ hset;have H_hgme:=h_ hgme;clear hS hE hO ht xm hput hmk hset hgme
   go_wp2_with ((go_at_call 125;(with_reducible refine(H_hmk.out).mono ?_);rintro e1 w1 ⟨rfl,rfl⟩))
   go_roundw
   case rel=>exact⟨j+1,by omega,by go_num,ESn.next H_hO.out H_ht.out H_hput.out⟩
   case measure=>simp[intOf];omega
  ·have hje:j=nl:=by omega
   subst hje
   have H_hS:=h_ hS;clear hS
   go_wp2
   (first|go_end0|go_returns|refine bodyPost_ret (results_none rfl _ _ _) rfl ?_)
   exact⟨rfl,H_hS.out⟩
end
end Go.Proofs.YtlkdkgefjipjmaaGreatDoor
