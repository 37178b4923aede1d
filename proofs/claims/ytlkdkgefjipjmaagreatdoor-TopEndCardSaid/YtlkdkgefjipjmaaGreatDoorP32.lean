/- ExJ, ExK, ExL (put together). -/
import Derived.Test.YtlkdkgefjipjmaaGreatDoorP31
import Derived.Test.YtlkdkgefjipjmaaGreatDoorQ0
set_option linter.all false
set_option maxHeartbeats 40000000
set_option maxRecDepth 100000
namespace Vg
open Go
def bk0:Bk:=⟨0,[],St.zero⟩
def Xp.fin(A:Ad)(s:Xp)(t:Int)(i:Nat)(a:Int):Xp:=
 { s with B:=s.B.set i ⟨(s.B[i]?.getD bk0).co,(s.B[i]?.getD bk0).wh.tail,((s.B[i]?.getD bk0).st.add ⟨i,a,(s.B[i]?.getD bk0).wh.headD 0,t,((A.T[i]?.map (·.dl)).getD 0)⟩).1⟩,ms:=s.ms ++ [⟨t,2,i,t-a⟩] }
end Vg
namespace Go.Proofs.YtlkdkgefjipjmaaGreatDoor
open Go.ChangeShapes Go.WideShapes Go.ChangeAt Go.RowKit
section
variable {w w' w0 w2 w3:World}{xb lo N k N' k':Nat}{A:Vg.Ad}{s s':Vg.Xp}{mv:Value}{ws:List Value}{Bs:List Vg.Bp}{ql:Int}{ow:Nat->Nat}{OB:Nat->Prop}
theorem EX.setw{i:Nat}{v':Value}{o:Obj}{wh':List Int}(h:EX w xb lo A s N k mv ws Bs ql ow)(hi:i<s.B.length)(hi':i<ws.length)(hq:Vg.Que w 1 2 1 v' wh'.length (Vg.ics wh'))(hv:∀j,v'.ownBlock=some j->ow j=20+i)
  (ho:o=.cells (Vg.bkcells ((s.B.zip ws).set i (⟨s.B[i].co,wh',s.B[i].st⟩,v'))).toArray 95):
  EX (Vg.put w A.gb o) xb lo A { s with B:=s.B.set i ⟨s.B[i].co,wh',s.B[i].st⟩ } N k mv (ws.set i v') Bs ql ow/\Vg.Touch (fun j=>ow j≠0) w (Vg.put w A.gb o):=by
 subst ho
 have ht:Vg.Touch (fun j=>ow j=6) w (Vg.put w A.gb (.cells (Vg.bkcells ((s.B.zip ws).set i (⟨s.B[i].co,wh',s.B[i].st⟩,v'))).toArray 95)):=Vg.Touch.put (t:=fun j=>ow j=6) (Vg.Touch.refl _ w) h.og _
 have g:=h.g0 6 6 (two ht)
 have hx8:∀j,v'.ownBlock=some j->j≠A.gb:=fun j hj e=>by have:=hv j hj;rw[e,h.og]at this;omega
 have hz:(s.B.set i ⟨s.B[i].co,wh',s.B[i].st⟩).zip (ws.set i v')=(s.B.zip ws).set i (⟨s.B[i].co,wh',s.B[i].st⟩,v'):=by
  apply List.ext_getElem
  ·simp
  ·intro j h1 h2
   simp only[List.getElem_zip,List.getElem_set]
   split<;>rfl
 refine⟨⟨g.tab (by omega) (by omega),g.sx (by omega) (by omega),g.kq (by omega) (by omega),g.ki,g.qz (by omega) (by omega),g.ql,g.bs (by omega) (by omega),g.bi,?_,?_,fun j hj hj'=>?_,g.mq (by omega) (by omega),g.mo (by omega) (by omega),g.gm (by omega) (by omega),g.tk (by omega) (by omega),g.ox (by omega) (by omega),h.og,g.om (by omega) (by omega),g.hw⟩,lab (by omega) ht⟩
 ·show Vg.blk _ A.gb=some (.cells (Vg.bkcells ((s.B.set i ⟨s.B[i].co,wh',s.B[i].st⟩).zip (ws.set i v'))).toArray _)
  rw[hz]
  exact Vg.blk_put_same (Vg.lt_of h.bk)
 ·show(s.B.set i _).length=_/\(ws.set i _).length=_
  rw[List.length_set,List.length_set];exact g.bl
 ·have hj2:j<s.B.length:=by simpa using hj
  have hj3:j<ws.length:=by simpa using hj'
  show Vg.Que _ _ _ _ (ws.set i v')[j] (s.B.set i ⟨s.B[i].co,wh',s.B[i].st⟩)[j].wh.length (Vg.ics (s.B.set i ⟨s.B[i].co,wh',s.B[i].st⟩)[j].wh)/\∀q,(ws.set i v')[j].ownBlock=some q->ow q=20+j
  by_cases hji:i=j
  ·subst hji
   simp only[List.getElem_set_self]
   exact⟨hq.kept fun j hj=>Vg.put_heap_other (Ne.symm (hx8 j hj)),hv⟩
  ·simp only[List.getElem_set_ne hji]
   exact g.wq j hj2 hj3 (by omega) (by omega)
theorem es_done (i:Nat) (t co a:Int) (h:ES w xb lo A s N k OB) (hlo:1<=lo) (hlen:s.ms.length<65536) (hi:i<s.B.length) (hne:s.B[i].wh ≠ []) (hta:IntKind.i64.wrap (t-a)=t-a) :
  Calls Tryz.prog 60 #[.pointer (some ⟨xb,0,none⟩),.int .i64 t,.agg #[.int .i64 i,.int .i64 co,.int .i64 a]] w fun e w'=>e=.returned (.tuple #[])/\ESn w w' xb lo A (s.fin A t i a) N k OB:=by
 have h00:=h
 obtain⟨mv,ws,Bs,ql,ow,h1,h2,h3⟩:=h
 obtain⟨us,hi1,ua,uc,hus,hgb,u0,u1,u2,-⟩:=h1.book_at hi
 have hbl:=h1.bl
 have hq:=(h1.wq i hi hi1).1
 have hqo:=(h1.wq i hi hi1).2
 obtain⟨ma,mc,x0⟩:=h00.tab
 obtain⟨ta,tc,htv,htk,hto⟩:=h1.tk
 have hiT:i<A.T.length:=by omega
 obtain⟨tg,toff,rfl,htg,htc⟩:=htk.2.2 i hiT
 have htcl:=htk.1
 have htcm:tc<=9223372036854775807:=htk.2.1
 have ct:=htc 4 (by omega)
 simp only[Vg.tkcell]at ct
 obtain⟨hd,tl,hwh⟩:∃hd tl,s.B[i].wh=hd :: tl:=by
  cases hh:s.B[i].wh with
  | nil=>exact absurd hh hne
  | cons a l=>exact⟨a,l,rfl⟩
 rw[u2,hwh]at hq hqo
 rw[hwh]at u1
 simp only[List.length_cons]at hq hqo u1
 obtain⟨g,o,c,hsl,hg1,hg2,hc1,hc2,cg⟩:=hq.head
 simp only[Value.slice.injEq]at hsl
 obtain⟨rfl,_,rfl⟩:=hsl
 have hBi:(s.B[i]?.getD Vg.bk0)=s.B[i]:=by rw[List.getElem?_eq_getElem hi];rfl
 have hTi:((A.T[i]?.map (·.dl)).getD 0)=A.T[i].dl:=by rw[List.getElem?_eq_getElem hiT];rfl
 obtain⟨dl,hdl⟩:∃dl,A.T[i].dl=dl:=⟨_,rfl⟩
 obtain⟨nt,hnt⟩:∃nt,A.T.length=nt:=⟨_,rfl⟩
 obtain⟨gb,hgbe⟩:∃gb,A.gb=gb:=⟨_,rfl⟩
 obtain⟨m,hm⟩:∃m,tl.length=m:=⟨_,rfl⟩
 rw[hdl]at ct
 simp only[exC]at x0
 rw[htv,hnt,hgbe]at x0
 rw[hgbe]at hgb
 rw[hm]at hq hqo u1 hc1
 have hs1:s.fin A t i a={ s with B:=s.B.set i ⟨s.B[i].co,tl,(s.B[i].st.add ⟨i,a,hd,t,dl⟩).1⟩,ms:=s.ms ++ [⟨t,2,i,t-a⟩] }:=by
  unfold Vg.Xp.fin
  rw[hBi,hTi,hdl,hwh];rfl
 have hlg:=Vg.lt_of hgb
 have hI0:(0:Int)<=i:=by omega
 have hI1:(i:Int)<nt:=by omega
 have cw:w.cell? ⟨gb,i*7+1,none⟩=some (.slice (some ⟨g,o,none⟩) (m+1) uc):=by rw[Vg.cells_of hgb];simpa using u1
 have pw:∀v,w.setCell ⟨gb,i*7+1,none⟩ v=Vg.put w gb (.cells (us.set (i*7+1) v).toArray 95):=fun v=>by rw[Vg.setCell_of hgb,List.setIfInBounds_toArray]
 have fw:=Vg.frozen_of hgb
 obtain⟨s1,hs1e⟩:∃s1,({ s with B:=s.B.set i ⟨s.B[i].co,tl,s.B[i].st⟩ }:Vg.Xp)=s1:=⟨_,rfl⟩
 have hfin1:∀v',Vg.Que w 1 2 1 v' m (Vg.ics tl)->(∀j,v'.ownBlock=some j->ow j=20+i)->ESn w (Vg.put w gb (.cells (us.set (i*7+1) v').toArray 95)) xb lo A s1 N k OB:=fun v' q1 q2=>by
  have hz:i<(s.B.zip ws).length:=by simp;omega
  have e9:=Vg.bkcells_wh (s.B.zip ws) i hz tl v'
  simp only[List.getElem_zip]at e9
  rw[hus]at e9
  obtain⟨f1,f3⟩:=h1.setw (wh':=tl) hi hi1 (by rw[hm];exact q1) q2 rfl
  rw[<-e9]at f1 f3
  rw[<-hgbe,e9,<-hs1e]
  rw[e9]at f1 f3
  exact ESn.of h2 f1 (fun j hj=>.inl hj) f3
 have hqt1:uc=1->Vg.Que w 1 2 1 (.slice (some ⟨g,o,none⟩) m 0) m (Vg.ics tl):=fun e=>by subst e;exact hq.tail1
 have hqt2:=hq.tail
 have hqt2:Vg.Que w 1 2 1 (.slice (some ⟨g,o+1,none⟩) m (uc-1)) m (Vg.ics tl):=hqt2
 have hlx:=Vg.lt_of x0
 obtain⟨c_x0,f_x0,p_x0,l_x0,H_x0⟩:=Vg.lay x0;clear x0
 have H_h00:=h_ h00;have H_h1:=h_ h1;have H_h2:=h_ h2;have H_h3:=h_ h3;have H_hus:=h_ hus;have H_hgb:=h_ hgb;have H_u0:=h_ u0;have H_u1:=h_ u1;have H_u2:=h_ u2;have H_hq:=h_ hq;have H_hqo:=h_ hqo;have H_htk:=h_ htk;have H_htv:=h_ htv;have H_htc:=h_ htc;have H_hto:=h_ hto;have H_hwh:=h_ hwh;have H_hBi:=h_ hBi;have H_hTi:=h_ hTi;have H_hdl:=h_ hdl;have H_hnt:=h_ hnt;have H_hgbe:=h_ hgbe;have H_hm:=h_ hm;have H_hs1:=h_ hs1;have H_hs1e:=h_ hs1e;have H_hfin1:=h_ hfin1;have H_hqt1:=h_ hqt1;have H_hqt2:=h_ hqt2;clear h00 h1 h2 h3 hus hgb u0 u1 u2 hq hqo htk htv htc hto hwh hBi hTi hdl hnt hgbe hm hs1 hs1e hfin1 hqt1 hqt2
 go_enter Tryz.func60,Tryz.ntmps60
 go_upto_region 1 with fail
 refine wp_region_held_drew (S:=fun w'=>xb<w'.heap.size/\w.heap.size<w'.heap.size/\w'.cell? ⟨w.heap.size,0,none⟩=some (.int .i64 i)/\w'.cell? ⟨xb,10,none⟩=some (.slice (some ⟨gb,0,none⟩) nt nt)) (by kernel_rfl) (by go_split_ands <;> (try dsimp only) <;> go_simp) (fun hHeld=>?_)
 refine tk 0 ?_
 refine tk 1 ?_
 refine tk 2 ?_
 refine tk 3 ?_
 refine tk 4 ?_
 refine tk 5 ?_
 refine tk 6 ?_
 refine tk 7 ?_
 refine wpAnyH_done (by kernel_rfl) ?_ _
 go_upto_region 2 with fail
 refine wp_region_held_drew (S:=fun w'=>xb<w'.heap.size/\w.heap.size<w'.heap.size/\w'.cell? ⟨w.heap.size,0,none⟩=some (.int .i64 i)/\w'.cell? ⟨w.heap.size,2,none⟩=some (.int .i64 a)/\w'.cell? ⟨gb,i*7+1,none⟩=some (.slice (some ⟨g,o,none⟩) (m+1) uc)/\w'.cell? ⟨g,o,none⟩=some (.int .i64 hd)/\w'.cell? ⟨xb,3,none⟩=some (.slice (some ⟨tg,toff,none⟩) nt tc)/\w'.cell? ⟨tg,toff+i*10+4,none⟩=some (.int .i64 dl)) (by kernel_rfl) (by go_split_ands <;> (try dsimp only) <;> go_simp) (fun hHeld=>?_)
 refine tk 0 ?_
 refine tk 1 ?_
 refine tk 2 ?_
 refine tk 3 ?_
 refine tk 4 ?_
 refine tk 5 ?_
 refine tk 6 ?_
 refine tk 7 ?_
 refine tk 8 ?_
 refine tk 9 ?_
 refine tk 10 ?_
 refine tk 11 ?_
 refine tk 12 ?_
 refine tk 13 ?_
 refine tk 14 ?_
 refine tk 15 ?_
 refine tk 16 ?_
 refine tk 17 ?_
 refine tk 18 ?_
 refine tk 19 ?_
 refine tk 20 ?_
 refine tk 21 ?_
 refine wpAnyH_ready (rs:=[22]) (by kernel_rfl) (by simp) ?_
 refine AllReadyH.cons (o:=_) rfl (fun K hK=>?st31) ?mo31
 case st31=>
  go_simp
  refine hK.out _ _ (by go_split_ands <;> (try dsimp only) <;> go_simp) (fun hHeld31=>?_)
  clear hK K
  refine wpAnyH_ready (rs:=[23]) (by kernel_rfl) (by simp) ?_
  refine AllReadyH.cons (o:=_) rfl (fun K hK=>?st32) ?mo32
  case st32=>
   go_simp
   refine hK.out _ _ (by go_split_ands <;> (try dsimp only) <;> go_simp) (fun hHeld32=>?_)
   clear hK K
   refine wpAnyH_done (by kernel_rfl) ?_ _
   go_upto_region 3 with fail
   go_cut [] (fun wx=>ESn w wx xb lo A s1 N k OB/\Vg.blk wx w.heap.size=some (.cells #[.int .i64 i,.int .i64 co,.int .i64 a] 181)/\Vg.blk wx (w.heap.size+1)=some (.cells #[.int .i64 i,.int .i64 a,.int .i64 hd,.int .i64 t,.int .i64 dl] 250))
   case first=>
    by_cases hu1:uc=1
    ·have hm0:m=0:=by omega
     have hqt:=H_hqt1.out hu1
     subst hu1
     have hf9:=H_hfin1.out _ hqt (fun j hj=>H_hqo.out j hj)
     rw[hm0]at hf9
     clear hm0
     have H_hqt:=h_ hqt;have H_hf9:=h_ hf9;clear hqt hf9
     go_wp2_with fail
     go_meet
     exact⟨H_hf9.out.grows (Vg.gro),Vg.Grows.blk (w0:=(Vg.put w gb (.cells (us.set (i*7+1) (.slice (some ⟨g,o,none⟩) 0 0)).toArray 95)).alloc (.cells #[.int .i64 i,.int .i64 co,.int .i64 a] 181)) (Vg.gro) (Vg.alloc_heap_at (by rw[Vg.put_size])),Vg.Grows.blk (w0:=((Vg.put w gb (.cells (us.set (i*7+1) (.slice (some ⟨g,o,none⟩) 0 0)).toArray 95)).alloc (.cells #[.int .i64 i,.int .i64 co,.int .i64 a] 181)).alloc (.cells #[.int .i64 i,.int .i64 a,.int .i64 hd,.int .i64 t,.int .i64 dl] 250)) (Vg.gro) (Vg.alloc_heap_at (by rw[World.size_alloc,Vg.put_size]))⟩
    ·have hu0:0<uc-1:=by omega
     have hf9:=H_hfin1.out _ H_hqt2.out (fun j hj=>H_hqo.out j hj)
     have H_hf9:=h_ hf9;clear hf9
     go_wp2_with fail
     go_meet
     exact⟨H_hf9.out.grows (Vg.gro),Vg.Grows.blk (w0:=(Vg.put w gb (.cells (us.set (i*7+1) (.slice (some ⟨g,o+1,none⟩) m (uc-1))).toArray 95)).alloc (.cells #[.int .i64 i,.int .i64 co,.int .i64 a] 181)) (Vg.gro) (Vg.alloc_heap_at (by rw[Vg.put_size])),Vg.Grows.blk (w0:=((Vg.put w gb (.cells (us.set (i*7+1) (.slice (some ⟨g,o+1,none⟩) m (uc-1))).toArray 95)).alloc (.cells #[.int .i64 i,.int .i64 co,.int .i64 a] 181)).alloc (.cells #[.int .i64 i,.int .i64 a,.int .i64 hd,.int .i64 t,.int .i64 dl] 250)) (Vg.gro) (Vg.alloc_heap_at (by rw[World.size_alloc,Vg.put_size]))⟩
   case rest=>
    obtain⟨hS1,y1,y2⟩:=hcut
    obtain⟨OB1,hE1,hO1,ht1⟩:=hS1
    clear c_x0 f_x0 p_x0
    clear cw pw fw ct cg
    have hiB:i<s1.B.length:=by rw[<-H_hs1e.out];simpa using hi
    have hsB:s1.B[i]=⟨s.B[i].co,tl,s.B[i].st⟩:=by simp[<-H_hs1e.out]
    obtain⟨⟨sj,sm,sw9,ss,sl⟩,hst⟩:∃st,s.B[i].st=st:=⟨_,rfl⟩
    obtain⟨⟨tj,tm,tw,ts,tl9⟩,hst2⟩:∃st,(Vg.St.add ⟨sj,sm,sw9,ss,sl⟩ ⟨i,a,hd,t,dl⟩).1=st:=⟨_,rfl⟩
    obtain⟨er,her⟩:∃er,(Vg.St.add ⟨sj,sm,sw9,ss,sl⟩ ⟨i,a,hd,t,dl⟩).2=er:=⟨_,rfl⟩
    have hak:=fun wz=>stats_add ⟨sj,sm,sw9,ss,sl⟩ ⟨i,a,hd,t,dl⟩ wz
    rw[hst2,her]at hak
    obtain⟨ma1,mc1,x1⟩:=hE1.tab
    obtain⟨mv1,ws1,Bs1,ql1,ow1,g1,g2,g3⟩:=id hE1
    obtain⟨us1,hi9,ua1,uc1,hus1,hgb1,v0,v1,v2,v3,v4,v5,v6,v7⟩:=g1.book_at hiB
    simp only[hsB,hst]at v3 v4 v5 v6 v7
    rw[H_hgbe.out]at hgb1
    simp only[exC]at x1
    have hfin2:ESn wc (Vg.put wc gb (.cells (((((us1.set (i*7+2) (.int .i64 tj)).set (i*7+2+1) (.int .i64 tm)).set (i*7+2+2) (.int .i64 tw)).set (i*7+2+3) (.int .i64 ts)).set (i*7+2+4) (.int .i64 tl9)).toArray 95)) xb lo A { s with B:=s.B.set i ⟨s.B[i].co,tl,⟨tj,tm,tw,ts,tl9⟩⟩ } N k OB1:=by
     have hz:i<(s1.B.zip ws1).length:=by simp;omega
     have e9:=Vg.bkcells_st (s1.B.zip ws1) i hz ⟨tj,tm,tw,ts,tl9⟩
     simp only[List.getElem_zip,hus1]at e9
     obtain⟨f1,f3⟩:=g1.book hiB hi9 rfl (co:=s1.B[i].co) (st:=⟨tj,tm,tw,ts,tl9⟩)
     rw[H_hgbe.out,<-e9]at f1 f3
     have e8:({ s1 with B:=s1.B.set i ⟨s1.B[i].co,s1.B[i].wh,⟨tj,tm,tw,ts,tl9⟩⟩ }:Vg.Xp)={ s with B:=s.B.set i ⟨s.B[i].co,tl,⟨tj,tm,tw,ts,tl9⟩⟩ }:=by
      simp only[hsB]
      rw[<-H_hs1e.out]
      simp
     rw[e8]at f1
     exact ESn.of g2 f1 (fun j hj=>.inl hj) f3
    have hn1:¬gb=w.heap.size:=by omega
    have hn2:¬w.heap.size=gb:=by omega
    have hlx1:=Vg.lt_of x1
    have hne1:gb≠xb:=fun e=>by have h9:=g1.og;rw[H_hgbe.out,e,g1.ox]at h9;omega
    have hby:w.heap.size<wc.heap.size:=Vg.lt_of y1
    have hOw:∀j,OB1 j->OB j\/w.heap.size<=j:=hO1
    have hfn:s.fin A t i a={ s with B:=s.B.set i ⟨s.B[i].co,tl,⟨tj,tm,tw,ts,tl9⟩⟩,ms:=s.ms ++ [⟨t,2,i,t-a⟩] }:=by rw[H_hs1.out,hst,hst2]
    obtain⟨c_x1,f_x1,p_x1,l_x1,H_x1⟩:=Vg.lay x1;clear x1;obtain⟨c_y1,f_y1,p_y1,l_y1,H_y1⟩:=Vg.lay y1;clear y1;obtain⟨c_y2,f_y2,p_y2,l_y2,H_y2⟩:=Vg.lay y2;clear y2;obtain⟨c_hgb1,f_hgb1,p_hgb1,l_hgb1,H_hgb1⟩:=Vg.lay hgb1;clear hgb1
    have H_hE1:=h_ hE1;have H_hO1:=h_ hO1;have H_ht1:=h_ ht1;have H_hsB:=h_ hsB;have H_hst:=h_ hst;have H_hst2:=h_ hst2;have H_her:=h_ her;have H_hak:=h_ hak;have H_g1:=h_ g1;have H_g2:=h_ g2;have H_g3:=h_ g3;have H_hus1:=h_ hus1;have H_hfin2:=h_ hfin2;have H_hOw:=h_ hOw;have H_hfn:=h_ hfn;have H_v0:=h_ v0;have H_v1:=h_ v1;have H_v2:=h_ v2;clear hE1 hO1 ht1 hsB hst hst2 her hak g1 g2 g3 hus1 hfin2 hOw hfn v0 v1 v2
    go_upto_region 4 with fail
    refine wp_region_held_drew (S:=fun w'=>xb<w'.heap.size/\gb<w'.heap.size/\w.heap.size+1<w'.heap.size) (by kernel_rfl) (by go_split_ands <;> (try dsimp only) <;> go_simp) (fun hHeld=>?_)
    refine tk 0 ?_
    refine tk 1 ?_
    refine tk 2 ?_
    refine tk 3 ?_
    refine wpAnyH_ready (rs:=[4,5]) (by kernel_rfl) (by simp) ?_
    refine AllReadyH.cons (o:=_) rfl (fun K hK=>?st37) ?mo37
    case st37=>
     go_simp
     refine hK.out _ _ (by go_split_ands <;> (try dsimp only) <;> go_simp) (fun hHeld37=>?_)
     clear hK K
     refine wpAnyH_ready (rs:=[5]) (by kernel_rfl) (by simp) ?_
     refine AllReadyH.cons (o:=_) rfl (fun K hK=>?st38) ?mo38
     case st38=>
      go_simp
      refine hK.out _ _ (by go_split_ands <;> (try dsimp only) <;> go_simp) (fun hHeld38=>?_)
      clear hK K
      refine wpAnyH_ready (rs:=[6]) (by kernel_rfl) (by simp) ?_
      refine AllReadyH.cons (o:=_) rfl (fun K hK=>?st39) ?mo39
      case st39=>
       go_simp
       ((go_at_call 105;(with_reducible refine(H_hak.out _).mono ?_);rintro e3 w3 ⟨rfl,hg3⟩;obtain⟨x3,n3,rfl⟩:=hg3))
       all_goals(try go_wp2_with fail)
       refine hK.out _ _ (by go_split_ands <;> (try dsimp only) <;> go_simp) (fun hHeld39=>?_)
       clear hK K
       refine tk 7 ?_
       refine tk 8 ?_
       refine tk 9 ?_
       refine tk 10 ?_
       refine tk 11 ?_
       refine wpAnyH_ready (rs:=[12]) (by kernel_rfl) (by simp) ?_
       refine AllReadyH.cons (o:=_) rfl (fun K hK=>?st45) ?mo45
       case st45=>
        go_simp
        refine hK.out _ _ (by go_split_ands <;> (try dsimp only) <;> go_simp) (fun hHeld45=>?_)
        clear hK K
        refine wpAnyH_done (by kernel_rfl) ?_ _
        obtain⟨OB2,hE2,hO2,ht2⟩:=H_hfin2.out
        have hmk:=fun wz (hg:Vg.Grows (Vg.put wc gb (.cells (((((us1.set (i*7+2) (.int .i64 tj)).set (i*7+2+1) (.int .i64 tm)).set (i*7+2+2) (.int .i64 tw)).set (i*7+2+3) (.int .i64 ts)).set (i*7+2+4) (.int .i64 tl9)).toArray 95)) wz)=>es_mark t 2 i (t-a) (hE2.grows hg) hlo hlen
        have H_hE2:=h_ hE2;have H_hO2:=h_ hO2;have H_ht2:=h_ ht2;have H_hmk:=h_ hmk;clear hE2 hO2 ht2 hmk
        go_wp2_with ((go_at_call 58;(with_reducible refine(H_hmk.out _ (Vg.gro)).mono ?_);rintro e6 w6 ⟨rfl,hs6⟩;have H_hs6:=h_ hs6;clear hs6))
        (first|go_end0|refine bodyPost_ret (results_none rfl _ _ _) rfl ?_)
        exact⟨rfl,by rw[H_hfn.out];exact ESn.next H_hO1.out H_ht1.out (ESn.next H_hO2.out H_ht2.out (ESn.pre (Vg.gro) H_hs6.out))⟩
       exact AllReadyH.nil
      exact AllReadyH.nil
     exact AllReadyH.nil
    refine AllReadyH.cons (o:=_) rfl (fun K hK=>?st46) ?mo46
    case st46=>
     go_simp
     refine hK.out _ _ (by go_split_ands <;> (try dsimp only) <;> go_simp) (fun hHeld46=>?_)
     clear hK K
     refine wpAnyH_ready (rs:=[4]) (by kernel_rfl) (by simp) ?_
     refine AllReadyH.cons (o:=_) rfl (fun K hK=>?st47) ?mo47
     case st47=>
      go_simp
      refine hK.out _ _ (by go_split_ands <;> (try dsimp only) <;> go_simp) (fun hHeld47=>?_)
      clear hK K
      refine wpAnyH_ready (rs:=[6]) (by kernel_rfl) (by simp) ?_
      refine AllReadyH.cons (o:=_) rfl (fun K hK=>?st48) ?mo48
      case st48=>
       go_simp
       ((go_at_call 105;(with_reducible refine(H_hak.out _).mono ?_);rintro e3 w3 ⟨rfl,hg3⟩;obtain⟨x3,n3,rfl⟩:=hg3))
       all_goals(try go_wp2_with fail)
       refine hK.out _ _ (by go_split_ands <;> (try dsimp only) <;> go_simp) (fun hHeld48=>?_)
       clear hK K
       refine tk 7 ?_
       refine tk 8 ?_
       refine tk 9 ?_
       refine tk 10 ?_
       refine tk 11 ?_
       refine wpAnyH_ready (rs:=[12]) (by kernel_rfl) (by simp) ?_
       refine AllReadyH.cons (o:=_) rfl (fun K hK=>?st54) ?mo54
       case st54=>
        go_simp
        refine hK.out _ _ (by go_split_ands <;> (try dsimp only) <;> go_simp) (fun hHeld54=>?_)
        clear hK K
        refine wpAnyH_done (by kernel_rfl) ?_ _
        obtain⟨OB2,hE2,hO2,ht2⟩:=H_hfin2.out
        have hmk:=fun wz (hg:Vg.Grows (Vg.put wc gb (.cells (((((us1.set (i*7+2) (.int .i64 tj)).set (i*7+2+1) (.int .i64 tm)).set (i*7+2+2) (.int .i64 tw)).set (i*7+2+3) (.int .i64 ts)).set (i*7+2+4) (.int .i64 tl9)).toArray 95)) wz)=>es_mark t 2 i (t-a) (hE2.grows hg) hlo hlen
        have H_hE2:=h_ hE2;have H_hO2:=h_ hO2;have H_ht2:=h_ ht2;have H_hmk:=h_ hmk;clear hE2 hO2 ht2 hmk
        go_wp2_with ((go_at_call 58;(with_reducible refine(H_hmk.out _ (Vg.gro)).mono ?_);rintro e6 w6 ⟨rfl,hs6⟩;have H_hs6:=h_ hs6;clear hs6))
        (first|go_end0|refine bodyPost_ret (results_none rfl _ _ _) rfl ?_)
        exact⟨rfl,by rw[H_hfn.out];exact ESn.next H_hO1.out H_ht1.out (ESn.next H_hO2.out H_ht2.out (ESn.pre (Vg.gro) H_hs6.out))⟩
       exact AllReadyH.nil
      exact AllReadyH.nil
     exact AllReadyH.nil
    exact AllReadyH.nil
  exact AllReadyH.nil
 exact AllReadyH.nil
end
end Go.Proofs.YtlkdkgefjipjmaaGreatDoor
namespace Vg
open Go
def Xp.goes(A:Ad)(s:Xp)(n t:Int):Xp:=
 if s.rk=1 then
  (if(Kn.run s.K s.M n).2.2.2.1=true then Xp.fin A { s with K:=(Kn.run s.K s.M n).1,M:=(Kn.run s.K s.M n).2.1 } t (Kn.run s.K s.M n).2.2.1.1.toNat (Kn.run s.K s.M n).2.2.1.2.2
  else{ s with K:=(Kn.run s.K s.M n).1,M:=(Kn.run s.K s.M n).2.1 })
 else{ s with idle:=s.idle+n }
end Vg
namespace Go.Proofs.YtlkdkgefjipjmaaGreatDoor
open Go.ChangeShapes Go.WideShapes Go.ChangeAt Go.RowKit
section
variable {w w' w0 w2 w3:World}{xb lo N k N' k':Nat}{A:Vg.Ad}{s s':Vg.Xp}{mv:Value}{ws:List Value}{Bs:List Vg.Bp}{ql:Int}{ow:Nat->Nat}{OB:Nat->Prop}
theorem es_krun(n:Int)(h:ES w xb lo A s N k OB){K':List Vg.Kt}{M':List Vg.Mx}{d1 d2 d3 r:Int}{is:Bool}(hx:Vg.Kn.run s.K s.M n=(K',M',(d1,d2,d3),is,r)):
  Calls Tryz.prog 59 #[.pointer (some ⟨A.kb,0,none⟩),.int .i64 n] w fun e w'=>e=.returned (.tuple #[.agg #[.int .i64 d1,.int .i64 d2,.int .i64 d3],.bool is,.int .i64 r])/\ESn w w' xb lo A { s with K:=K',M:=M' } N k OB:=by
 obtain⟨mv,ws,Bs,ql,ow,h1,h2,h3⟩:=h
 refine(kq_run h1.kq h1.ki hx).mono ?_
 rintro e w' ⟨rfl,hn⟩
 have hI:=Vg.Kn.Inv.run h1.ki s.M n
 rw[hx]at hI
 obtain⟨ow',e1,e2,e3⟩:=h1.kern hn hI
 exact⟨rfl,ESn.of h2 e1 e2 e3⟩
theorem ES.idle (id:Int) (h:ES w xb lo A s N k OB):∃ma mc,Vg.blk w xb=some (exC A s (.slice ma s.ms.length mc))/\ESn w (Vg.put w xb (exC A { s with idle:=id } (.slice ma s.ms.length mc))) xb lo A { s with idle:=id } N k OB:=by
 obtain⟨mv,ws,Bs,ql,ow,h1,h2,h3⟩:=h
 obtain⟨ma,mc,rfl⟩:=h1.mq.shape
 obtain⟨e1,e2⟩:=h1.own (rk:=s.rk) (rn:=s.rn) (id:=id)
 exact⟨ma,mc,h1.tab,ESn.of h2 e1 (fun j hj=>.inl hj) e2⟩
theorem es_goes(n t:Int)(h:ES w xb lo A s N k OB)(hlo:1<=lo)(hlen:s.ms.length<65536)(h01:s.rk=0\/s.rk=1)(hid:IntKind.i64.wrap (s.idle+n)=s.idle+n)
  (hdn:∀K' M' d1 d2 d3 r,Vg.Kn.run s.K s.M n=(K',M',(d1,d2,d3),true,r)->∃i:Nat,d1=i/\(∃hi:i<s.B.length,s.B[i].wh ≠ [])/\IntKind.i64.wrap (t-d3)=t-d3):
  Calls Tryz.prog 29 #[.pointer (some ⟨xb,0,none⟩),.int .i64 n,.int .i64 t] w fun e w'=>e=.returned (.tuple #[])/\ESn w w' xb lo A (s.goes A n t) N k OB:=by
 obtain⟨ma,mc,x0,hput⟩:=h.idle (s.idle+n)
 obtain⟨K',M',⟨d1,d2,d3⟩,is,r,hx⟩:∃K' M' d is r,Vg.Kn.run s.K s.M n=(K',M',d,is,r):=⟨_,_,_,_,_,rfl⟩
 have hrk:=fun wz (hg:Vg.Grows w wz)=>es_krun n (h.grows hg) hx
 have hgo:s.goes A n t=if s.rk=1 then(if is=true then Vg.Xp.fin A { s with K:=K',M:=M' } t d1.toNat d3 else{ s with K:=K',M:=M' })else{ s with idle:=s.idle+n }:=by unfold Vg.Xp.goes;rw[hx]
 simp only[exC]at x0 hput
 rcases h01 with h01|h01
 ·rw[if_neg (by omega)]at hgo
  obtain⟨s',hs'⟩:∃s',s'={ s with idle:=s.idle+n }:=⟨_,rfl⟩
  rw[<-hs']at hput hgo
  obtain⟨rk,hrke⟩:∃rk,rk=s.rk:=⟨_,rfl⟩
  rw[<-hrke]at x0 h01
  rw[<-hrke]at hput
  subst h01
  obtain⟨OB1,hE1,hO1,ht1⟩:=id hput
  obtain⟨c_x0,f_x0,p_x0,l_x0,H_x0⟩:=Vg.lay x0;clear x0
  have H_h:=h_ h;have H_hx:=h_ hx;have H_hrk:=h_ hrk;have H_hgo:=h_ hgo;have H_hput:=h_ hput;have H_hE1:=h_ hE1;have H_hO1:=h_ hO1;have H_ht1:=h_ ht1;have H_hdn:=h_ hdn;have H_hrke:=h_ hrke;clear h hx hrk hgo hput hE1 hO1 ht1 hdn hrke
  go_enter Tryz.func29,Tryz.ntmps29
  go_wp2
  (first|go_end0|refine bodyPost_ret (results_none rfl _ _ _) rfl ?_)
  exact⟨rfl,by rw[H_hgo.out];exact ESn.next H_hO1.out H_ht1.out (ESn.grows (ESn.refl H_hE1.out) (Vg.gro))⟩
 ·rw[if_pos h01]at hgo
  obtain⟨rk,hrke⟩:∃rk,rk=s.rk:=⟨_,rfl⟩
  rw[<-hrke]at x0 h01
  subst h01
  cases is with
  | false=>
   rw[if_neg (by simp)]at hgo
   obtain⟨c_x0,f_x0,p_x0,l_x0,H_x0⟩:=Vg.lay x0;clear x0
   have H_h:=h_ h;have H_hx:=h_ hx;have H_hrk:=h_ hrk;have H_hgo:=h_ hgo;have H_hput:=h_ hput;have H_hdn:=h_ hdn;have H_hrke:=h_ hrke;clear h hx hrk hgo hput hdn hrke
   go_enter Tryz.func29,Tryz.ntmps29
   go_wp2_with ((go_at_call 59;(with_reducible refine(H_hrk.out _ (Vg.gro)).mono ?_);rintro e1 w1 ⟨rfl,hs1⟩;have H_hs1:=h_ hs1;clear hs1))
   (first|go_end0|refine bodyPost_ret (results_none rfl _ _ _) rfl ?_)
   exact⟨rfl,by rw[H_hgo.out];exact ESn.pre ((Vg.Grows.refl _).alloc _) (ESn.grows H_hs1.out ((Vg.Grows.refl _).alloc _))⟩
  | true=>
   obtain⟨i,rfl,⟨hi,hne⟩,hwr⟩:=hdn _ _ _ _ _ _ hx
   have hti:((i:Nat):Int).toNat=i:=by omega
   rw[if_pos rfl,hti]at hgo
   obtain⟨c_x0,f_x0,p_x0,l_x0,H_x0⟩:=Vg.lay x0;clear x0
   have H_h:=h_ h;have H_hx:=h_ hx;have H_hrk:=h_ hrk;have H_hgo:=h_ hgo;have H_hput:=h_ hput;have H_hdn:=h_ hdn;have H_hrke:=h_ hrke;have H_hne:=h_ hne;clear h hx hrk hgo hput hdn hrke hne
   go_enter Tryz.func29,Tryz.ntmps29
   go_wp2_with (first|(go_at_call 59;(with_reducible refine(H_hrk.out _ (Vg.gro)).mono ?_);rintro e1 w1 ⟨rfl,hs1⟩;obtain⟨OB1,hE1,hO1,ht1⟩:=id hs1;have hdk:=fun wz (hg:Vg.Grows w1 wz)=>es_done i t d2 d3 (hE1.grows hg) hlo hlen hi H_hne.out hwr;have H_hs1:=h_ hs1;have H_hE1:=h_ hE1;have H_hO1:=h_ hO1;have H_ht1:=h_ ht1;have H_hdk:=h_ hdk;clear hs1 hE1 hO1 ht1 hdk)|(go_at_call 60;(with_reducible refine(H_hdk.out _ (Vg.gro)).mono ?_);rintro e2 w2 ⟨rfl,hs2⟩;have H_hs2:=h_ hs2;clear hs2))
   (first|go_end0|refine bodyPost_ret (results_none rfl _ _ _) rfl ?_)
   exact⟨rfl,by rw[H_hgo.out];exact ESn.pre ((Vg.Grows.refl _).alloc _) (ESn.next H_hO1.out H_ht1.out (ESn.pre ((Vg.Grows.refl _).alloc _) H_hs2.out))⟩
end
end Go.Proofs.YtlkdkgefjipjmaaGreatDoor
namespace Vg
open Go
def Clk(A:Ad)(t':Int)(V P:Int->Option Int)(t0:Int)(l:List (Int×Int))(V' P':Int->Option Int)(t0':Int):Prop:=
 (l=[]/\V'=V/\P'=P/\t0'=t0/\∀nx,NxV V nx true->t'<wkA A.mn A.mx t0 nx) \/
 (Fires t' (V,P) l (V',P')/\t0'=t'/\(∀z u,V' z=some u->t'<u)/\∃nx,NxV V nx true/\t'=wkA A.mn A.mx t0 nx)
def Xp.gone(A:Ad)(s:Xp)(t':Int):Xp:=if 0<t'-s.t then s.goes A (t'-s.t) t' else s
def Xp.fire(A:Ad)(s:Xp)(x:Int×Int):Xp:=s.rel A x.1.toNat (s.B[x.1.toNat]?.getD bk0).co x.2
def Xp.fired(A:Ad)(s:Xp)(l:List (Int×Int)):Xp:=l.foldl (Xp.fire A) s
def Xp.clk(s:Xp)(t':Int)(V' P':Int->Option Int)(t0':Int):Xp:={ s with t:=t',t0:=t0',V:=V',P:=P' }
def Go1(en:Int)(s:Xp)(is:Bool)(a:Int):Prop:=s.t<en\/(is=true/\a<=s.t)
def Wk(A:Ad)(s:Xp)(nx:Int)(is:Bool)(a:Int):Prop:=NxV s.V nx is/\(if is=true then wkA A.mn A.mx s.t0 nx else 0)=a
def Step(A:Ad)(en:Int)(s s':Xp)(c:Nat):Prop:=
 ∃nx is a l V' P' t0',Wk A s nx is a/\Go1 en s is a/\Clk A (s.nxt a is en) s.V s.P s.t0 l V' P' t0'/\c=l.length/\s'=(Xp.fired A ((s.gone A (s.nxt a is en)).clk (s.nxt a is en) V' P' t0') l).settle
def Halt(A:Ad)(en:Int)(s:Xp):Prop:=∃nx is a,Wk A s nx is a/\¬Go1 en s is a
inductive Steps (A:Ad)(en:Int):Nat->Nat->Xp->Xp->Prop where
 | nil (s:Xp):Steps A en 0 0 s s
 | snoc {n F c:Nat}{s s1 s2:Xp}(h:Steps A en n F s s1)(h1:Step A en s1 s2 c):Steps A en (n+1) (F+c) s s2
def BkOk(b:Nat)(B:List Bk):Prop:=∀x∈B,x.wh.length<=b/\0<=x.co/\x.co<=1099511627776
structure Xc(A:Ad)(en:Int)(s:Xp):Prop where
 r01:s.rk=0\/s.rk=1
 lf:0<=s.left/\s.left<=1099511627776
 le:s.t<=en
 ms:s.ms.length<=60000
 id:0<=s.idle/\s.idle<=s.t
 dn:∀n K' M' d1 d2 d3 r,Kn.run s.K s.M n=(K',M',(d1,d2,d3),true,r)->∃i:Nat,d1=i/\(∃hi:i<s.B.length,s.B[i].wh ≠ [])/\0<=d3/\d3<=4503599627370496
 fi:∀t' l V' P',t'<=en->Fires t' (s.V,s.P) l (V',P')->l.length<1024/\∀x∈l,∃i:Nat,x.1=i/\i<s.B.length/\i<32
 wh:BkOk 900000 s.B
theorem BkOk.set{b b':Nat}{B:List Bk}(h:BkOk b B)(hb:b<=b')(i:Nat)(y:Bk)(hy:i<B.length->y.wh.length<=b'/\0<=y.co/\y.co<=1099511627776):BkOk b' (B.set i y):=fun x hx=>by
 rcases List.mem_or_eq_of_mem_set hx with h1|h1
 ·have:=h x h1;omega
 ·subst h1
  rcases Nat.lt_or_ge i B.length with hi|hi
  ·exact hy hi
  ·rw[List.set_eq_of_length_le hi]at hx;have:=h _ hx;omega
theorem getD_bk{B:List Bk}{i:Nat}(hi:i<B.length)(d:Bk):B[i]?.getD d=B[i]:=by rw[List.getElem?_eq_getElem hi];rfl
theorem Xp.goes_B(A:Ad)(s:Xp)(n t:Int):(s.goes A n t).B.length=s.B.length/\(s.goes A n t).ms.length<=s.ms.length+1/\(s.goes A n t).t=s.t/\(s.goes A n t).V=s.V/\(s.goes A n t).P=s.P/\(s.goes A n t).t0=s.t0:=by
 unfold Xp.goes Xp.fin
 split
 ·split<;>simp
 ·simp
theorem Xp.goes_ok{b:Nat}(A:Ad)(s:Xp)(n t:Int)(h:BkOk b s.B):BkOk b (s.goes A n t).B:=by
 unfold Xp.goes Xp.fin
 split
 ·split
  ·refine h.set (Nat.le_refl _) _ _ fun hi=>?_
   simp only[getD_bk hi]
   have:=h _ (List.getElem_mem hi)
   refine⟨by rw[List.length_tail];omega,this.2⟩
  ·exact h
 ·exact h
theorem Xp.gone_B(A:Ad)(s:Xp)(t:Int):(s.gone A t).B.length=s.B.length/\(s.gone A t).ms.length<=s.ms.length+1/\(s.gone A t).t=s.t/\(s.gone A t).V=s.V/\(s.gone A t).P=s.P/\(s.gone A t).t0=s.t0:=by
 unfold Xp.gone
 split
 ·exact Xp.goes_B A s _ t
 ·exact⟨rfl,by omega,rfl,rfl,rfl,rfl⟩
theorem Xp.gone_ok{b:Nat}(A:Ad)(s:Xp)(t:Int)(h:BkOk b s.B):BkOk b (s.gone A t).B:=by
 unfold Xp.gone
 split
 ·exact Xp.goes_ok A s _ t h
 ·exact h
theorem Xp.fire_B(A:Ad)(s:Xp)(x:Int×Int):(s.fire A x).B.length=s.B.length/\(s.fire A x).ms.length=s.ms.length+1/\(s.fire A x).t=s.t/\(s.fire A x).V=s.V/\(s.fire A x).P=s.P/\(s.fire A x).t0=s.t0:=by
 unfold Xp.fire Xp.rel
 split<;>simp
theorem Xp.fire_ok{b:Nat}(A:Ad)(s:Xp)(x:Int×Int)(h:BkOk b s.B):BkOk (b+1) (s.fire A x).B:=by
 unfold Xp.fire Xp.rel
 split
 ·refine h.set (by omega) _ _ fun hi=>?_
  simp only[getD_bk hi]
  have:=h _ (List.getElem_mem hi)
  refine⟨by simp;omega,this.2⟩
 ·exact fun y hy=>by have:=h y hy;omega
theorem Xp.fired_B(A:Ad):∀(l:List (Int×Int))(s:Xp),(s.fired A l).B.length=s.B.length/\(s.fired A l).ms.length=s.ms.length+l.length/\(s.fired A l).t=s.t/\(s.fired A l).V=s.V/\(s.fired A l).P=s.P/\(s.fired A l).t0=s.t0
 | [],s=>⟨rfl,rfl,rfl,rfl,rfl,rfl⟩
 | x::l,s=>by
  obtain⟨a1,a2,a3,a4,a5,a6⟩:=Xp.fired_B A l (s.fire A x)
  obtain⟨b1,b2,b3,b4,b5,b6⟩:=Xp.fire_B A s x
  exact⟨a1.trans b1,by show(Xp.fired A (s.fire A x) l).ms.length=_;rw[a2,b2,List.length_cons];omega,a3.trans b3,a4.trans b4,a5.trans b5,a6.trans b6⟩
theorem Xp.fired_ok(A:Ad):∀(l:List (Int×Int))(s:Xp)(b:Nat),BkOk b s.B->BkOk (b+l.length) (s.fired A l).B
 | [],s,b,h=>h
 | x::l,s,b,h=>by
  have:=Xp.fired_ok A l (s.fire A x) (b+1) (Xp.fire_ok A s x h)
  rw[show b+1+l.length=b+(x::l).length from by simp;omega]at this
  exact this
theorem Xp.fired_snoc(A:Ad)(s:Xp)(l:List (Int×Int))(j:Nat)(hj:j<l.length):s.fired A (l.take (j+1))=(s.fired A (l.take j)).fire A l[j]:=by
 unfold Xp.fired
 rw[List.take_succ_eq_append_getElem hj,List.foldl_append];rfl
theorem foldl_min:∀(l:List Int)(en:Int),l.foldl min en<=en/\(∀x∈l,l.foldl min en<=x)/\(l.foldl min en=en\/l.foldl min en∈l)
 | [],en=>⟨Int.le_refl _,by simp,.inl rfl⟩
 | x::l,en=>by
  obtain⟨a1,a2,a3⟩:=foldl_min l (min en x)
  simp only[List.foldl_cons]
  refine⟨by omega,fun y hy=>?_,?_⟩
  ·rcases List.mem_cons.1 hy with rfl|hy
   ·omega
   ·exact a2 y hy
  ·rcases a3 with a3|a3
   ·rcases Int.le_total en x with h|h
    ·left;omega
    ·right;rw[a3];simp;left;omega
   ·right;exact List.mem_cons_of_mem _ a3
theorem Xp.nxt_bd{A:Ad}{en a:Int}{is:Bool}{s:Xp}(hl:0<=s.left)(he:s.t<=en)(ha:is=true->s.t<=a):s.t<=s.nxt a is en/\s.nxt a is en<=en/\(is=true->s.nxt a is en<=a)/\(s.rk≠0->s.nxt a is en<=s.t+s.left):=by
 unfold Xp.nxt
 obtain⟨h1,h2,h3⟩:=foldl_min (s.evs a is) en
 obtain⟨l0,hl0⟩:∃l0,(s.evs a is).foldl min en=l0:=⟨_,rfl⟩
 rw[hl0]at h1 h2 h3 ⊢
 refine⟨?_,h1,fun e=>?_,fun e=>?_⟩
 ·rcases h3 with h3|h3
  ·omega
  ·have h3:l0∈(if is=true then [max a s.t]else [])++(if s.rk=0 then []else [s.t+s.left]):=h3
   rcases List.mem_append.1 h3 with h3|h3
   ·cases is with
    | false=>simp at h3
    | true=>
     have h4:=List.mem_singleton.1 h3
     rw[h4];exact Int.le_max_right ..
   ·by_cases hr:s.rk=0
    ·rw[if_pos hr]at h3;simp at h3
    ·rw[if_neg hr]at h3
     have h4:=List.mem_singleton.1 h3
     rw[h4];omega
 ·have:=h2 (max a s.t) (by unfold Xp.evs;rw[if_pos e];simp)
  have:=ha e
  omega
 ·exact h2 _ (by unfold Xp.evs;rw[if_neg e];simp)
theorem fcells_get(now:Int):∀(l:List (Int×Int))(j:Nat)(h:j<l.length),(fcells now l)[j*3]? = some (.int .i64 l[j].1)/\(fcells now l)[j*3+1]? = some (.int .i64 l[j].2)/\(fcells now l)[j*3+2]? = some (.int .i64 (now-l[j].2))
 | [],k,h=>by simp at h
 | x::l,0,_=>by simp[fcells]
 | x::l,k+1,h=>by
  have:=fcells_get now l k (by simpa using h)
  rw[show(k+1)*3=k*3+1+1+1 from by omega]
  simpa[fcells]using this
theorem nxV_eq{V:Int->Option Int}{nx nx2:Int}{is:Bool}(h:NxV V nx is)(h2:NxV V nx2 true):is=true/\nx2=nx:=by
 rcases h with⟨rfl,_,h⟩|⟨rfl,⟨z,hz⟩,hl⟩
 ·rcases h2 with⟨e,_⟩|⟨_,⟨z,hz⟩,_⟩
  ·cases e
  ·rw[h z]at hz;cases hz
 ·rcases h2 with⟨e,_⟩|⟨_,⟨z2,hz2⟩,hl2⟩
  ·cases e
  ·exact⟨rfl,Int.le_antisymm (hl2 z nx hz) (hl z2 nx2 hz2)⟩
end Vg
namespace Go.Proofs.YtlkdkgefjipjmaaGreatDoor
open Go.ChangeShapes Go.WideShapes Go.ChangeAt Go.RowKit
section
variable {w w' w0 w2 w3:World}{xb lo N k N' k':Nat}{A:Vg.Ad}{s s':Vg.Xp}{mv:Value}{ws:List Value}{Bs:List Vg.Bp}{ql:Int}{ow:Nat->Nat}{OB:Nat->Prop}
theorem es_clock(n:Int){t':Int}(h:ES w xb lo A s N k OB)(hT:Vg.Tab w)(hlo:1<=lo)(hn0:0<=n)(ht':s.t+n=t')(hM:t'<=4503599627370496)(hw:∀nx,Vg.NxV s.V nx true->t'<=Vg.wkA A.mn A.mx s.t0 nx)
  (hF:∀l V' P',Vg.Fires t' (s.V,s.P) l (V',P')->l.length<1024)(hN:N<=1152921504606846976):
  Calls Tryz.prog 30 #[.pointer (some ⟨A.sb,0,none⟩),.int .i64 n] w fun e w'=>∃(a:Option Addr)(c:Nat)(l:List (Int×Int))(V' P':Int->Option Int)(t0':Int),e=.returned (.tuple #[.slice a l.length c,.int .i64 n,.int .i64 0]) /\
   Vg.Que w' w.heap.size 105 3 (.slice a l.length c) l.length (Vg.fcells t' l)/\ES w' xb lo A (s.clk t' V' P' t0') (N+l.length) k OB/\Vg.Touch OB w w'/\Vg.Clk A t' s.V s.P s.t0 l V' P' t0':=by
 have hno:¬OB 0:=fun hh=>by have:=(h.own.2 0 hh).1;omega
 obtain⟨mv,ws,Bs,ql,ow,h1,h2,h3⟩:=h
 obtain⟨fr,hs⟩:=h1.sx
 subst ht'
 refine(sx_advance n hs hT (fun e=>hno (h2 0 (by omega))) hn0 hM hw hF hN).mono ?_
 rintro e w' ⟨a,c,l,V',P',t0',fr',rfl,hq,hx,ht,hc⟩
 obtain⟨e1,e2⟩:=h1.svc hx ht (by omega)
 have e3:=e2.mono fun j _ hj=>h2 j hj
 refine⟨a,c,l,V',P',t0',rfl,hq,⟨mv,ws,Bs,ql,ow,e1,h2,fun j hj=>⟨(h3 j hj).1,Nat.lt_of_lt_of_le (h3 j hj).2 e3.size⟩⟩,e3,hc⟩
theorem es_advance_no(n:Int)(h:ES w xb lo A s N k OB)(hn:n<0\/4503599627370496-s.t<n):
  Calls Tryz.prog 9 #[.pointer (some ⟨xb,0,none⟩),.int .i64 n] w fun e w'=>e=.returned (.tuple #[.int .i64 0,.int .i64 (if n<0 then 1 else 6)])/\Vg.Grows w w':=by
 have hr:=h.rng.1
 have hnw:=fun wz (hg:Vg.Grows w wz)=>es_now_c h hg
 have w1:IntKind.i64.wrap (4503599627370496-s.t)=4503599627370496-s.t:=by rw[IntKind.wrap_i64];omega
 have H_h:=h_ h;have H_hnw:=h_ hnw;clear h hnw
 go_enter Tryz.func9,Tryz.ntmps9
 by_cases h0:n<0
 ·rw[if_pos h0]
  go_wp2
  go_step3
  go_upto_block 1 with((go_at_call 8;(with_reducible refine(H_hnw.out _ (Vg.gro)).mono ?_);rintro e1 w1 ⟨rfl,rfl⟩))
  (try rw[Exit.noGoto_ret])
  go_returns
  exact⟨rfl,Vg.gro⟩
 ·rw[if_neg h0]
  have h6:4503599627370496-s.t<n:=by omega
  go_wp2
  go_step3
  go_upto_block 1 with((go_at_call 8;(with_reducible refine(H_hnw.out _ (Vg.gro)).mono ?_);rintro e1 w1 ⟨rfl,rfl⟩))
  (try rw[Exit.noGoto_ret])
  go_returns
  exact⟨rfl,Vg.gro⟩
end
end Go.Proofs.YtlkdkgefjipjmaaGreatDoor
