/- ExA, ExB (put together). -/
import Derived.Test.YtlkdkgefjipjmaaGreatDoorP28
import Derived.Test.YtlkdkgefjipjmaaGreatDoorQ0
set_option linter.all false
set_option maxHeartbeats 40000000
set_option maxRecDepth 100000
namespace Go.Proofs.YtlkdkgefjipjmaaGreatDoor
open Go.ChangeShapes Go.WideShapes Go.ChangeAt Go.RowKit
structure EXg(L L2:Nat)(w:World)(xb lo:Nat)(A:Vg.Ad)(s:Vg.Xp)(N k:Nat)(mv:Value)(ws:List Value)(Bs:List Vg.Bp)(ql:Int)(ow:Nat->Nat):Prop where
 tab:L≠1->L2≠1->Vg.blk w xb=some (exC A s mv)
 sx:L≠2->L2≠2->∃fr,SX w A.sb (fun j=>ow j=2) A.mn A.mx s.t s.t0 s.V s.P fr N
 kq:L≠3->L2≠3->KQ w A.kb s.K s.M (fun j=>ow j=3)
 ki:Vg.Kn.Inv k s.K
 qz:L≠4->L2≠4->QZ w A.qb A.nl ql (fun j=>ow j=4)
 ql:ql<=s.t
 bs:L≠5->L2≠5->BS w A.tb A.lb Bs A.Q (fun j=>ow j=5)
 bi:Vg.Bo.Inv 0 Bs A.Q
 bk:L≠6->L2≠6->Vg.blk w A.gb=some (.cells (Vg.bkcells (s.B.zip ws)).toArray 95)
 bl:s.B.length=A.T.length/\ws.length=A.T.length
 wq:∀i (h:i<s.B.length)(h':i<ws.length),L≠20+i->L2≠20+i->Vg.Que w 1 2 1 ws[i] s.B[i].wh.length (Vg.ics s.B[i].wh)/\∀j,ws[i].ownBlock=some j->ow j=20+i
 mq:L≠8->L2≠8->Vg.Que w 1 60 4 mv s.ms.length (Vg.mkcells s.ms)
 mo:L≠8->L2≠8->∀j,mv.ownBlock=some j->ow j=8
 gm:L≠9->L2≠9->Vg.blk w A.gm=some (.cells (List.replicate A.nl (Value.bool false)).toArray 4)
 tk:L≠10->L2≠10->∃ta tc,A.tv=.slice ta A.T.length tc/\Vg.TK w ta tc A.T/\∀j,A.tv.ownBlock=some j->ow j=10
 ox:L≠1->L2≠1->ow xb=1
 og:L≠6->L2≠6->ow A.gb=6
 om:L≠9->L2≠9->ow A.gm=9
 hw:∀j,ow j≠0->lo<=j/\j<w.heap.size
section
variable {w w' w0 w2:World}{xb lo N k N' k':Nat}{A:Vg.Ad}{s s':Vg.Xp}{mv:Value}{ws:List Value}{Bs Bs':List Vg.Bp}{ql:Int}{ow:Nat->Nat}{OB S:Nat->Prop}
theorem EX.lo_le(h:EX w xb lo A s N k mv ws Bs ql ow):lo<=w.heap.size:=by
 have:=h.hw xb (by rw[h.ox];omega);omega
theorem EX.g(L L2:Nat)(h:EX w xb lo A s N k mv ws Bs ql ow)(hS:∀j,S j->ow j=L\/w.heap.size<=j)(hSl:∀j,S j->j<w'.heap.size)(hL:L≠0)(ht:Vg.Touch (fun j=>ow j=L\/ow j=L2) w w'):
  ∃ow',(∀j,ow' j=L↔S j)/\(∀l,l≠0->l≠L->∀j,ow' j=l↔ow j=l)/\(∀j,ow' j≠0->ow j≠0\/w.heap.size<=j)/\EXg L L2 w' xb lo A s N k mv ws Bs ql ow':=by
 classical
 have hlo:=h.lo_le
 have hz:∀j,w.heap.size<=j->ow j=0:=fun j hj=>by
  by_cases h0:ow j=0
  ·exact h0
  ·have:=(h.hw j h0).2;omega
 let ow':Nat->Nat:=fun j=>if S j then L else if ow j=L then 0 else ow j
 have e1:∀j,ow' j=L↔S j:=fun j=>by
  show(if S j then L else if ow j=L then 0 else ow j)=L↔S j
  by_cases hs:S j
  ·simp[hs]
  ·by_cases ho:ow j=L
   ·simp[hs,ho];omega
   ·simp[hs,ho]
 have e2:∀l,l≠0->l≠L->∀j,ow' j=l↔ow j=l:=fun l hl hlL j=>by
  show(if S j then L else if ow j=L then 0 else ow j)=l↔ow j=l
  by_cases hs:S j
  ·rw[if_pos hs]
   refine⟨fun e=>absurd e.symm hlL,fun e=>?_⟩
   rcases hS j hs with h9|h9
   ·omega
   ·rw[hz j h9]at e;omega
  ·rw[if_neg hs]
   by_cases ho:ow j=L
   ·rw[if_pos ho,ho]
    exact⟨fun e=>absurd e.symm hl,fun e=>absurd e.symm hlL⟩
   ·rw[if_neg ho]
 have e3:∀l,l≠0->l≠L->(fun j=>ow' j=l)=fun j=>ow j=l:=fun l hl hlL=>funext fun j=>propext (e2 l hl hlL j)
 have hv:∀l,L≠l->L2≠l->∀j,ow j=l->¬(ow j=L\/ow j=L2):=fun l hl hl2 j hj e=>e.elim (fun e=>hl (e.symm.trans hj)) (fun e=>hl2 (e.symm.trans hj))
 refine⟨ow',e1,e2,fun j hj=>?_,⟨fun hl hl2=>(ht.block xb (Vg.lt_of h.tab) (hv 1 hl hl2 _ h.ox)).trans h.tab,fun hl hl2=>?_,fun hl hl2=>?_,h.ki,fun hl hl2=>?_,h.ql,fun hl hl2=>?_,h.bi,fun hl hl2=>(ht.block A.gb (Vg.lt_of h.bk) (hv 6 hl hl2 _ h.og)).trans h.bk,h.bl,fun i hi hi' hl hl2=>?_,fun hl hl2=>?_,fun hl hl2 j hj=>?_,fun hl hl2=>(ht.block A.gm (Vg.lt_of h.gm) (hv 9 hl hl2 _ h.om)).trans h.gm,fun hl hl2=>?_,fun hl hl2=>(e2 1 (by omega) (Ne.symm hl) _).2 h.ox,fun hl hl2=>(e2 6 (by omega) (Ne.symm hl) _).2 h.og,fun hl hl2=>(e2 9 (by omega) (Ne.symm hl) _).2 h.om,fun j hj=>?_⟩⟩
 ·by_cases hs:S j
  ·rcases hS j hs with h9|h9
   ·exact .inl (by rw[h9];exact hL)
   ·exact .inr h9
  ·left
   intro h0
   apply hj
   show(if S j then L else if ow j=L then 0 else ow j)=0
   rw[if_neg hs]
   split
   ·rfl
   ·exact h0
 ·obtain⟨fr,hsx⟩:=h.sx
  exact⟨fr,by rw[e3 2 (by omega) (Ne.symm hl)];exact hsx.touch ht (hv 2 hl hl2)⟩
 ·rw[e3 3 (by omega) (Ne.symm hl)];exact h.kq.touch ht (hv 3 hl hl2)
 ·rw[e3 4 (by omega) (Ne.symm hl)];exact h.qz.touch ht (hv 4 hl hl2)
 ·rw[e3 5 (by omega) (Ne.symm hl)];exact h.bs.touch ht (hv 5 hl hl2)
 ·exact⟨(h.wq i hi hi').1.kept fun j hj=>ht.block j ((h.wq i hi hi').1.lt j hj).2 (hv (20+i) hl hl2 _ ((h.wq i hi hi').2 j hj)),fun j hj=>(e2 (20+i) (by omega) (Ne.symm hl) _).2 ((h.wq i hi hi').2 j hj)⟩
 ·exact h.mq.kept fun j hj=>ht.block j (h.mq.lt j hj).2 (hv 8 hl hl2 _ (h.mo j hj))
 ·exact(e2 8 (by omega) (Ne.symm hl) _).2 (h.mo j hj)
 ·obtain⟨ta,tc,hta,htk,hto⟩:=h.tk
  exact⟨ta,tc,hta,htk.touch (n:=A.T.length) ht fun j hj=>hv 10 hl hl2 _ (hto j (by rw[hta];exact hj)),fun j hj=>(e2 10 (by omega) (Ne.symm hl) _).2 (hto j hj)⟩
 ·by_cases hs:S j
  ·refine⟨?_,hSl j hs⟩
   rcases hS j hs with h9|h9
   ·exact(h.hw j (by rw[h9];exact hL)).1
   ·omega
  ·have h0:ow j≠0:=by
    intro h0
    apply hj
    show(if S j then L else if ow j=L then 0 else ow j)=0
    rw[if_neg hs]
    split
    ·rfl
    ·exact h0
   exact⟨(h.hw j h0).1,Nat.lt_of_lt_of_le (h.hw j h0).2 ht.size⟩
theorem EX.g0(L L2:Nat)(h:EX w xb lo A s N k mv ws Bs ql ow)(ht:Vg.Touch (fun j=>ow j=L\/ow j=L2) w w'):EXg L L2 w' xb lo A s N k mv ws Bs ql ow:=by
 have hv:∀l,L≠l->L2≠l->∀j,ow j=l->¬(ow j=L\/ow j=L2):=fun l hl hl2 j hj e=>e.elim (fun e=>hl (e.symm.trans hj)) (fun e=>hl2 (e.symm.trans hj))
 refine⟨fun hl hl2=>(ht.block xb (Vg.lt_of h.tab) (hv 1 hl hl2 _ h.ox)).trans h.tab,fun hl hl2=>?_,fun hl hl2=>h.kq.touch ht (hv 3 hl hl2),h.ki,fun hl hl2=>h.qz.touch ht (hv 4 hl hl2),h.ql,fun hl hl2=>h.bs.touch ht (hv 5 hl hl2),h.bi,fun hl hl2=>(ht.block A.gb (Vg.lt_of h.bk) (hv 6 hl hl2 _ h.og)).trans h.bk,h.bl,fun i hi hi' hl hl2=>?_,fun hl hl2=>?_,fun hl hl2 j hj=>h.mo j hj,fun hl hl2=>(ht.block A.gm (Vg.lt_of h.gm) (hv 9 hl hl2 _ h.om)).trans h.gm,fun hl hl2=>?_,fun _ _=>h.ox,fun _ _=>h.og,fun _ _=>h.om,fun j hj=>⟨(h.hw j hj).1,Nat.lt_of_lt_of_le (h.hw j hj).2 ht.size⟩⟩
 ·obtain⟨fr,hsx⟩:=h.sx
  exact⟨fr,hsx.touch ht (hv 2 hl hl2)⟩
 ·exact⟨(h.wq i hi hi').1.kept fun j hj=>ht.block j ((h.wq i hi hi').1.lt j hj).2 (hv (20+i) hl hl2 _ ((h.wq i hi hi').2 j hj)),(h.wq i hi hi').2⟩
 ·exact h.mq.kept fun j hj=>ht.block j (h.mq.lt j hj).2 (hv 8 hl hl2 _ (h.mo j hj))
 ·obtain⟨ta,tc,hta,htk,hto⟩:=h.tk
  exact⟨ta,tc,hta,htk.touch (n:=A.T.length) ht fun j hj=>hv 10 hl hl2 _ (hto j (by rw[hta];exact hj)),hto⟩
theorem lab{L:Nat}(hL:L≠0)(ht:Vg.Touch (fun j=>ow j=L) w w'):Vg.Touch (fun j=>ow j≠0) w w':=ht.mono fun j _ hj=>by rw[hj];exact hL
theorem lab2{L L2:Nat}(hL:L≠0)(hL2:L2≠0)(ht:Vg.Touch (fun j=>ow j=L\/ow j=L2) w w'):Vg.Touch (fun j=>ow j≠0) w w':=ht.mono fun j _ hj=>by rcases hj with hj|hj<;>(rw[hj];assumption)
theorem two{L:Nat}(ht:Vg.Touch (fun j=>ow j=L) w w'):Vg.Touch (fun j=>ow j=L\/ow j=L) w w':=ht.mono fun j _ hj=>.inl hj
theorem EX.kern{K':List Vg.Kt}{M':List Vg.Mx}(h:EX w xb lo A s N k mv ws Bs ql ow)(hn:KQn w w' A.kb K' M' (fun j=>ow j=3))(hI:Vg.Kn.Inv k' K'):
  ∃ow',EX w' xb lo A { s with K:=K',M:=M' } N k' mv ws Bs ql ow'/\(∀j,ow' j≠0->ow j≠0\/w.heap.size<=j)/\Vg.Touch (fun j=>ow j≠0) w w':=by
 obtain⟨OB',hk,hO,ht⟩:=hn
 have hlt:∀j,OB' j->j<w'.heap.size:=by
  obtain⟨xs,rv,cb,cv,h1,h2,h3,h4⟩:=hk
  exact h4
 obtain⟨ow',e1,e0,e2,g⟩:=h.g 3 3 hO hlt (by omega) (two ht)
 have he:(fun j=>ow' j=3)=OB':=funext fun j=>propext (e1 j)
 exact⟨ow',⟨g.tab (by omega) (by omega),g.sx (by omega) (by omega),by rw[he];exact hk,hI,g.qz (by omega) (by omega),g.ql,g.bs (by omega) (by omega),g.bi,g.bk (by omega) (by omega),g.bl,fun i hi hi'=>g.wq i hi hi' (by omega) (by omega),g.mq (by omega) (by omega),g.mo (by omega) (by omega),g.gm (by omega) (by omega),g.tk (by omega) (by omega),g.ox (by omega) (by omega),g.og (by omega) (by omega),g.om (by omega) (by omega),g.hw⟩,e2,lab (by omega) ht⟩
theorem EX.bot(h:EX w xb lo A s N k mv ws Bs ql ow)(hn:BSn w w' A.tb A.lb Bs' A.Q (fun j=>ow j=5))(hI:Vg.Bo.Inv 0 Bs' A.Q):
  ∃ow',EX w' xb lo A s N k mv ws Bs' ql ow'/\(∀j,ow' j≠0->ow j≠0\/w.heap.size<=j)/\Vg.Touch (fun j=>ow j≠0) w w':=by
 obtain⟨OB',hk,hO,ht⟩:=hn
 obtain⟨ow',e1,e0,e2,g⟩:=h.g 5 5 hO (fun j hj=>(hk.own j hj).2) (by omega) (two ht)
 have he:(fun j=>ow' j=5)=OB':=funext fun j=>propext (e1 j)
 exact⟨ow',⟨g.tab (by omega) (by omega),g.sx (by omega) (by omega),g.kq (by omega) (by omega),g.ki,g.qz (by omega) (by omega),g.ql,by rw[he];exact hk,hI,g.bk (by omega) (by omega),g.bl,fun i hi hi'=>g.wq i hi hi' (by omega) (by omega),g.mq (by omega) (by omega),g.mo (by omega) (by omega),g.gm (by omega) (by omega),g.tk (by omega) (by omega),g.ox (by omega) (by omega),g.og (by omega) (by omega),g.om (by omega) (by omega),g.hw⟩,e2,lab (by omega) ht⟩
theorem EX.irq{now:Int}(h:EX w xb lo A s N k mv ws Bs ql ow)(hn:QZn w w' A.qb A.nl now (fun j=>ow j=4))(hI:now<=s.t):
  EX w' xb lo A s N k mv ws Bs now ow/\Vg.Touch (fun j=>ow j≠0) w w':=by
 obtain⟨hk,ht0⟩:=hn
 have ht:=(ht0.mono fun j _ hj=>by rw[hj];exact hk.own.1:Vg.Touch (fun j=>ow j=4) w w')
 have g:=h.g0 4 4 (two ht)
 exact⟨⟨g.tab (by omega) (by omega),g.sx (by omega) (by omega),g.kq (by omega) (by omega),g.ki,hk,hI,g.bs (by omega) (by omega),g.bi,g.bk (by omega) (by omega),g.bl,fun i hi hi'=>g.wq i hi hi' (by omega) (by omega),g.mq (by omega) (by omega),g.mo (by omega) (by omega),g.gm (by omega) (by omega),g.tk (by omega) (by omega),g.ox (by omega) (by omega),g.og (by omega) (by omega),g.om (by omega) (by omega),g.hw⟩,lab (by omega) ht⟩
theorem EX.svc{fr:Nat}{t t0:Int}{V P:Int->Option Int}(h:EX w xb lo A s N k mv ws Bs ql ow)(hk:SX w' A.sb (fun j=>ow j=2) A.mn A.mx t t0 V P fr N')(ht:Vg.Touch (fun j=>ow j=2) w w')(hI:s.t<=t):
  EX w' xb lo A { s with t:=t,t0:=t0,V:=V,P:=P } N' k mv ws Bs ql ow/\Vg.Touch (fun j=>ow j≠0) w w':=by
 have g:=h.g0 2 2 (two ht)
 have hql:=g.ql
 exact⟨⟨g.tab (by omega) (by omega),⟨fr,hk⟩,g.kq (by omega) (by omega),g.ki,g.qz (by omega) (by omega),by show ql<=t;omega,g.bs (by omega) (by omega),g.bi,g.bk (by omega) (by omega),g.bl,fun i hi hi'=>g.wq i hi hi' (by omega) (by omega),g.mq (by omega) (by omega),g.mo (by omega) (by omega),g.gm (by omega) (by omega),g.tk (by omega) (by omega),g.ox (by omega) (by omega),g.og (by omega) (by omega),g.om (by omega) (by omega),g.hw⟩,lab (by omega) ht⟩
theorem EX.own{rk rn id:Int}(h:EX w xb lo A s N k mv ws Bs ql ow):EX (Vg.put w xb (exC A { s with rk:=rk,rn:=rn,idle:=id } mv)) xb lo A { s with rk:=rk,rn:=rn,idle:=id } N k mv ws Bs ql ow/\Vg.Touch (fun j=>ow j≠0) w (Vg.put w xb (exC A { s with rk:=rk,rn:=rn,idle:=id } mv)):=by
 have ht:Vg.Touch (fun j=>ow j=1) w (Vg.put w xb (exC A { s with rk:=rk,rn:=rn,idle:=id } mv)):=Vg.Touch.put (t:=fun j=>ow j=1) (Vg.Touch.refl _ w) h.ox _
 have g:=h.g0 1 1 (two ht)
 exact⟨⟨Vg.blk_put_same (Vg.lt_of h.tab),g.sx (by omega) (by omega),g.kq (by omega) (by omega),g.ki,g.qz (by omega) (by omega),g.ql,g.bs (by omega) (by omega),g.bi,g.bk (by omega) (by omega),g.bl,fun i hi hi'=>g.wq i hi hi' (by omega) (by omega),g.mq (by omega) (by omega),g.mo (by omega) (by omega),g.gm (by omega) (by omega),g.tk (by omega) (by omega),h.ox,g.og (by omega) (by omega),g.om (by omega) (by omega),g.hw⟩,lab (by omega) ht⟩
theorem EX.marked{w3:World}{mv':Value}{m:Vg.Mrk}(h:EX w xb lo A s N k mv ws Bs ql ow)(ht:Vg.Touch (fun j=>ow j=8) w w3)(hq:Vg.Que w3 1 60 4 mv' (s.ms.length+1) (Vg.mkcells s.ms ++ [.int .i64 m.t,.int .u8 m.k,.int .i64 m.n,.int .i64 m.a]))(ho:∀j,mv'.ownBlock=some j->ow j=8\/w.heap.size<=j):
  ∃ow',EX (Vg.put w3 xb (exC A s mv')) xb lo A { s with ms:=s.ms ++ [m] } N k mv' ws Bs ql ow'/\(∀j,ow' j≠0->ow j≠0\/w.heap.size<=j)/\Vg.Touch (fun j=>ow j≠0) w (Vg.put w3 xb (exC A s mv')):=by
 have ht2:Vg.Touch (fun j=>ow j=8\/ow j=1) w (Vg.put w3 xb (exC A s mv')):=(ht.mono fun j _ hj=>.inl hj).put (.inr h.ox) _
 obtain⟨ow',e1,e0,e2,g⟩:=h.g 8 1 (S:=fun j=>mv'.ownBlock=some j) ho (fun j hj=>by rw[Vg.put_size];exact(hq.lt j hj).2) (by omega) ht2
 have hx8:∀j,mv'.ownBlock=some j->j≠xb:=fun j hj e=>by
  subst e
  rcases ho _ hj with h9|h9
  ·rw[h.ox]at h9;omega
  ·have:=Vg.lt_of h.tab;omega
 have ox1:ow' xb=1:=(e0 1 (by omega) (by omega) xb).2 h.ox
 refine⟨ow',⟨Vg.blk_put_same (Nat.lt_of_lt_of_le (Vg.lt_of h.tab) ht.size),g.sx (by omega) (by omega),g.kq (by omega) (by omega),g.ki,g.qz (by omega) (by omega),g.ql,g.bs (by omega) (by omega),g.bi,g.bk (by omega) (by omega),g.bl,fun i hi hi'=>g.wq i hi hi' (by omega) (by omega),?_,fun j hj=>(e1 j).2 hj,g.gm (by omega) (by omega),g.tk (by omega) (by omega),ox1,g.og (by omega) (by omega),g.om (by omega) (by omega),g.hw⟩,e2,lab2 (by omega) (by omega) ht2⟩
 have e3:Vg.mkcells (s.ms ++ [m])=Vg.mkcells s.ms ++ [.int .i64 m.t,.int .u8 m.k,.int .i64 m.n,.int .i64 m.a]:=by rw[Vg.mkcells_append];rfl
 show Vg.Que _ _ _ _ _ (s.ms ++ [m]).length (Vg.mkcells (s.ms ++ [m]))
 rw[e3,List.length_append]
 exact hq.kept fun j hj=>Vg.put_heap_other (Ne.symm (hx8 j hj))
theorem EX.book{i:Nat}{co:Int}{st:Vg.St}{o:Obj}(h:EX w xb lo A s N k mv ws Bs ql ow)(hi:i<s.B.length)(hi':i<ws.length)(ho:o=.cells (Vg.bkcells ((s.B.zip ws).set i (⟨co,s.B[i].wh,st⟩,ws[i]))).toArray 95):
  EX (Vg.put w A.gb o) xb lo A { s with B:=s.B.set i ⟨co,s.B[i].wh,st⟩ } N k mv ws Bs ql ow/\Vg.Touch (fun j=>ow j≠0) w (Vg.put w A.gb o):=by
 subst ho
 have ht:Vg.Touch (fun j=>ow j=6) w (Vg.put w A.gb (.cells (Vg.bkcells ((s.B.zip ws).set i (⟨co,s.B[i].wh,st⟩,ws[i]))).toArray 95)):=Vg.Touch.put (t:=fun j=>ow j=6) (Vg.Touch.refl _ w) h.og _
 have g:=h.g0 6 6 (two ht)
 have hz:(s.B.set i ⟨co,s.B[i].wh,st⟩).zip ws=(s.B.zip ws).set i (⟨co,s.B[i].wh,st⟩,ws[i]):=by
  apply List.ext_getElem
  ·simp
  ·intro j h1 h2
   simp only[List.getElem_zip,List.getElem_set]
   split
   ·rename_i e;subst e;rfl
   ·rfl
 refine⟨⟨g.tab (by omega) (by omega),g.sx (by omega) (by omega),g.kq (by omega) (by omega),g.ki,g.qz (by omega) (by omega),g.ql,g.bs (by omega) (by omega),g.bi,?_,?_,fun j hj hj'=>?_,g.mq (by omega) (by omega),g.mo (by omega) (by omega),g.gm (by omega) (by omega),g.tk (by omega) (by omega),g.ox (by omega) (by omega),h.og,g.om (by omega) (by omega),g.hw⟩,lab (by omega) ht⟩
 ·show Vg.blk _ A.gb=some (.cells (Vg.bkcells ((s.B.set i ⟨co,s.B[i].wh,st⟩).zip ws)).toArray _)
  rw[hz]
  exact Vg.blk_put_same (Vg.lt_of h.bk)
 ·show(s.B.set i _).length=_/\_
  rw[List.length_set];exact g.bl
 ·have hj2:j<s.B.length:=by simpa using hj
  have h9:=g.wq j hj2 hj' (by omega) (by omega)
  have e:(s.B.set i ⟨co,s.B[i].wh,st⟩)[j].wh=s.B[j].wh:=by
   rw[List.getElem_set]
   split
   ·rename_i e;subst e;rfl
   ·rfl
  show Vg.Que _ _ _ _ _ (s.B.set i ⟨co,s.B[i].wh,st⟩)[j].wh.length (Vg.ics (s.B.set i ⟨co,s.B[i].wh,st⟩)[j].wh)/\_
  rw[e];exact h9
end
end Go.Proofs.YtlkdkgefjipjmaaGreatDoor
namespace Vg
open Go
theorem four_new'{w:World}{x y z u:Value}{t:TypeId}{n:Nat}(hn:n=w.heap.size):∀j q,[x,y,z,u][j]? = some q->(w.alloc (.cells #[x,y,z,u] t)).cell? ((⟨n,0,none⟩:Addr).add j)=some q:=by
 subst hn
 intro j q hq
 have hc:∀o:Nat,(w.alloc (.cells #[x,y,z,u] t)).cell? ⟨w.heap.size,o,none⟩=#[x,y,z,u][o]?:=Vg.cells_of (Vg.alloc_heap_at rfl)
 unfold Addr.add
 split
 ·rename_i h0;subst h0;rw[hc];simpa using hq
 ·rw[hc,Nat.zero_add];simpa using hq
end Vg
namespace Go.Proofs.YtlkdkgefjipjmaaGreatDoor
open Go.ChangeShapes Go.WideShapes Go.ChangeAt Go.RowKit
theorem Tryz.info_mark:(Tryz.prog.info? 60).map (fun i=>(i.zero,i.size,i.bytes))=some (some (.agg #[.int .i64 0,.int .u8 0,.int .i64 0,.int .i64 0]),4,32):=by kernel_rfl
section
variable {w w' w0 w2:World}{xb lo N k N' k':Nat}{A:Vg.Ad}{s s':Vg.Xp}{mv:Value}{ws:List Value}{Bs:List Vg.Bp}{ql:Int}{ow:Nat->Nat}{OB:Nat->Prop}
theorem ES.tab(h:ES w xb lo A s N k OB):∃ma mc,Vg.blk w xb=some (exC A s (.slice ma s.ms.length mc)):=by
 obtain⟨mv,ws,Bs,ql,ow,h1,h2,h3⟩:=h
 obtain⟨ma,mc,e⟩:=h1.mq.shape
 exact⟨ma,mc,by rw[<-e];exact h1.tab⟩
theorem ES.own(h:ES w xb lo A s N k OB):OB xb/\∀j,OB j->lo<=j/\j<w.heap.size:=by
 obtain⟨mv,ws,Bs,ql,ow,h1,h2,h3⟩:=h
 exact⟨h2 xb (by rw[h1.ox];omega),h3⟩
theorem ES.rng(h:ES w xb lo A s N k OB):(0<=s.t0/\s.t0<=s.t/\s.t<=4503599627370496)/\∀z t,s.V z=some t->0<=t/\t<=4503599627370496:=by
 obtain⟨mv,ws,Bs,ql,ow,h1,h2,h3⟩:=h
 obtain⟨fr,hs⟩:=h1.sx
 exact hs.rng
theorem ESn.next{OB1:Nat->Prop}{w1:World}(hO:∀j,OB1 j->OB j\/w.heap.size<=j)(ht:Vg.Touch OB w w1)(h:ESn w1 w2 xb lo A s' N' k' OB1):ESn w w2 xb lo A s' N' k' OB:=by
 obtain⟨OB2,a1,a2,a3⟩:=h
 refine⟨OB2,a1,fun j hj=>?_,Vg.Touch.nextW ht a3 hO⟩
 rcases a2 j hj with h9|h9
 ·exact hO j h9
 ·exact .inr (Nat.le_trans ht.size h9)
theorem ESn.tab0(h:ESn w w' xb lo A s' N' k' OB)(hT:Vg.Tab w)(h0:¬OB 0):Vg.Tab w':=by
 obtain⟨OB2,a1,a2,a3⟩:=h
 exact a3.tabS hT h0
theorem ES.svc(h:ES w xb lo A s N k OB):∃Y fr,(∀j,Y j->OB j)/\SX w A.sb Y A.mn A.mx s.t s.t0 s.V s.P fr N:=by
 obtain⟨mv,ws,Bs,ql,ow,h1,h2,h3⟩:=h
 obtain⟨fr,hs⟩:=h1.sx
 exact⟨_,fr,fun j hj=>h2 j (by rw[hj];omega),hs⟩
theorem es_now_c(h:ES w xb lo A s N k OB)(hg:Vg.Grows w w2):Calls Tryz.prog 8 #[.pointer (some ⟨xb,0,none⟩)] w2 fun e w'=>e=.returned (.int .i64 s.t)/\w2=w':=by
 obtain⟨ma,mc,h1⟩:=(h.grows hg).tab
 obtain⟨Y,fr,hY,hs⟩:=(h.grows hg).svc
 have c6:=Vg.cells_of h1 6
 simp at c6
 have hl:=Vg.lt_of h1
 have H_h1:=h_ h1;have H_hs:=h_ hs;have H_hY:=h_ hY;have H_h:=h_ h;clear h1 hs hY h
 go_enter Tryz.func8,Tryz.ntmps8
 go_wp2_with ((go_at_call 26;(with_reducible refine(sx_now H_hs.out).mono ?_);rintro e1 w1 ⟨rfl,rfl⟩))
 go_ret
 exact⟨rfl,rfl⟩
theorem es_now(h:ES w xb lo A s N k OB):Calls Tryz.prog 8 #[.pointer (some ⟨xb,0,none⟩)] w fun e w'=>e=.returned (.int .i64 s.t)/\w=w':=es_now_c h (Vg.Grows.refl _)
theorem es_mark(t kd n a:Int)(h:ES w xb lo A s N k OB)(hlo:1<=lo)(hlen:s.ms.length<65536):
  Calls Tryz.prog 58 #[.pointer (some ⟨xb,0,none⟩),.int .i64 t,.int .u8 kd,.int .i64 n,.int .i64 a] w fun e w'=>e=.returned (.tuple #[])/\ESn w w' xb lo A { s with ms:=s.ms ++ [⟨t,kd,n,a⟩] } N k OB:=by
 obtain⟨mv,ws,Bs,ql,ow,h1,h2,h3⟩:=h
 obtain⟨i0,hI,hz0,hz1,hz2⟩:=info_parts Tryz.info_mark
 have hq:=h1.mq
 obtain⟨ma,mc,rfl⟩:=hq.shape
 have hx:=h1.tab
 have hxl:=Vg.lt_of hx
 have hxo:=(h3 xb (h2 xb (by rw[h1.ox];omega))).1
 have hne:∀j,(Value.slice ma s.ms.length mc).ownBlock=some j->¬j=xb:=fun j hj e=>by
  have:=h1.mo j hj;rw[e,h1.ox]at this;omega
 have hmo:=h1.mo
 obtain⟨L,hL⟩:∃L,s.ms.length=L:=⟨_,rfl⟩
 have h00:=h1
 have hle:¬(65536:Int)<=(L:Int):=by omega
 have hfin:∀(w3:World)(mv':Value),Vg.Touch (fun j=>ow j=8) w w3->Vg.Que w3 1 60 4 mv' (s.ms.length+1) (Vg.mkcells s.ms ++ [.int .i64 t,.int .u8 kd,.int .i64 n,.int .i64 a])->(∀j,mv'.ownBlock=some j->ow j=8\/w.heap.size<=j)->ESn w (Vg.put w3 xb (exC A s mv')) xb lo A { s with ms:=s.ms ++ [⟨t,kd,n,a⟩] } N k OB:=fun w3 mv' q1 q2 q3=>by
  obtain⟨ow',e1,e2,e3⟩:=h00.marked (m:=⟨t,kd,n,a⟩) q1 q2 q3
  exact ESn.of h2 e1 e2 e3
 simp only[exC]at hfin
 rw[hL]at hx hq hne hmo hfin
 obtain⟨c_hx,f_hx,p_hx,l_hx,H_hx⟩:=Vg.lay hx;clear hx
 have H_h1:=h_ h1;have H_h2:=h_ h2;have H_h3:=h_ h3;have H_h00:=h_ h00;have H_hq:=h_ hq;have H_hne:=h_ hne;have H_hmo:=h_ hmo;have H_hfin:=h_ hfin;have H_hL:=h_ hL;clear h1 h2 h3 h00 hq hne hmo hfin hL
 go_enter Tryz.func58,Tryz.ntmps58
 go_wp2_with (at_builtin;(refine Vg.wpList_que1 (w:=_) rfl (.tmp 27) (.tmp 33) 40 rfl 1 60 i0 (.agg #[.int .i64 0,.int .u8 0,.int .i64 0,.int .i64 0]) 4 32 Tryz.underlying40 hI hz0 hz1 hz2 rfl (by decide) (.slice ma L mc) L _ rfl (H_hq.out.grows (Vg.gro)) _ 1 [.int .i64 t,.int .u8 kd,.int .i64 n,.int .i64 a] rfl rfl (Vg.four_new' (by first|rfl|((try simp only[World.size_alloc,Vg.plus_size,Vg.put_size,World.size_setCell,World.size_drew,World.heap_drewN])<;>omega))) (by simp[Value.oneCell']) (by unfold maxLen;omega) (by omega) (by decide) (by simp only[World.size_alloc];omega) ?_);intro v2 W1 y2 m2 hq2 hs2 ho2;obtain⟨a2,c2,rfl⟩:=hq2.shape;have hT:=((Vg.Touch.of_grows (t:=fun j=>(Value.slice ma L mc).ownBlock=some j) (Vg.gro:Vg.Grows w _)).trans (Vg.Touch.of_same hs2)).trans (Vg.Touch.of_grows ((Vg.Grows.refl _).plus y2 m2));obtain⟨W3,hW3⟩:∃W3,Vg.plus W1 y2 m2=W3:=⟨_,rfl⟩;rw[hW3]at hq2 hT ⊢;have x3:=(hT.block xb hxl (fun hh=>H_hne.out _ hh rfl)).trans H_hx.out;clear c_hx f_hx p_hx;obtain⟨c_x3,f_x3,p_x3,l_x3,H_x3⟩:=Vg.lay x3;clear x3;clear hW3;have H_hq2:=h_ hq2;have H_hs2:=h_ hs2;have H_ho2:=h_ ho2;have H_hT:=h_ hT;clear hq2 hs2 ho2 hT)
 (first|go_end0|go_returns|refine bodyPost_ret (results_none rfl _ _ _) rfl ?_)
 refine⟨rfl,H_hfin.out W3 (.slice a2 (L+1) c2) (H_hT.out.mono fun j _ hj=>H_hmo.out j hj) H_hq2.out fun j hj=>?_⟩
 rcases H_ho2.out with h9|h9
 ·exact .inl (H_hmo.out j (h9.symm.trans hj))
 ·have:=h9.symm.trans hj
  simp only[World.size_alloc,Option.some.injEq]at this
  right;omega
theorem es_note(kd n a:Int)(h:ES w xb lo A s N k OB)(hlo:1<=lo)(hlen:s.ms.length<65536):
  Calls Tryz.prog 67 #[.pointer (some ⟨xb,0,none⟩),.int .u8 kd,.int .i64 n,.int .i64 a] w fun e w'=>e=.returned (.tuple #[])/\ESn w w' xb lo A { s with ms:=s.ms ++ [⟨s.t,kd,n,a⟩] } N k OB:=by
 have hmk:=es_mark s.t kd n a h hlo hlen
 have hnw:=es_now h
 have H_h:=h_ h;have H_hmk:=h_ hmk;have H_hnw:=h_ hnw;clear h hmk hnw
 go_enter Tryz.func67,Tryz.ntmps67
 go_wp2_with (first|(go_at_call 8;(with_reducible refine(H_hnw.out).mono ?_);rintro e1 w1 ⟨rfl,rfl⟩)|(go_at_call 58;(with_reducible refine(H_hmk.out).mono ?_);rintro e2 w2 ⟨rfl,hs2⟩;have H_hs2:=h_ hs2;clear hs2))
 (first|go_end0|go_returns|refine bodyPost_ret (results_none rfl _ _ _) rfl ?_)
 exact⟨rfl,H_hs2.out⟩
end
end Go.Proofs.YtlkdkgefjipjmaaGreatDoor
