/- BotN, BotL, CeilQ (put together). -/
import Derived.Test.YtlkdkgefjipjmaaGreatDoorP22
import Derived.Test.YtlkdkgefjipjmaaGreatDoorP10
import Derived.Deep.RegionLaw
import Derived.Deep.DeepAppendWide
import Derived.Test.YtlkdkgefjipjmaaGreatDoorP21
import Derived.Test.YtlkdkgefjipjmaaGreatDoorQ0
set_option linter.all false
set_option maxHeartbeats 40000000
set_option maxRecDepth 100000
namespace Vg
open Go Go.RowKit
def TR(w:World)(sa:Option Addr)(sc:Nat)(T:List Th):Prop:=
 T.length<=sc/\sc<=maxLen/\∀k,(hk:k<T.length)->∃g off,sa=some ⟨g,off,none⟩/\g<w.heap.size/\w.cell? ⟨g,off+k*4,none⟩=some (.int .i64 T[k].pr)/\w.cell? ⟨g,off+k*4+1,none⟩=some (.int .i64 T[k].bu)/\w.cell? ⟨g,off+k*4+2,none⟩=some (.int .i64 T[k].pe)/\w.cell? ⟨g,off+k*4+3,none⟩=some (.int .i64 T[k].dp)
theorem TR.grows{w w':World}{sa:Option Addr}{c:Nat}{T:List Th}(h:TR w sa c T)(hg:Grows w w'):TR w' sa c T:=
 ⟨h.1,h.2.1,fun k hk=>by
  obtain⟨g,off,e,hlt,c0,c1,c2,c3⟩:=h.2.2 k hk
  exact⟨g,off,e,Nat.lt_of_lt_of_le hlt hg.size,(hg.below.cell (p:=⟨g,off+k*4,none⟩) hlt).trans c0,(hg.below.cell (p:=⟨g,off+k*4+1,none⟩) hlt).trans c1,(hg.below.cell (p:=⟨g,off+k*4+2,none⟩) hlt).trans c2,(hg.below.cell (p:=⟨g,off+k*4+3,none⟩) hlt).trans c3⟩⟩
def oddT(t:Th):Bool:=!(decide (1<=t.bu)&&decide (t.bu<=t.pe)&&decide (t.pe<=1099511627776)&&decide (0<=t.pr)&&decide (t.pr<=63))
theorem oddT_no{t:Th}(h:oddT t=false):(1<=t.bu/\t.bu<=t.pe/\t.pe<=1099511627776)/\(0<=t.pr/\t.pr<=63):=by
 unfold oddT at h
 simp at h;omega
def th0(t:Th):Bp:=⟨t,⟨[],0⟩⟩
def deps(T:List Th):List Int:=if T.length=0 then [1]else T.map (·.dp)
def goodT(T:List Th):Bool:=!(T.any oddT)&&decide (T.length<=64) && !((T.map (·.dp)).any oddW)
def Qs0(T:List Th):List Wq:=(deps T).map fun d=>⟨[],d,0⟩
theorem goodT_inv{T:List Th}(h:goodT T=true):Bo.Inv 0 (T.map th0) (Qs0 T):=by
 unfold goodT at h
 simp only[Bool.and_eq_true,Bool.not_eq_true',decide_eq_true_eq]at h
 obtain⟨⟨h1,h2⟩,h3⟩:=h
 refine⟨fun x hx=>?_,?_,?_⟩
 ·obtain⟨t,ht,rfl⟩:=List.mem_map.1 hx
  have ho:oddT t=false:=by
   cases hh:oddT t with
   | false=>rfl
   | true=>rw[<-h1];exact(List.any_eq_true.2 ⟨t,ht,hh⟩).symm
  obtain⟨⟨a1,a2,a3⟩,a4,a5⟩:=oddT_no ho
  exact⟨⟨a1,show t.bu<=_ by omega⟩,⟨show 1<=t.pe by omega,a3⟩,⟨a4,a5⟩,Srv.inv0 a1⟩
 ·unfold Qs0 deps
  split
  ·exact Wk.Inv.start (by decide) (by decide)
  ·exact Wk.Inv.start (by simpa using h2) h3
 ·cases T with
  | nil=>exact .inl rfl
  | cons t l=>exact .inr (by simp[Qs0,deps])
theorem IR.of_reads{S:Nat}{w:World}{sa:Option Addr}{n c:Nat}{L:List Int}(h:Reads S w (.slice sa n c) n (ics L))(hn:L.length=n):IR w sa c L:=by
 subst hn
 rcases h with⟨h0,h1,h2⟩|⟨g,off,cap,h0,h2,h3,h4,h5,h6⟩
 ·simp only[Value.slice.injEq]at h0
  obtain⟨rfl,hl,rfl⟩:=h0
  exact⟨by omega,Nat.zero_le _,fun k hk=>by omega⟩
 ·simp only[Value.slice.injEq]at h0
  obtain⟨rfl,_,rfl⟩:=h0
  exact⟨h4,h5,fun k hk=>⟨g,off,rfl,h3,by rw[h6 k (by simpa using hk)];simp[ics]⟩⟩
end Vg
namespace Go.Proofs.YtlkdkgefjipjmaaGreatDoor
open Go.ChangeShapes Go.WideShapes Go.ChangeAt Go.RowKit
theorem Tryz.info_bthread:(Tryz.prog.info? 166).map (fun i=>(i.zero,i.size,i.bytes))=some (some (.agg #[.int .i64 0,.int .i64 0,.int .i64 0,.int .i64 0,.pointer none]),5,40):=by kernel_rfl
abbrev bnC(rv:Value):Obj:=.cells #[rv,.pointer none] 161
abbrev thR(t:Vg.Th):Obj:=.cells #[.int .i64 t.pr,.int .i64 t.bu,.int .i64 t.pe,.int .i64 t.dp] 69
structure NB(w:World)(b:Nat)(xs:List Vg.Bt)(rv v5:Value)(L:List Int):Prop where
 tab:Vg.blk w b=some (bnC rv)
 row:Vg.Que w (b+1) 166 5 rv xs.length (Vg.bcells xs)
 dep:Vg.Que w (b+1) 3 1 v5 L.length (Vg.ics L)
 srv:∀i (h:i<xs.length),SA w xs[i].sb (xs[i].sb+1) xs[i].p.t.bu xs[i].p.t.pe xs[i].p.s xs[i].sv/\xs[i].sv=.slice none 0 0/\b<xs[i].sb/\rv.ownBlock≠some xs[i].sb/\v5.ownBlock≠some xs[i].sb
 ne:∀k,rv.ownBlock=some k->v5.ownBlock≠some k
 inj:∀i j (hi:i<xs.length)(hj:j<xs.length),i≠j->xs[i].sb≠xs[j].sb
section
variable {w w' W1:World}{b n m:Nat}{xs:List Vg.Bt}{rv v5 rv2 v2:Value}{L:List Int}{y:Array Obj}
theorem NB.grows(h:NB w b xs rv v5 L)(hg:Vg.Grows w w'):NB w' b xs rv v5 L:=
 ⟨hg.blk h.tab,h.row.grows hg,h.dep.grows hg,fun i hi=>⟨(h.srv i hi).1.grows hg,(h.srv i hi).2⟩,h.ne,h.inj⟩
theorem NB.lt(h:NB w b xs rv v5 L):b<w.heap.size:=Vg.lt_of h.tab
theorem NB.app1{x:Vg.Bt}{news:List Value}(h:NB w b xs rv v5 L)(hs:SA w x.sb (x.sb+1) x.p.t.bu x.p.t.pe x.p.s x.sv)(hv:x.sv=.slice none 0 0)(hb:b<x.sb)(h1:rv.ownBlock≠some x.sb)(h2:v5.ownBlock≠some x.sb)(h3:∀i (hi:i<xs.length),xs[i].sb≠x.sb)
  (hq:Vg.Que (Vg.plus W1 y m) (b+1) 166 5 rv2 (xs.length+1) (Vg.bcells xs++news))(hn:Vg.bcells [x]=news)(hS:Vg.Same (fun j=>rv.ownBlock=some j) w W1)(ho:rv2.ownBlock=rv.ownBlock\/rv2.ownBlock=some w.heap.size):
  NB (Vg.put (Vg.plus W1 y m) b (bnC rv2)) b (xs ++ [x]) rv2 v5 L:=by
 subst hn
 have hT:Vg.Touch (fun k=>rv.ownBlock=some k\/k=b) w (Vg.put (Vg.plus W1 y m) b (bnC rv2)):=
  ((((Vg.Touch.of_same hS).mono fun k _ hk=>.inl hk).trans (Vg.Touch.of_grows ((Vg.Grows.refl W1).plus y m)))).put (.inr rfl) _
 have hrl:=h.row.lt
 have hdl:=h.dep.lt
 have hbl:=h.lt
 have hx:=hs.lt
 have hbW:b<(Vg.plus W1 y m).heap.size:=by rw[Vg.plus_size,hS.size];omega
 have hall:∀i (hi:i<(xs ++ [x]).length),(∃hi':i<xs.length,(xs ++ [x])[i]=xs[i])\/(i=xs.length/\(xs ++ [x])[i]=x):=fun i hi=>by
  by_cases hlt:i<xs.length
  ·exact .inl ⟨hlt,List.getElem_append_left hlt⟩
  ·have:i=xs.length:=by simp at hi;omega
   subst this
   exact .inr ⟨rfl,by simp⟩
 have hold:∀(z:Vg.Bt),(SA w z.sb (z.sb+1) z.p.t.bu z.p.t.pe z.p.s z.sv/\z.sv=.slice none 0 0/\b<z.sb/\rv.ownBlock≠some z.sb/\v5.ownBlock≠some z.sb) ->
   SA (Vg.put (Vg.plus W1 y m) b (bnC rv2)) z.sb (z.sb+1) z.p.t.bu z.p.t.pe z.p.s z.sv/\z.sv=.slice none 0 0/\b<z.sb/\rv2.ownBlock≠some z.sb/\v5.ownBlock≠some z.sb:=fun z hz=>by
  obtain⟨z1,z2,z3,z4,z5⟩:=hz
  have zl:=z1.lt
  refine⟨z1.touch hT (fun hh=>by rcases hh with hh|hh;exact z4 hh;omega) (fun k hk=>by rw[z2]at hk;simp[Value.ownBlock]at hk),z2,z3,fun hh=>?_,z5⟩
  rcases ho with h5|h5
  ·exact z4 (h5.symm.trans hh)
  ·have:=Option.some.inj (hh.symm.trans h5);omega
 refine⟨Vg.put_heap_same hbW,?_,h.dep.kept fun k hk=>hT.block k (hdl k hk).2 fun hh=>?_,fun i hi=>?_,fun k hk hk2=>?_,fun i j hi hj hij=>?_⟩
 ·rw[List.length_append,Vg.bcells_append]
  exact hq.kept fun k hk=>Vg.put_heap_other (by have:=(hq.lt k hk).1;omega)
 ·rcases hh with hh|hh
  ·exact h.ne k hh hk
  ·have:=(hdl k hk).1;omega
 ·rcases hall i hi with⟨hi',e⟩|⟨_,e⟩
  ·rw[e];exact hold _ (h.srv i hi')
  ·rw[e];exact hold _ ⟨hs,hv,hb,h1,h2⟩
 ·rcases ho with h5|h5
  ·exact h.ne k (h5.symm.trans hk) hk2
  ·have:some k=some w.heap.size:=hk.symm.trans h5
   cases this
   have:=(hdl _ hk2).2;omega
 ·rcases hall i hi with⟨hi',e⟩|⟨hi',e⟩<;>rcases hall j hj with⟨hj',e2⟩|⟨hj',e2⟩<;>rw[e,e2]
  ·exact h.inj i j hi' hj' hij
  ·exact h3 i hi'
  ·exact fun hh=>h3 j hj' hh.symm
  ·omega
theorem NB.app2{d:Int}(h:NB w b xs rv v5 L)(hq:Vg.Que (Vg.plus W1 y m) (b+1) 3 1 v2 (L.length+1) (Vg.ics L ++ [.int .i64 d]))(hS:Vg.Same (fun j=>v5.ownBlock=some j) w W1)(ho:v2.ownBlock=v5.ownBlock\/v2.ownBlock=some w.heap.size):
  NB (Vg.plus W1 y m) b xs rv v2 (L ++ [d]):=by
 have hT:Vg.Touch (fun k=>v5.ownBlock=some k) w (Vg.plus W1 y m):=(Vg.Touch.of_same hS).trans (Vg.Touch.of_grows ((Vg.Grows.refl W1).plus y m))
 have hrl:=h.row.lt
 have hdl:=h.dep.lt
 have hbl:=h.lt
 refine⟨hT.bk h.tab fun hh=>by have:=(hdl b hh).1;omega,h.row.kept fun k hk=>hT.block k (hrl k hk).2 (h.ne k hk),?_,fun i hi=>?_,fun k hk hk2=>?_,h.inj⟩
 ·have e1:(L ++ [d]).length=L.length+1:=by simp
  have e2:Vg.ics (L ++ [d])=Vg.ics L ++ [.int .i64 d]:=by simp[Vg.ics]
  rw[e1,e2];exact hq
 ·obtain⟨z1,z2,z3,z4,z5⟩:=h.srv i hi
  have zl:=z1.lt
  refine⟨z1.touch hT z5 (fun k hk=>by rw[z2]at hk;simp[Value.ownBlock]at hk),z2,z3,z4,fun hh=>?_⟩
  rcases ho with h5|h5
  ·exact z5 (h5.symm.trans hh)
  ·have:=Option.some.inj (hh.symm.trans h5);omega
 ·rcases ho with h5|h5
  ·exact h.ne k hk (h5.symm.trans hk2)
  ·have:some k=some w.heap.size:=hk2.symm.trans h5
   cases this
   have:=(hrl _ hk).2;omega
theorem NB.done{wb:Nat}{wv:Value}{O:Nat->Prop}{Q:List Vg.Wq}(h:NB w b xs rv v5 L)(hw:WS w' wb (wb+1) Q wv O)(hg:Vg.Grows w w')(hwb:w.heap.size<=wb):
  BT (Vg.put w' b (botC rv wb)) b xs rv wb Q wv O/\∀k,bown b xs rv wb O k->b<=k:=by
 have h':=h.grows hg
 have hbl:=h.lt
 have hbl':=h'.lt
 have hT:Vg.Touch (fun k=>k=b) w' (Vg.put w' b (botC rv wb)):=Vg.Touch.put (t:=fun k=>k=b) (Vg.Touch.refl _ _) rfl _
 obtain⟨a,c,hsh⟩:=h.row.shape
 have hlen:∃c,rv=.slice a xs.length c:=⟨c,hsh⟩
 have hfp:∀i (hi:i<xs.length) k,fp xs[i] k->k=xs[i].sb:=fun i hi k hk=>by
  rcases hk with hk|hk
  ·exact hk
  ·rw[(h.srv i hi).2.1]at hk;simp[Value.ownBlock]at hk
 have hsl:∀i (hi:i<xs.length),xs[i].sb<w.heap.size:=fun i hi=>(h.srv i hi).1.lt
 have hfw:∀k,fw wb O k->wb<=k:=fun k hk=>by
  rcases hk with hk|hk
  ·omega
  ·have:=(hw.own k hk).1;omega
 refine⟨⟨Vg.put_heap_same hbl',⟨a,hlen⟩,(h'.row.kept (w':=Vg.put w' b (botC rv wb)) fun k hk=>Vg.put_heap_other (by have:=(h'.row.lt k hk).1;omega)).reads.weaken (Nat.zero_le _),
  fun i hi=>((h'.srv i hi).1).touch hT (fun hh=>by have:=(h.srv i hi).2.2.1;omega) (fun k hk=>by rw[(h.srv i hi).2.1]at hk;simp[Value.ownBlock]at hk),
  hw.touch hT (fun hh=>by omega) (fun k hk hh=>by have:=(hw.own k hk).1;omega),fun i j hi hj hij k hk hk2=>?_,fun i hi k hk hh=>?_,fun i hi k hk=>?_,fun k hk=>?_⟩,?_⟩
 ·rw[hfp i hi k hk]at hk2
  exact h.inj i j hi hj hij (hfp j hj _ hk2)
 ·have:=hfp i hi k hk;have:=hsl i hi;have:=hfw k hh;omega
 ·rw[hfp i hi k hk]
  exact⟨by have:=(h.srv i hi).2.2.1;omega,(h.srv i hi).2.2.2.1⟩
 ·refine⟨by have:=hfw k hk;omega,fun hh=>by have:=(h.row.lt k hh).2;have:=hfw k hk;omega⟩
 ·rintro k (hk|hk|⟨i,hi,hk⟩|hk)
  ·omega
  ·have:=(h.row.lt k hk).1;omega
  ·have:=hfp i hi k hk;have:=(h.srv i hi).2.2.1;omega
  ·have:=hfw k hk;omega
theorem ws_newx{Q:List Vg.Wq}{sa:Option Addr}{sc n:Nat}(hr:Vg.IR w sa sc L)(hn:L.length=n)(h0:1<=L.length)(h1:L.length<=64)(h2:L.any Vg.oddW=false)(hQ:(L.map fun d=>(⟨[],d,0⟩:Vg.Wq))=Q):
  Calls Tryz.prog 50 #[.slice sa n sc] w fun e w'=>∃v O,e=.returned (.tuple #[.pointer (some ⟨w.heap.size,0,none⟩),.int .i64 0])/\WS w' w.heap.size (w.heap.size+1) Q v O/\Vg.Grows w w':=ws_new hn hr h0 h1 h2 hQ
def BNew(w w':World)(T:List Vg.Th)(e:Ending):Prop:=
 (Vg.goodT T=true/\(∃xs rv wb wv O,e=.returned (.tuple #[.pointer (some ⟨w.heap.size,0,none⟩),.int .i64 0])/\BT w' w.heap.size xs rv wb (Vg.Qs0 T) wv O/\xs.map (·.p)=T.map Vg.th0/\(∀k,bown w.heap.size xs rv wb O k->w.heap.size<=k))/\Vg.Grows w w') \/
 (Vg.goodT T=false/\e=.returned (.tuple #[.pointer none,.int .i64 1])/\Vg.Grows w w')
theorem bot_new_any {T:List Vg.Th} {sa:Option Addr} {sc n:Nat} (hr:Vg.TR w sa sc T) (hn:T.length=n) (hn2:n<=4398046511104) :
  Calls Tryz.prog 24 #[.slice sa n sc] w fun e w'=>BNew w w' T e:=by
 obtain⟨i0,hI,hz0,hz1,hz2⟩:=info_parts Tryz.info_bthread
 obtain⟨j0,hJ,hy0,hy1,hy2⟩:=info_parts Tryz.info_int
 have hcm:n<=9223372036854775807:=by omega
 have H_hr:=h_ hr;have H_hn:=h_ hn;clear hr hn
 go_enter Tryz.func24,Tryz.ntmps24
 go_wp2
 obtain⟨b,hb⟩:∃b,w.heap.size=b:=⟨_,rfl⟩
 obtain⟨W0,hW0⟩:∃W0,w.alloc (bnC (.slice none 0 0))=W0:=⟨_,rfl⟩
 have g0:NB W0 b [] (.slice none 0 0) (.slice none 0 0) []:=⟨by rw[<-hW0,<-hb];exact Vg.alloc_heap_at rfl,Vg.Que.nil _ _ _ _,Vg.Que.nil _ _ _ _,fun i h=>by simp at h,fun k h=>by simp[Value.ownBlock]at h,fun i j h=>by simp at h⟩
 have gg:Vg.Grows w W0:=by rw[<-hW0];exact Vg.gro
 have hbw:w.heap.size<=b:=by omega
 simp only[hb]
 rw[hW0]
 have H_hb:=h_ hb;have H_hW0:=h_ hW0;have H_g0:=h_ g0;clear hb hW0 g0
 go_loopw [5,16] (fun v5' i wr=>∃(k:Nat) (xs:List Vg.Bt) (rv v5:Value),k<=n/\i=.int .i64 k/\v5'=v5/\Vg.Grows w wr/\xs.map (·.p)=(T.take k).map Vg.th0/\(T.take k).any Vg.oddT=false/\NB wr b xs rv v5 ((T.take k).map (·.dp))) (fun _ i _=>n-(intOf i).toNat)
 case atStart=>exact⟨0,[],_,_,by omega,rfl,rfl,gg,by simp,by simp,by simpa using H_g0.out⟩
 case round=>
  obtain⟨k,xs,rv,v5,hk,rfl,rfl,hgr,hmap,hpre,hnb⟩:=hrel
  by_cases hlt:k<n
  ·have hkT:k<T.length:=by rw[H_hn.out];exact hlt
   obtain⟨g,off,rfl,hg,c0,c1,c2,c3⟩:=H_hr.out.2.2 k hkT
   have hrc:=H_hr.out.1
   have hrm:sc<=9223372036854775807:=H_hr.out.2.1
   rw[H_hn.out]at hrc
   have hsn:=List.take_succ_eq_append_getElem hkT
   obtain⟨t,ht⟩:∃t,T[k]=t:=⟨_,rfl⟩
   rw[ht]at c0 c1 c2 c3 hsn
   have c0:=(hgr.below.cell (p:=⟨g,off+k*4,none⟩) hg).trans c0
   have c1:=(hgr.below.cell (p:=⟨g,off+k*4+1,none⟩) hg).trans c1
   have c2:=(hgr.below.cell (p:=⟨g,off+k*4+2,none⟩) hg).trans c2
   have c3:=(hgr.below.cell (p:=⟨g,off+k*4+3,none⟩) hg).trans c3
   have hgl:g<wr.heap.size:=Nat.lt_of_lt_of_le hg hgr.size
   have hme:t∈T:=by rw[<-ht];exact List.getElem_mem _
   cases hodd:Vg.oddT t with
   | true=>
    have hbad:Vg.goodT T=false:=by
     have:T.any Vg.oddT=true:=List.any_eq_true.2 ⟨t,hme,hodd⟩
     unfold Vg.goodT;rw[this];rfl
    have hfin:∀w',Vg.Grows w w'->BNew w w' T (.returned (.tuple #[.pointer none,.int .i64 1])):=fun w' h=>.inr ⟨hbad,rfl,h⟩
    have hcase:(t.bu<1\/t.pe<t.bu\/1099511627776<t.pe)\/((1<=t.bu/\t.bu<=t.pe/\t.pe<=1099511627776)/\(t.pr<0\/(¬t.pr<0/\63<t.pr))):=by
     unfold Vg.oddT at hodd;simp at hodd;omega
    rcases hcase with h1|⟨⟨h1,h2,h3⟩,h4|⟨h4,h5⟩⟩
    ·have H_hmap:=h_ hmap;have H_hpre:=h_ hpre;have H_hnb:=h_ hnb;have H_hsn:=h_ hsn;have H_ht:=h_ ht;have H_hme:=h_ hme;have H_hodd:=h_ hodd;have H_hbad:=h_ hbad;have H_hfin:=h_ hfin;clear hmap hpre hnb hsn ht hme hodd hbad hfin
     go_wp2_with ((go_at_call 49;refine(serv_new_no t.bu t.pe h1).mono ?_;rintro e w1 ⟨rfl,rfl⟩))
     go_returns
     exact H_hfin.out _ (Vg.gro)
    ·have H_hmap:=h_ hmap;have H_hpre:=h_ hpre;have H_hnb:=h_ hnb;have H_hsn:=h_ hsn;have H_ht:=h_ ht;have H_hme:=h_ hme;have H_hodd:=h_ hodd;have H_hbad:=h_ hbad;have H_hfin:=h_ hfin;clear hmap hpre hnb hsn ht hme hodd hbad hfin
     go_wp2_with ((go_at_call 49;refine(serv_new_ok t.bu t.pe h1 h2 h3).mono ?_;rintro e w1 ⟨rfl,rfl⟩))
     go_returns
     exact H_hfin.out _ (Vg.gro)
    ·have H_hmap:=h_ hmap;have H_hpre:=h_ hpre;have H_hnb:=h_ hnb;have H_hsn:=h_ hsn;have H_ht:=h_ ht;have H_hme:=h_ hme;have H_hodd:=h_ hodd;have H_hbad:=h_ hbad;have H_hfin:=h_ hfin;clear hmap hpre hnb hsn ht hme hodd hbad hfin
     go_wp2_with ((go_at_call 49;refine(serv_new_ok t.bu t.pe h1 h2 h3).mono ?_;rintro e w1 ⟨rfl,rfl⟩))
     go_returns
     exact H_hfin.out _ (Vg.gro)
   | false=>
    obtain⟨⟨h1,h2,h3⟩,h4,h5⟩:=Vg.oddT_no hodd
    have hnx:(T.take (k+1)).any Vg.oddT=false:=by rw[hsn,List.any_append,hpre];simp[hodd]
    have hLk:((T.take k).map (·.dp)).length=k:=by rw[List.length_map,List.length_take];omega
    have hxk:xs.length=k:=by have:=congrArg List.length hmap;rw[List.length_map,List.length_map,List.length_take]at this;omega
    have hrow:=hnb.row
    have hdep:=hnb.dep
    obtain⟨ra,rc,rfl⟩:=hrow.shape
    obtain⟨a5,c5,rfl⟩:=hdep.shape
    rw[hLk]at hnb hdep ⊢
    rw[hxk]at hnb hrow
    have H_hmap:=h_ hmap;have H_hpre:=h_ hpre;have H_hnb:=h_ hnb;have H_hsn:=h_ hsn;have H_ht:=h_ ht;have H_hme:=h_ hme;have H_hodd:=h_ hodd;have H_hnx:=h_ hnx;have H_hLk:=h_ hLk;have H_hxk:=h_ hxk;have H_hrow:=h_ hrow;have H_hdep:=h_ hdep;clear hmap hpre hnb hsn ht hme hodd hnx hLk hxk hrow hdep
    go_upto_region 9 with((go_at_call 49;refine(sa_new h1 h2 h3).mono ?_;rintro e w1 ⟨rfl,hsa,rfl⟩;have HSA:=h_ hsa;clear hsa))
    have hsa:=HSA.out
    clear HSA
    obtain⟨wy,hwy⟩:∃wy,(wr.alloc (thR t)).alloc (servC t.bu t.pe (.slice none 0 0) 0)=wy:=⟨_,rfl⟩
    have hgy:Vg.Grows wr wy:=by rw[<-hwy];exact Vg.gro
    have x2:Vg.blk wy wr.heap.size=some (thR t):=by rw[<-hwy];exact(Vg.alloc_heap_past (by simp)).trans (Vg.alloc_heap_at rfl)
    have nb2:=H_hnb.out.grows hgy
    have q2:=H_hrow.out.grows hgy
    have x1:=nb2.tab
    have hgwy:=hgr.trans hgy
    have hszy:wy.heap.size=wr.heap.size+1+1:=by rw[<-hwy];simp
    have hbr:=H_hnb.out.lt
    have hrr:=H_hrow.out.lt
    have hdd:=H_hdep.out.lt
    have hss:∀i (hi:i<xs.length),xs[i].sb<wr.heap.size:=fun i hi=>(H_hnb.out.srv i hi).1.lt
    rw[hwy]at hsa ⊢
    simp only[World.size_alloc]at hsa ⊢
    obtain⟨sb,hsb⟩:∃sb,wr.heap.size+1=sb:=⟨_,rfl⟩
    rw[hsb]at hsa hszy
    simp only[hsb]
    obtain⟨bx,hbx⟩:∃bx,wr.heap.size=bx:=⟨_,rfl⟩
    rw[hbx]at x2 hsb hbr hrr hdd hss
    simp only[hbx]
    have n1:b≠bx:=by omega
    have n2:bx≠b:=by omega
    have hsz9:b+1<=wy.heap.size:=by omega
    have lb1:b<sb+1:=by omega
    have lb2:bx<sb+1:=by omega
    obtain⟨c_x1,f_x1,p_x1,l_x1,H_x1⟩:=Vg.lay x1;clear x1;obtain⟨c_x2,f_x2,p_x2,l_x2,H_x2⟩:=Vg.lay x2;clear x2
    have H_hsa:=h_ hsa;have H_nb2:=h_ nb2;have H_q2:=h_ q2;have H_hwy:=h_ hwy;have H_hrr:=h_ hrr;have H_hdd:=h_ hdd;have H_hss:=h_ hss;have H_hbx:=h_ hbx;clear hsa nb2 q2 hwy hrr hdd hss hbx
    go_cut [] (fun wz=>∃(xs':List Vg.Bt) (rv2:Value),xs'.map (·.p)=(T.take (k+1)).map Vg.th0/\NB wz b xs' rv2 (.slice a5 k c5) ((T.take k).map (·.dp))/\Vg.blk wz bx=some (thR t)/\Vg.Grows w wz)
    case first=>
     go_region_law (refine Vg.step_que1 rfl (.tmp 44) (.tmp 48) 158 rfl (b+1) 166 i0 (.agg #[.int .i64 0,.int .i64 0,.int .i64 0,.int .i64 0,.pointer none]) 5 40 Tryz.underlying158 hI hz0 hz1 hz2 rfl (by decide) (.slice ra k rc) k (Vg.bcells xs) (by simp[Act.eval,Act.put]) (H_q2.out.grows (Vg.gro)) ⟨sb+1,0,none⟩ 1 [.int .i64 t.pr,.int .i64 t.bu,.int .i64 t.pe,.int .i64 t.dp,.pointer (some ⟨sb,0,none⟩)] (by simp[Act.eval,Act.put]) rfl (Vg.five_new (by first|rfl|((try simp only[World.size_alloc,Vg.plus_size,Vg.put_size,World.size_setCell,World.size_drew,World.heap_drewN]) <;> omega))) (by simp[Value.oneCell']) (by unfold maxLen;omega) (by omega) (by decide) (by simp only[World.size_alloc,World.heap_drewN,World.size_drew];omega) ?_;intro v2 W1 y2 m2 hq2 hs2 ho2;obtain⟨a2,c2,rfl⟩:=hq2.shape;have z1:=(hs2.block b (fun hh=>by have:=(H_q2.out.lt b hh).1;omega)).trans (Vg.Grows.blk (w0:=wy) (Vg.gro) H_x1.out);have z2:=(hs2.block bx (fun hh=>by have:=(H_hrr.out bx hh).2;omega)).trans (Vg.Grows.blk (w0:=wy) (Vg.gro) H_x2.out);have hszW:=hs2.size;have hgW:=hs2.grows (w0:=w) (Vg.Grows.trans hgwy (Vg.gro)) (fun j hj=>by have:=(H_q2.out.lt j hj).1;omega);have nb4:=fun m=>NB.app1 (m:=m) (x:=⟨⟨t,⟨[],0⟩⟩,sb,.slice none 0 0⟩) (NB.grows H_nb2.out (Vg.gro)) (SA.grows H_hsa.out (Vg.gro)) rfl (by show b<sb;omega) (fun hh=>by have:=(H_hrr.out sb hh).2;omega) (fun hh=>by have:=(H_hdd.out sb hh).2;omega) (fun i hi hh=>by have hh:xs[i].sb=sb:=hh;have:=H_hss.out i hi;omega) (by rw[H_hxk.out];exact hq2) rfl hs2 ho2;clear c_x1 f_x1 p_x1 c_x2 f_x2 p_x2;obtain⟨c_z1,f_z1,p_z1,l_z1,H_z1⟩:=Vg.lay z1;clear z1;obtain⟨c_z2,f_z2,p_z2,l_z2,H_z2⟩:=Vg.lay z2;clear z2;have e1:(Vg.plus W1 y2 m2).cell? ⟨b,0,none⟩=some (.slice ra k rc):=(by rw[Vg.plus_cell l_z1,c_z1];rfl);have e2:(Vg.plus W1 y2 m2).frozen? ⟨b,0,none⟩=false:=(by rw[Vg.plus_frozen l_z1,f_z1]);have H_hq2:=h_ hq2;have H_hs2:=h_ hs2;have H_ho2:=h_ ho2;have H_nb4:=h_ nb4;have H_hszW:=h_ hszW;clear hq2 hs2 ho2 nb4 hszW)
     all_goals go_wp2_with fail
     all_goals go_meet
     all_goals refine⟨xs ++ [⟨⟨t,⟨[],0⟩⟩,sb,.slice none 0 0⟩],.slice a2 (k+1) c2,by rw[List.map_append,H_hmap.out,H_hsn.out,List.map_append];rfl,?_,?_,Vg.Grows.plus (Vg.Grows.put hgW hbw _) _ _⟩
     all_goals first
      | (have h9:=H_nb4.out m2;rw[Vg.put_plus l_z1]at h9;exact h9)
      | (rw[Vg.blk_plus (by rw[Vg.put_size];exact l_z2)];exact(Vg.put_heap_other n1).trans H_z2.out)
    case rest=>
     obtain⟨xs',rv2,hmap',nb3,x3,hg3⟩:=hcut
     have hdep3:=nb3.dep
     rw[H_hLk.out]at hdep3
     have hsz3:b+1<=wc.heap.size:=nb3.lt
     clear c_x1 f_x1 p_x1 c_x2 f_x2 p_x2
     obtain⟨c_x3,f_x3,p_x3,l_x3,H_x3⟩:=Vg.lay x3;clear x3
     have H_hmap':=h_ hmap';have H_nb3:=h_ nb3;have H_hdep3:=h_ hdep3;clear hmap' nb3 hdep3
     go_wp2_with (at_builtin;(refine Vg.wpList_que1 (w:=_) rfl (.tmp 52) (.tmp 55) 138 rfl (b+1) 3 j0 (.int .i64 0) 1 8 Tryz.underlying138 hJ hy0 hy1 hy2 rfl (by decide) (.slice a5 k c5) k _ rfl (H_hdep3.out.grows (Vg.gro)) _ 1 [.int .i64 t.dp] rfl rfl (Vg.one_new (by first|rfl|((try simp only[World.size_alloc,Vg.plus_size,Vg.put_size,World.size_setCell,World.size_drew,World.heap_drewN]) <;> omega))) (by simp[Value.oneCell']) (by unfold maxLen;omega) (by omega) (by decide) (by simp only[World.size_alloc];omega) ?_;intro v2 W1 y2 m2 hq2 hs2 ho2;have nb5:=NB.app2 (d:=t.dp) (NB.grows H_nb3.out (Vg.gro)) (by rw[H_hLk.out];exact hq2) hs2 ho2;have hgW2:=hs2.grows (hg3.alloc _) (fun j hj=>by have:=(H_hdep3.out.lt j hj).1;omega);obtain⟨a6,c6,rfl⟩:=hq2.shape;have H_hq2:=h_ hq2;have H_hs2:=h_ hs2;have H_ho2:=h_ ho2;have H_nb5:=h_ nb5;clear hq2 hs2 ho2 nb5))
     refine⟨⟨k+1,xs',rv2,.slice a6 (k+1) c6,by omega,by go_num,rfl,Vg.gro,H_hmap'.out,H_hnx.out,?_⟩,by simp[intOf];omega⟩
     have h9:=H_nb5.out
     rw[H_hsn.out,List.map_append]
     exact h9
  ·have hkn:k=n:=by omega
   subst hkn
   have htk:T.take k=T:=List.take_of_length_le (by rw[H_hn.out];exact Nat.le_refl _)
   rw[htk]at hmap hpre hnb
   have x1:=hnb.tab
   have hdep:=hnb.dep
   have hlD:(T.map (·.dp)).length=k:=by rw[List.length_map];exact H_hn.out
   have hbr:=hnb.lt
   obtain⟨c_x1,f_x1,p_x1,l_x1,H_x1⟩:=Vg.lay x1;clear x1
   by_cases hz:k=0
   ·subst hz
    have hT:T=[]:=List.eq_nil_of_length_eq_zero H_hn.out
    subst hT
    have o1:[(1:Int)].any Vg.oddW=false:=by decide
    have H_hmap:=h_ hmap;have H_hpre:=h_ hpre;have H_hnb:=h_ hnb;have H_hdep:=h_ hdep;have H_htk:=h_ htk;have H_hlD:=h_ hlD;have H_o1:=h_ o1;clear hmap hpre hnb hdep htk hlD o1
    go_wp2_with ((go_at_call 50;refine(ws_newx (L:=[1]) (Q:=Vg.Qs0 []) (Vg.IR.block (L:=[1]) (Vg.alloc_heap_at (by(try simp only[World.size_alloc,Vg.plus_size,Vg.put_size,World.size_setCell,World.size_drew]) <;> omega)) (by simp[maxLen])) rfl (by decide) (by decide) H_o1.out rfl).mono ?_;rintro e w2 ⟨wv,O,rfl,hws,hgw⟩;(have y1:=(Vg.Grows.blk (w0:=wr) (Vg.Grows.trans (Vg.gro) hgw) H_x1.out);have hd:=NB.done (w:=wr) H_hnb.out hws (Vg.Grows.trans (Vg.gro) hgw) (by simp);have hgw2:=Vg.Grows.trans hgr (Vg.Grows.trans (Vg.gro) hgw);clear c_x1 f_x1 p_x1;obtain⟨c_y1,f_y1,p_y1,l_y1,H_y1⟩:=Vg.lay y1;clear y1;have H_hws:=h_ hws;have H_hgw:=h_ hgw;have H_hd:=h_ hd;clear hws hgw hd)))
    go_returns
    refine .inl ⟨by decide,?_,Vg.Grows.put hgw2 hbw _⟩
    rw[H_hb.out]
    have h9:=H_hd.out
    simp only[World.size_alloc]at h9
    exact⟨xs,rv,wr.heap.size+1,wv,O,rfl,h9.1,H_hmap.out,h9.2⟩
   ·have hzz:((k:Int)==0)=false:=by simp;exact hz
    obtain⟨a5,c5,rfl⟩:=hdep.shape
    rw[hlD]at hdep hnb ⊢
    have hir:Vg.IR wr a5 c5 (T.map (·.dp)):=Vg.IR.of_reads hdep.reads hlD
    have hdl:Vg.deps T=T.map (·.dp):=by unfold Vg.deps;rw[if_neg (by rw[H_hn.out];exact hz)]
    by_cases hgd:k<=64/\(T.map (·.dp)).any Vg.oddW=false
    ·obtain⟨hk64,hod⟩:=hgd
     have hgood:Vg.goodT T=true:=by unfold Vg.goodT;rw[hpre,hod,H_hn.out];simpa using hk64
     have hQ:((T.map (·.dp)).map fun d=>(⟨[],d,0⟩:Vg.Wq))=Vg.Qs0 T:=by unfold Vg.Qs0;rw[hdl]
     have H_hmap:=h_ hmap;have H_hpre:=h_ hpre;have H_hnb:=h_ hnb;have H_hdep:=h_ hdep;have H_htk:=h_ htk;have H_hlD:=h_ hlD;have H_hir:=h_ hir;have H_hdl:=h_ hdl;have H_hod:=h_ hod;have H_hgood:=h_ hgood;have H_hQ:=h_ hQ;clear hmap hpre hnb hdep htk hlD hir hdl hod hgood hQ
     go_wp2_with ((go_at_call 50;refine(ws_newx (L:=T.map (·.dp)) (Q:=Vg.Qs0 T) H_hir.out H_hlD.out (by rw[H_hlD.out];omega) (by rw[H_hlD.out];exact hk64) H_hod.out H_hQ.out).mono ?_;rintro e w2 ⟨wv,O,rfl,hws,hgw⟩;(have y1:=(Vg.Grows.blk (w0:=wr) (Vg.Grows.trans (Vg.gro) hgw) H_x1.out);have hd:=NB.done (w:=wr) H_hnb.out hws (Vg.Grows.trans (Vg.gro) hgw) (by simp);have hgw2:=Vg.Grows.trans hgr (Vg.Grows.trans (Vg.gro) hgw);clear c_x1 f_x1 p_x1;obtain⟨c_y1,f_y1,p_y1,l_y1,H_y1⟩:=Vg.lay y1;clear y1;have H_hws:=h_ hws;have H_hgw:=h_ hgw;have H_hd:=h_ hd;clear hws hgw hd)))
     go_returns
     refine .inl ⟨H_hgood.out,?_,Vg.Grows.put hgw2 hbw _⟩
     rw[H_hb.out]
     exact⟨xs,rv,_,wv,O,rfl,H_hd.out.1,H_hmap.out,H_hd.out.2⟩
    ·have hbad:Vg.goodT T=false:=by
      cases hh:Vg.goodT T with
      | false=>rfl
      | true=>
       unfold Vg.goodT at hh
       simp only[Bool.and_eq_true,Bool.not_eq_true',decide_eq_true_eq]at hh
       exact absurd ⟨by rw[<-H_hn.out];exact hh.1.2,hh.2⟩ hgd
     have hno:(T.map (·.dp)).length=0\/64<(T.map (·.dp)).length\/(T.map (·.dp)).any Vg.oddW=true:=by
      by_cases h64:k<=64
      ·right;right
       cases hh:(T.map (·.dp)).any Vg.oddW with
       | true=>rfl
       | false=>exact absurd ⟨h64,hh⟩ hgd
      ·right;left;rw[hlD];omega
     have H_hmap:=h_ hmap;have H_hpre:=h_ hpre;have H_hnb:=h_ hnb;have H_hdep:=h_ hdep;have H_htk:=h_ htk;have H_hlD:=h_ hlD;have H_hir:=h_ hir;have H_hdl:=h_ hdl;have H_hgd:=h_ hgd;have H_hbad:=h_ hbad;have H_hno:=h_ hno;clear hmap hpre hnb hdep htk hlD hir hdl hgd hbad hno
     go_wp2_with ((go_at_call 50;refine(ws_new_no (L:=T.map (·.dp)) H_hlD.out H_hir.out H_hno.out).mono ?_;rintro e w2 ⟨rfl,rfl⟩))
     go_returns
     exact .inr ⟨H_hbad.out,rfl,hgr⟩
end
end Go.Proofs.YtlkdkgefjipjmaaGreatDoor
namespace Go.Proofs.YtlkdkgefjipjmaaGreatDoor
open Go.ChangeShapes Go.WideShapes Go.ChangeAt Go.RowKit
structure BS(w:World)(b lo:Nat)(Bs:List Vg.Bp)(Q:List Vg.Wq)(OB:Nat->Prop):Prop where
 ex:∃xs rv wb wv O,BT w b xs rv wb Q wv O/\xs.map (·.p)=Bs/\∀k,bown b xs rv wb O k->OB k
 own:∀k,OB k->lo<=k/\k<w.heap.size
section
variable {w w' w0:World}{b lo n:Nat}{Bs Bs':List Vg.Bp}{Q Q':List Vg.Wq}{OB:Nat->Prop}{r x:Int}{is:Bool}
theorem BS.touch{t:Nat->Prop}(h:BS w b lo Bs Q OB)(ht:Vg.Touch t w w')(hv:∀k,OB k->¬t k):BS w' b lo Bs Q OB:=by
 obtain⟨⟨xs,rv,wb,wv,O,h1,h2,h3⟩,h4⟩:=h
 exact⟨⟨xs,rv,wb,wv,O,h1.touch ht fun k hk=>hv k (h3 k hk),h2,h3⟩,fun k hk=>⟨(h4 k hk).1,Nat.lt_of_lt_of_le (h4 k hk).2 ht.size⟩⟩
def BSn(w w':World)(b lo:Nat)(Bs':List Vg.Bp)(Q':List Vg.Wq)(OB:Nat->Prop):Prop:=
 ∃OB',BS w' b lo Bs' Q' OB'/\(∀k,OB' k->OB k\/w.heap.size<=k)/\Vg.Touch OB w w'
theorem BSn.of{xs:List Vg.Bt}{rv wv:Value}{wb:Nat}{O:Nat->Prop}(hlo:lo<=w.heap.size)(h4:∀k,OB k->lo<=k/\k<w.heap.size)(h3:∀k,bown b xs rv wb O k->OB k)(hn:BTn w w' b xs rv wb Q' wv O Bs'):BSn w w' b lo Bs' Q' OB:=by
 obtain⟨xs',O',h1,h2,h5,h6⟩:=hn
 refine⟨bown b xs' rv wb O',⟨⟨xs',rv,wb,wv,O',h1,h2,fun k hk=>hk⟩,fun k hk=>⟨?_,h1.own_lt k hk⟩⟩,fun k hk=>?_,h6.mono fun k _ hk=>h3 k hk⟩
 ·rcases h5 k hk with h7|h7
  ·exact(h4 k (h3 k h7)).1
  ·omega
 ·rcases h5 k hk with h7|h7
  ·exact .inl (h3 k h7)
  ·exact .inr h7
theorem BS.lo_le(h:BS w b lo Bs Q OB):lo<=w.heap.size:=by
 obtain⟨⟨xs,rv,wb,wv,O,h1,h2,h3⟩,h4⟩:=h
 have:=h4 b (h3 b (.inl rfl));omega
theorem bs_refill{k:Nat}(now:Int)(h:BS w b lo Bs Q OB)(hI:Vg.Bo.Inv k Bs Q)(hx:Vg.Bo.refill Bs now=(Bs',r)):
  Calls Tryz.prog 65 #[.pointer (some ⟨b,0,none⟩),.int .i64 now] w fun e w'=>e=.returned (.int .i64 r)/\BSn w w' b lo Bs' Q OB:=by
 have hlo:=h.lo_le
 obtain⟨⟨xs,rv,wb,wv,O,h1,rfl,h3⟩,h4⟩:=h
 refine(bot_refill now h1 hI hx).mono ?_
 rintro e w' ⟨rfl,hn⟩
 exact⟨rfl,BSn.of hlo h4 h3 hn⟩
theorem bs_next(h:BS w b lo Bs Q OB)(hle:Bs.length<=64)(hx:Vg.Bo.next Bs Q=(x,is)):
  Calls Tryz.prog 91 #[.pointer (some ⟨b,0,none⟩)] w fun e w'=>e=.returned (.tuple #[.int .i64 x,.bool is])/\Vg.Grows w w':=by
 obtain⟨⟨xs,rv,wb,wv,O,h1,rfl,h3⟩,h4⟩:=h
 exact bot_next h1 (by simpa using hle) hx
theorem bs_pick(h:BS w b lo Bs Q OB){m:Int}(hr:Vg.Bo.best Bs Q=r)(hm:max r 0=m)(his:decide (0<=r)=is):
  Calls Tryz.prog 127 #[.pointer (some ⟨b,0,none⟩)] w fun e w'=>e=.returned (.tuple #[.int .i64 m,.bool is])/\Vg.Grows w w':=by
 obtain⟨⟨xs,rv,wb,wv,O,h1,rfl,h3⟩,h4⟩:=h
 exact bot_pick h1 hr hm his
theorem bs_new{T:List Vg.Th}{sa:Option Addr}{sc:Nat}(hr:Vg.TR w sa sc T)(hn:T.length=n)(hn2:n<=4398046511104)(hg:Vg.goodT T=true)(hB:T.map Vg.th0=Bs)(hQ:Vg.Qs0 T=Q):
  Calls Tryz.prog 24 #[.slice sa n sc] w fun e w'=>∃OB,e=.returned (.tuple #[.pointer (some ⟨w.heap.size,0,none⟩),.int .i64 0])/\BS w' w.heap.size w.heap.size Bs Q OB/\Vg.Grows w w':=by
 subst hB hQ
 refine(bot_new_any hr hn hn2).mono ?_
 rintro e w' (⟨_,⟨xs,rv,wb,wv,O,rfl,hb,hmap,hlo⟩,hgr⟩|⟨hbad,_⟩)
 ·exact⟨bown w.heap.size xs rv wb O,rfl,⟨⟨xs,rv,wb,wv,O,hb,hmap,fun k hk=>hk⟩,fun k hk=>⟨hlo k hk,hb.own_lt k hk⟩⟩,hgr⟩
 ·rw[hg]at hbad;cases hbad
theorem bs_new_no{T:List Vg.Th}{sa:Option Addr}{sc:Nat}(hr:Vg.TR w sa sc T)(hn:T.length=n)(hn2:n<=4398046511104)(hg:Vg.goodT T=false):
  Calls Tryz.prog 24 #[.slice sa n sc] w fun e w'=>e=.returned (.tuple #[.pointer none,.int .i64 1])/\Vg.Grows w w':=by
 refine(bot_new_any hr hn hn2).mono ?_
 rintro e w' (⟨hbad,_⟩|⟨_,rfl,hgr⟩)
 ·rw[hg]at hbad;cases hbad
 ·exact⟨rfl,hgr⟩
end
end Go.Proofs.YtlkdkgefjipjmaaGreatDoor
namespace Vg
open Go
end Vg
namespace Go.Proofs.YtlkdkgefjipjmaaGreatDoor
open Go.ChangeShapes Go.WideShapes Go.ChangeAt Go.RowKit
section
variable {w w' w0 w2 w3:World}{b B S0 bw n q N:Nat}{S:Nat->Prop}{M M':List Vg.Mx}{v v2:Value}{o o':Obj}{r lv:Int}{L F:List Int}
theorem ce_levelx(task prio:Int)(h:CE w b B M v)(hl:Vg.Tb.level M (Vg.Tb.of M task M.length) prio=lv):
  Calls Tryz.prog 192 #[.pointer (some ⟨b,0,none⟩),.int .i64 task,.int .i64 prio] w fun e w'=>e=.returned (.int .i64 lv)/\Vg.Grows w w':=by
 subst hl
 exact ce_level task prio h
end
end Go.Proofs.YtlkdkgefjipjmaaGreatDoor
