/- IrqG, IrqH (put together). -/
import Derived.Test.YtlkdkgefjipjmaaGreatDoorP18
import Derived.Test.YtlkdkgefjipjmaaGreatDoorP10
import Derived.Test.YtlkdkgefjipjmaaGreatDoorQ0
set_option linter.all false
set_option maxHeartbeats 40000000
set_option maxRecDepth 100000
namespace Vg
open Go Go.RowKit
structure Lin where
 pr:Int
 top:Int
 many:Int
 wd:Int
def LR(w:World)(sa:Option Addr)(sc:Nat)(T:List Lin):Prop:=
 T.length<=sc/\sc<=maxLen/\∀k,(hk:k<T.length)->∃g off,sa=some ⟨g,off,none⟩/\g<w.heap.size/\w.cell? ⟨g,off+k*4,none⟩=some (.int .i64 T[k].pr)/\w.cell? ⟨g,off+k*4+1,none⟩=some (.int .i64 T[k].top)/\w.cell? ⟨g,off+k*4+2,none⟩=some (.int .i64 T[k].many)/\w.cell? ⟨g,off+k*4+3,none⟩=some (.int .i64 T[k].wd)
theorem LR.grows{w w':World}{sa:Option Addr}{c:Nat}{T:List Lin}(h:LR w sa c T)(hg:Grows w w'):LR w' sa c T:=
 ⟨h.1,h.2.1,fun k hk=>by
  obtain⟨g,off,e,hlt,c0,c1,c2,c3⟩:=h.2.2 k hk
  exact⟨g,off,e,Nat.lt_of_lt_of_le hlt hg.size,(hg.below.cell (p:=⟨g,off+k*4,none⟩) hlt).trans c0,(hg.below.cell (p:=⟨g,off+k*4+1,none⟩) hlt).trans c1,(hg.below.cell (p:=⟨g,off+k*4+2,none⟩) hlt).trans c2,(hg.below.cell (p:=⟨g,off+k*4+3,none⟩) hlt).trans c3⟩⟩
def oddL(t:Lin):Bool:=!(decide (1<=t.many)&&decide (t.many<=64)&&decide (1<=t.wd)&&decide (t.wd<=1099511627776)&&decide (1<=t.top)&&decide (t.top<=1099511627776))
theorem oddL_no{t:Lin}(h:oddL t=false):(1<=t.many/\t.many<=64/\1<=t.wd/\t.wd<=1099511627776)/\(1<=t.top/\t.top<=1099511627776):=by
 unfold oddL at h
 simp at h;omega
def ln0(t:Lin):Ln:=⟨0,0,0,0,t.many.toNat,t.wd,[],0⟩
def prs(T:List Lin):List Int:=if T.length=0 then [1]else T.map (·.pr)
def goodL(T:List Lin):Bool:=!(T.any oddL)&&decide (T.length<=64) && !((T.map (·.pr)).any oddP)
end Vg
namespace Go.Proofs.YtlkdkgefjipjmaaGreatDoor
open Go.ChangeShapes Go.WideShapes Go.ChangeAt Go.RowKit
theorem Tryz.info_line:(Tryz.prog.info? 154).map (fun i=>(i.zero,i.size,i.bytes))=some (some (.agg #[.pointer none,.int .i64 0,.int .i64 0,.int .i64 0,.int .i64 0]),5,40):=by kernel_rfl
abbrev iqZ(lv:Value):Obj:=.cells #[.int .u64 0,.int .u64 0,.int .u64 0,.int .u64 0,.slice none 0 0,.int .i64 0,.slice none 0 0,lv,.slice none 0 0,.int .u64 0,.int .i64 0] 149
structure NQ(w:World)(b:Nat)(xs:List Vg.Lq)(rv v5:Value)(L:List Int):Prop where
 tab:Vg.blk w b=some (iqZ rv)
 row:Vg.Que w (b+1) 154 5 rv xs.length (Vg.lcells xs)
 dep:Vg.Que w (b+1) 3 1 v5 L.length (Vg.ics L)
 mks:∀i (h:i<xs.length),MK w xs[i].mb xs[i].rb xs[i].p.many xs[i].p.wd xs[i].p.q xs[i].p.ml/\(b<xs[i].mb/\b<xs[i].rb)/\(rv.ownBlock≠some xs[i].mb/\rv.ownBlock≠some xs[i].rb)/\(v5.ownBlock≠some xs[i].mb/\v5.ownBlock≠some xs[i].rb)
 ne:∀k,rv.ownBlock=some k->v5.ownBlock≠some k
 inj:∀i j (hi:i<xs.length)(hj:j<xs.length),i≠j->xs[i].mb≠xs[j].mb/\xs[i].mb≠xs[j].rb/\xs[i].rb≠xs[j].mb/\xs[i].rb≠xs[j].rb
section
variable {w w' W1:World}{b n m:Nat}{xs:List Vg.Lq}{rv v5 rv2 v2:Value}{L:List Int}{y:Array Obj}
theorem NQ.grows(h:NQ w b xs rv v5 L)(hg:Vg.Grows w w'):NQ w' b xs rv v5 L:=
 ⟨hg.blk h.tab,h.row.grows hg,h.dep.grows hg,fun i hi=>⟨(h.mks i hi).1.grows hg,(h.mks i hi).2⟩,h.ne,h.inj⟩
theorem NQ.lt(h:NQ w b xs rv v5 L):b<w.heap.size:=Vg.lt_of h.tab
theorem NQ.app1{x:Vg.Lq}{news:List Value}(h:NQ w b xs rv v5 L)(hs:MK w x.mb x.rb x.p.many x.p.wd x.p.q x.p.ml)(hb:b<x.mb/\b<x.rb)(h1:rv.ownBlock≠some x.mb/\rv.ownBlock≠some x.rb)(h2:v5.ownBlock≠some x.mb/\v5.ownBlock≠some x.rb)(h3:∀i (hi:i<xs.length),(xs[i].mb<x.mb/\xs[i].mb<x.rb)/\(xs[i].rb<x.mb/\xs[i].rb<x.rb))
  (hq:Vg.Que (Vg.plus W1 y m) (b+1) 154 5 rv2 (xs.length+1) (Vg.lcells xs++news))(hn:Vg.lcells [x]=news)(hS:Vg.Same (fun j=>rv.ownBlock=some j) w W1)(ho:rv2.ownBlock=rv.ownBlock\/rv2.ownBlock=some w.heap.size):
  NQ (Vg.put (Vg.plus W1 y m) b (iqZ rv2)) b (xs ++ [x]) rv2 v5 L:=by
 subst hn
 have hT:Vg.Touch (fun k=>rv.ownBlock=some k\/k=b) w (Vg.put (Vg.plus W1 y m) b (iqZ rv2)):=
  ((((Vg.Touch.of_same hS).mono fun k _ hk=>.inl hk).trans (Vg.Touch.of_grows ((Vg.Grows.refl W1).plus y m)))).put (.inr rfl) _
 have hrl:=h.row.lt
 have hdl:=h.dep.lt
 have hbl:=h.lt
 have hx:=hs.lt
 have hbW:b<(Vg.plus W1 y m).heap.size:=by rw[Vg.plus_size,hS.size];omega
 have hall:∀i (hi:i<(xs ++ [x]).length),(∃hi':i<xs.length,(xs ++ [x])[i]=xs[i])\/(i=xs.length/\(xs ++ [x])[i]=x):=fun i hi=>by
  by_cases hlt:i<xs.length
  ·exact .inl ⟨hlt,List.getElem_append_left hlt⟩
  ·have:i=xs.length:=by simp at hi;omega
   subst this
   exact .inr ⟨rfl,by simp⟩
 have hold:∀(z:Vg.Lq),(MK w z.mb z.rb z.p.many z.p.wd z.p.q z.p.ml/\(b<z.mb/\b<z.rb)/\(rv.ownBlock≠some z.mb/\rv.ownBlock≠some z.rb)/\(v5.ownBlock≠some z.mb/\v5.ownBlock≠some z.rb)) ->
   MK (Vg.put (Vg.plus W1 y m) b (iqZ rv2)) z.mb z.rb z.p.many z.p.wd z.p.q z.p.ml/\(b<z.mb/\b<z.rb)/\(rv2.ownBlock≠some z.mb/\rv2.ownBlock≠some z.rb)/\(v5.ownBlock≠some z.mb/\v5.ownBlock≠some z.rb):=fun z hz=>by
  obtain⟨z1,z3,z4,z5⟩:=hz
  have zl:=z1.lt
  refine⟨z1.touch hT (fun hh=>by rcases hh with hh|hh;exact z4.1 hh;omega) (fun hh=>by rcases hh with hh|hh;exact z4.2 hh;omega),z3,⟨fun hh=>?_,fun hh=>?_⟩,z5⟩
  ·rcases ho with h5|h5
   ·exact z4.1 (h5.symm.trans hh)
   ·have:=Option.some.inj (hh.symm.trans h5);omega
  ·rcases ho with h5|h5
   ·exact z4.2 (h5.symm.trans hh)
   ·have:=Option.some.inj (hh.symm.trans h5);omega
 refine⟨Vg.put_heap_same hbW,?_,h.dep.kept fun k hk=>hT.block k (hdl k hk).2 fun hh=>?_,fun i hi=>?_,fun k hk hk2=>?_,fun i j hi hj hij=>?_⟩
 ·rw[List.length_append,Vg.lcells_append]
  exact hq.kept fun k hk=>Vg.put_heap_other (by have:=(hq.lt k hk).1;omega)
 ·rcases hh with hh|hh
  ·exact h.ne k hh hk
  ·have:=(hdl k hk).1;omega
 ·rcases hall i hi with⟨hi',e⟩|⟨_,e⟩
  ·rw[e];exact hold _ (h.mks i hi')
  ·rw[e];exact hold _ ⟨hs,hb,h1,h2⟩
 ·rcases ho with h5|h5
  ·exact h.ne k (h5.symm.trans hk) hk2
  ·have:some k=some w.heap.size:=hk.symm.trans h5
   cases this
   have:=(hdl _ hk2).2;omega
 ·rcases hall i hi with⟨hi',e⟩|⟨hi',e⟩<;>rcases hall j hj with⟨hj',e2⟩|⟨hj',e2⟩<;>rw[e,e2]
  ·exact h.inj i j hi' hj' hij
  ·have:=h3 i hi';omega
  ·have:=h3 j hj';omega
  ·omega
theorem NQ.app2{d:Int}(h:NQ w b xs rv v5 L)(hq:Vg.Que (Vg.plus W1 y m) (b+1) 3 1 v2 (L.length+1) (Vg.ics L ++ [.int .i64 d]))(hS:Vg.Same (fun j=>v5.ownBlock=some j) w W1)(ho:v2.ownBlock=v5.ownBlock\/v2.ownBlock=some w.heap.size):
  NQ (Vg.plus W1 y m) b xs rv v2 (L ++ [d]):=by
 have hT:Vg.Touch (fun k=>v5.ownBlock=some k) w (Vg.plus W1 y m):=(Vg.Touch.of_same hS).trans (Vg.Touch.of_grows ((Vg.Grows.refl W1).plus y m))
 have hrl:=h.row.lt
 have hdl:=h.dep.lt
 have hbl:=h.lt
 refine⟨hT.bk h.tab fun hh=>by have:=(hdl b hh).1;omega,h.row.kept fun k hk=>hT.block k (hrl k hk).2 (h.ne k hk),?_,fun i hi=>?_,fun k hk hk2=>?_,h.inj⟩
 ·have e1:(L ++ [d]).length=L.length+1:=by simp
  have e2:Vg.ics (L ++ [d])=Vg.ics L ++ [.int .i64 d]:=by simp[Vg.ics]
  rw[e1,e2];exact hq
 ·obtain⟨z1,z3,z4,z5⟩:=h.mks i hi
  have zl:=z1.lt
  refine⟨z1.touch hT z5.1 z5.2,z3,z4,⟨fun hh=>?_,fun hh=>?_⟩⟩
  ·rcases ho with h5|h5
   ·exact z5.1 (h5.symm.trans hh)
   ·have:=Option.some.inj (hh.symm.trans h5);omega
  ·rcases ho with h5|h5
   ·exact z5.2 (h5.symm.trans hh)
   ·have:=Option.some.inj (hh.symm.trans h5);omega
 ·rcases ho with h5|h5
  ·exact h.ne k hk (h5.symm.trans hk2)
  ·have:some k=some w.heap.size:=hk2.symm.trans h5
   cases this
   have:=(hrl _ hk).2;omega
def QZ(w:World)(b nl:Nat)(last:Int)(OB:Nat->Prop):Prop:=
 ∃c n pa pc sa sc la lc,c.pe=0/\c.st=[]/\Vg.blk w b=some (irqC 0 c.en (2 ^ n-1) pa n pc sa 0 sc (.slice la nl lc) (.slice none 0 0) 0 last)/\IS w c n 0 pa pc sa sc/\(∀k,(Value.slice pa n pc).ownBlock=some k->k≠b/\OB k)/\(∀k,(Value.slice sa 0 sc).ownBlock=some k->k≠b/\OB k)/\OB b/\(∀k,OB k->k<w.heap.size)/\nl<=lc/\lc<=9223372036854775807/\(nl=0 \/ ∃g o,la=some ⟨g,o,none⟩)
theorem QZ.touch{nl:Nat}{last:Int}{OB t:Nat->Prop}(h:QZ w b nl last OB)(ht:Vg.Touch t w w')(hv:∀k,OB k->¬t k):QZ w' b nl last OB:=by
 obtain⟨c,n,pa,pc,sa,sc,la,lc,h1,h2,h3,h4,h5,h6,h7,h8,h9⟩:=h
 exact⟨c,n,pa,pc,sa,sc,la,lc,h1,h2,ht.bk h3 (hv b h7),h4.touch ht (fun k hk=>hv k (h5 k hk).2) (fun k hk=>hv k (h6 k hk).2),h5,h6,h7,fun k hk=>Nat.lt_of_lt_of_le (h8 k hk) ht.size,h9⟩
theorem QZ.grows{nl:Nat}{last:Int}{OB:Nat->Prop}(h:QZ w b nl last OB)(hg:Vg.Grows w w'):QZ w' b nl last OB:=h.touch (t:=fun _=>False) (Vg.Touch.of_grows hg) fun _ _ hh=>hh.elim
theorem QZ.own{nl:Nat}{last:Int}{OB:Nat->Prop}(h:QZ w b nl last OB):OB b/\∀k,OB k->k<w.heap.size:=by
 obtain⟨c,n,pa,pc,sa,sc,la,lc,h1,h2,h3,h4,h5,h6,h7,h8,h9⟩:=h
 exact⟨h7,h8⟩
theorem NQ.done{c:Vg.Ic}{pa sa:Option Addr}{pc sc:Nat}(h:NQ w b xs rv v5 L)(hI:IS w' c n 0 pa pc sa sc)(hg:Vg.Grows w w')(f1:∀k,(Value.slice pa n pc).ownBlock=some k->w.heap.size<=k/\k<w'.heap.size)(f2:∀k,(Value.slice sa 0 sc).ownBlock=some k->w.heap.size<=k/\k<w'.heap.size)
  (hpe:c.pe=0)(hst:c.st=[]):
  QZ (Vg.put w' b (irqC c.pe c.en (2 ^ n-1) pa n pc sa 0 sc rv (.slice none 0 0) 0 0)) b xs.length 0 (fun k=>b<=k/\k<w'.heap.size):=by
 have h':=h.grows hg
 have hbl:=h.lt
 have hbl':=h'.lt
 have hsz9:(Vg.put w' b (irqC c.pe c.en (2 ^ n-1) pa n pc sa 0 sc rv (.slice none 0 0) 0 0)).heap.size=w'.heap.size:=Vg.put_size
 obtain⟨ra,rc,rfl⟩:=h.row.shape
 have hsh:xs.length<=rc/\rc<=9223372036854775807/\(xs.length=0 \/ ∃g o,ra=some ⟨g,o,none⟩):=by
  rcases h'.row.2 with⟨e,e0⟩|⟨g,o,cap,cur,e,hb,hgg,hl,hm,_⟩
  ·simp only[Value.slice.injEq]at e
   obtain⟨_,_,rfl⟩:=e
   exact⟨by omega,by omega,.inl e0⟩
  ·simp only[Value.slice.injEq]at e
   obtain⟨rfl,_,rfl⟩:=e
   exact⟨hl,hm,.inr ⟨_,_,rfl⟩⟩
 obtain⟨hcl,hcm,hla⟩:=hsh
 refine⟨c,n,pa,pc,sa,sc,ra,rc,hpe,hst,?_,hI.put (fun k hk=>by have:=f1 k hk;omega) (fun k hk=>by have:=f2 k hk;omega) _,fun k hk=>?_,fun k hk=>?_,⟨Nat.le_refl _,hbl'⟩,fun k hk=>by rw[hsz9];exact hk.2,hcl,hcm,hla⟩
 ·rw[hpe];exact Vg.put_heap_same hbl'
 ·have:=f1 k hk;omega
 ·have:=f2 k hk;omega
end
end Go.Proofs.YtlkdkgefjipjmaaGreatDoor
namespace Vg
open Go
theorem IR.of_reads'{S:Nat}{w:World}{sa:Option Addr}{n c:Nat}{L:List Int}(h:Reads S w (.slice sa n c) n (ics L))(hn:L.length=n):IR w sa c L:=IR.of_rd h hn
theorem oddP_one:[(1:Int)].any oddP=false:=by decide
end Vg
namespace Go.Proofs.YtlkdkgefjipjmaaGreatDoor
open Go.ChangeShapes Go.WideShapes Go.ChangeAt Go.RowKit
def INew(w w':World)(T:List Vg.Lin)(e:Ending):Prop:=
 (Vg.goodL T=true/\(∃OB,e=.returned (.tuple #[.pointer (some ⟨w.heap.size,0,none⟩),.int .i64 0])/\QZ w' w.heap.size T.length 0 OB/\∀k,OB k->w.heap.size<=k)/\Vg.Grows w w') \/
 (Vg.goodL T=false/\e=.returned (.tuple #[.pointer none,.int .i64 1])/\Vg.Grows w w')
section
variable {w w' W1:World}{b n m:Nat}{xs:List Vg.Lq}{L:List Int}
theorem bits_between_any(n:Nat)(h1:1<=n)(h2:n<=4398046511104){z:Nat}(hz:(if n<=64 then 2 ^ n-1 else 18446744073709551615)=z)(w:World)(m:Int)(hm:m=(n:Int)-1):
  Calls Tryz.prog 48 #[.int .i64 0,.int .i64 m] w fun e w'=>e=.returned (.int .u64 z)/\w=w':=by
 by_cases h64:n<=64
 ·rw[if_pos h64]at hz
  exact bits_between n hz w h1 h64 m hm
 ·rw[if_neg h64]at hz
  subst hz
  exact bits_between9 n w (by omega) (by omega) m hm
theorem irq_new {T:List Vg.Lin} {sa:Option Addr} {sc n:Nat} (hr:Vg.LR w sa sc T) (hn:T.length=n) (hn2:n<=4398046511104) (hw0:0<w.heap.size) :
  Calls Tryz.prog 23 #[.slice sa n sc] w fun e w'=>INew w w' T e:=by
 obtain⟨i0,hI,hz0,hz1,hz2⟩:=info_parts Tryz.info_line
 obtain⟨j0,hJ,hy0,hy1,hy2⟩:=info_parts Tryz.info_int5
 have hcm:n<=9223372036854775807:=by omega
 have H_hr:=h_ hr;have H_hn:=h_ hn;clear hr hn
 go_enter Tryz.func23,Tryz.ntmps23
 go_wp2
 obtain⟨b,hb⟩:∃b,w.heap.size=b:=⟨_,rfl⟩
 obtain⟨W0,hW0⟩:∃W0,(w.alloc (iqZ (.slice none 0 0))).alloc (.cells #[] 3)=W0:=⟨_,rfl⟩
 have g0:NQ W0 b [] (.slice none 0 0) (.slice (some ⟨b+1,0,none⟩) 0 0) []:=⟨by rw[<-hW0,<-hb];exact(Vg.alloc_heap_past (by simp)).trans (Vg.alloc_heap_at rfl),Vg.Que.nil _ _ _ _,by
  have h9:=Vg.Que.of_owns (Vg.owns_made0 (w:=w.alloc (iqZ (.slice none 0 0))) (e:=3) (size:=1) (n:=b+1) (by simp;omega))
  rw[hW0]at h9
  exact h9.weaken (by simp;omega),fun i h=>by simp at h,fun k h=>by simp[Value.ownBlock]at h,fun i j h=>by simp at h⟩
 have gg:Vg.Grows w W0:=by rw[<-hW0];exact Vg.gro
 have hbw:w.heap.size<=b:=by omega
 simp only[hb]
 rw[hW0]
 have H_hb:=h_ hb;have H_hW0:=h_ hW0;have H_g0:=h_ g0;clear hb hW0 g0
 go_loopw [5,17] (fun v5' i wr=>∃(k:Nat) (xs:List Vg.Lq) (rv v5:Value),k<=n/\i=.int .i64 k/\v5'=v5/\Vg.Grows w wr/\xs.map (·.p)=(T.take k).map Vg.ln0/\(T.take k).any Vg.oddL=false/\NQ wr b xs rv v5 ((T.take k).map (·.pr))) (fun _ i _=>n-(intOf i).toNat)
 case atStart=>exact⟨0,[],_,_,by omega,rfl,rfl,gg,by simp,by simp,by simpa using H_g0.out⟩
 case round=>
  obtain⟨k,xs,rv,v5,hk,rfl,rfl,hgr,hmap,hpre,hnb⟩:=hrel
  by_cases hlt:k<n
  ·have hkT:k<T.length:=by rw[H_hn.out];exact hlt
   obtain⟨g,off,rfl,hg,c0,c1,c2,c3⟩:=H_hr.out.2.2 k hkT
   have hrc:=H_hr.out.1
   have hrm:sc<=9223372036854775807:=H_hr.out.2.1
   rw[H_hn.out]at hrc
   have hsn:=List.take_succ_eq_append_getElem hkT
   obtain⟨t,ht⟩:∃t,T[k]=t:=⟨_,rfl⟩
   rw[ht]at c0 c1 c2 c3 hsn
   have c0:=(hgr.below.cell (p:=⟨g,off+k*4,none⟩) hg).trans c0
   have c1:=(hgr.below.cell (p:=⟨g,off+k*4+1,none⟩) hg).trans c1
   have c2:=(hgr.below.cell (p:=⟨g,off+k*4+2,none⟩) hg).trans c2
   have c3:=(hgr.below.cell (p:=⟨g,off+k*4+3,none⟩) hg).trans c3
   have hgl:g<wr.heap.size:=Nat.lt_of_lt_of_le hg hgr.size
   have hme:t∈T:=by rw[<-ht];exact List.getElem_mem _
   cases hodd:Vg.oddL t with
   | true=>
    have hbad:Vg.goodL T=false:=by
     have:T.any Vg.oddL=true:=List.any_eq_true.2 ⟨t,hme,hodd⟩
     unfold Vg.goodL;rw[this];rfl
    have hfin:∀w',Vg.Grows w w'->INew w w' T (.returned (.tuple #[.pointer none,.int .i64 1])):=fun w' h=>.inr ⟨hbad,rfl,h⟩
    have hcase:(t.many<1\/64<t.many\/t.wd<1\/1099511627776<t.wd)\/((1<=t.many/\t.many<=64/\1<=t.wd/\t.wd<=1099511627776)/\(t.top<1\/(¬t.top<1/\1099511627776<t.top))):=by
     unfold Vg.oddL at hodd;simp at hodd;omega
    rcases hcase with h1|⟨⟨h1,h2,h3,h3'⟩,h4|⟨h4,h5⟩⟩
    ·have H_hmap:=h_ hmap;have H_hpre:=h_ hpre;have H_hnb:=h_ hnb;have H_hsn:=h_ hsn;have H_ht:=h_ ht;have H_hme:=h_ hme;have H_hodd:=h_ hodd;have H_hbad:=h_ hbad;have H_hfin:=h_ hfin;clear hmap hpre hnb hsn ht hme hodd hbad hfin
     go_wp2_with ((go_at_call 46;(with_reducible refine(storm_new_no t.many t.wd h1).mono ?_);rintro e w1 ⟨rfl,rfl⟩))
     go_returns
     exact H_hfin.out _ (Vg.gro)
    ·obtain⟨mn,hmn⟩:∃mn:Nat,t.many=mn:=⟨t.many.toNat,by omega⟩
     rw[hmn]at c2 h1 h2
     have H_hmap:=h_ hmap;have H_hpre:=h_ hpre;have H_hnb:=h_ hnb;have H_hsn:=h_ hsn;have H_ht:=h_ ht;have H_hme:=h_ hme;have H_hodd:=h_ hodd;have H_hbad:=h_ hbad;have H_hfin:=h_ hfin;have H_hmn:=h_ hmn;clear hmap hpre hnb hsn ht hme hodd hbad hfin hmn
     go_wp2_with ((go_at_call 46;(with_reducible refine(storm_new_ok mn t.wd (by omega) (by omega) h3 h3').mono ?_);rintro e w1 ⟨rfl,rfl⟩))
     go_returns
     exact H_hfin.out _ (Vg.gro)
    ·obtain⟨mn,hmn⟩:∃mn:Nat,t.many=mn:=⟨t.many.toNat,by omega⟩
     rw[hmn]at c2 h1 h2
     have H_hmap:=h_ hmap;have H_hpre:=h_ hpre;have H_hnb:=h_ hnb;have H_hsn:=h_ hsn;have H_ht:=h_ ht;have H_hme:=h_ hme;have H_hodd:=h_ hodd;have H_hbad:=h_ hbad;have H_hfin:=h_ hfin;have H_hmn:=h_ hmn;clear hmap hpre hnb hsn ht hme hodd hbad hfin hmn
     go_wp2_with ((go_at_call 46;(with_reducible refine(storm_new_ok mn t.wd (by omega) (by omega) h3 h3').mono ?_);rintro e w1 ⟨rfl,rfl⟩))
     go_returns
     exact H_hfin.out _ (Vg.gro)
   | false=>
    obtain⟨⟨h1,h2,h3,h3'⟩,h4,h5⟩:=Vg.oddL_no hodd
    have hnx:(T.take (k+1)).any Vg.oddL=false:=by rw[hsn,List.any_append,hpre];simp[hodd]
    have hLk:((T.take k).map (·.pr)).length=k:=by rw[List.length_map,List.length_take];omega
    have hxk:xs.length=k:=by have:=congrArg List.length hmap;rw[List.length_map,List.length_map,List.length_take]at this;omega
    have hrow:=hnb.row
    have hdep:=hnb.dep
    obtain⟨ra,rc,rfl⟩:=hrow.shape
    obtain⟨a5,c5,rfl⟩:=hdep.shape
    rw[hLk]at hnb hdep ⊢
    rw[hxk]at hnb hrow
    obtain⟨mn,hmn⟩:∃mn:Nat,t.many=mn:=⟨t.many.toNat,by omega⟩
    rw[hmn]at c2 h1 h2
    have H_hmap:=h_ hmap;have H_hpre:=h_ hpre;have H_hnb:=h_ hnb;have H_hsn:=h_ hsn;have H_ht:=h_ ht;have H_hme:=h_ hme;have H_hodd:=h_ hodd;have H_hnx:=h_ hnx;have H_hLk:=h_ hLk;have H_hxk:=h_ hxk;have H_hrow:=h_ hrow;have H_hdep:=h_ hdep;have H_hmn:=h_ hmn;clear hmap hpre hnb hsn ht hme hodd hnx hLk hxk hrow hdep hmn
    go_upto_region 9 with((go_at_call 46;(with_reducible refine(storm_new_ok mn t.wd (by omega) (by omega) h3 h3').mono ?_);rintro e w1 ⟨rfl,rfl⟩))
    obtain⟨bx,hbx⟩:∃bx,wr.heap.size=bx:=⟨_,rfl⟩
    obtain⟨wy,hwy⟩:∃wy,((wr.alloc (.cells #[.int .i64 t.pr,.int .i64 t.top,.int .i64 mn,.int .i64 t.wd] 67)).alloc (ringC (fun _=>0) mn)).alloc (maskC (bx+1) mn t.wd 0 0 0 0)=wy:=⟨_,rfl⟩
    have hgy:Vg.Grows wr wy:=by rw[<-hwy];exact Vg.gro
    have x2:Vg.blk wy bx=some (.cells #[.int .i64 t.pr,.int .i64 t.top,.int .i64 mn,.int .i64 t.wd] 67):=by rw[<-hwy,<-hbx];exact(Vg.alloc_heap_past (by simp;omega)).trans ((Vg.alloc_heap_past (by simp)).trans (Vg.alloc_heap_at rfl))
    have hmk:MK wy (bx+2) (bx+1) mn t.wd [] 0:=⟨0,fun _=>0,0,by rw[<-hwy];exact Vg.alloc_heap_at (by simp;omega),by rw[<-hwy];exact(Vg.alloc_heap_past (by simp;omega)).trans (Vg.alloc_heap_at (by simp;omega)),by omega,by omega,by omega,by omega,by simp,fun i hi=>by simp at hi⟩
    have nb2:=H_hnb.out.grows hgy
    have q2:=H_hrow.out.grows hgy
    have x1:=nb2.tab
    have hgwy:=hgr.trans hgy
    have hszy:wy.heap.size=bx+3:=by rw[<-hwy,<-hbx];simp
    have hbr:=H_hnb.out.lt
    have hrr:=H_hrow.out.lt
    have hdd:=H_hdep.out.lt
    have hss:∀i (hi:i<xs.length),xs[i].mb<bx/\xs[i].rb<bx:=fun i hi=>by rw[<-hbx];exact(H_hnb.out.mks i hi).1.lt
    rw[hbx]at hbr hrr hdd
    simp only[hbx]
    rw[hwy]
    have e12:bx+1+1=bx+2:=by omega
    simp only[e12]
    have n1:b≠bx:=by omega
    have n2:bx≠b:=by omega
    have hsz9:b+1<=wy.heap.size:=by omega
    obtain⟨c_x1,f_x1,p_x1,l_x1,H_x1⟩:=Vg.lay x1;clear x1;obtain⟨c_x2,f_x2,p_x2,l_x2,H_x2⟩:=Vg.lay x2;clear x2
    have H_hmk:=h_ hmk;have H_nb2:=h_ nb2;have H_q2:=h_ q2;have H_hwy:=h_ hwy;have H_hrr:=h_ hrr;have H_hdd:=h_ hdd;have H_hss:=h_ hss;have H_hbx:=h_ hbx;have H_hgy:=h_ hgy;have H_hgwy:=h_ hgwy;clear hmk nb2 q2 hwy hrr hdd hss hbx hgy hgwy
    go_upto_region 10 with(at_builtin;(refine Vg.wpList_que1 (w:=_) rfl (.tmp 45) (.tmp 48) 146 rfl (b+1) 154 i0 (.agg #[.pointer none,.int .i64 0,.int .i64 0,.int .i64 0,.int .i64 0]) 5 40 Tryz.underlying146 hI hz0 hz1 hz2 rfl (by decide) (.slice ra k rc) k (Vg.lcells xs) rfl (H_q2.out.grows (Vg.gro)) _ 1 [.pointer (some ⟨bx+2,0,none⟩),.int .i64 0,.int .i64 0,.int .i64 0,.int .i64 0] rfl rfl (Vg.five_new (by first|rfl|((try simp only[World.size_alloc,Vg.plus_size,Vg.put_size,World.size_setCell,World.size_drew,World.heap_drewN]) <;> omega))) (by simp[Value.oneCell']) (by unfold maxLen;omega) (by omega) (by decide) (by simp only[World.size_alloc];omega) ?_);intro v2 W1 y2 m2 hq2 hs2 ho2;obtain⟨a2,c2',rfl⟩:=hq2.shape;have hT:=((Vg.Touch.of_grows (t:=fun j=>(Value.slice ra k rc).ownBlock=some j) (Vg.gro:Vg.Grows wy _)).trans (Vg.Touch.of_same hs2)).trans (Vg.Touch.of_grows ((Vg.Grows.refl _).plus y2 m2));have nb4:=NQ.app1 (y:=y2) (m:=m2) (x:=⟨⟨0,0,0,0,mn,t.wd,[],0⟩,bx+2,bx+1⟩) (NQ.grows H_nb2.out (Vg.gro)) (MK.grows H_hmk.out (Vg.gro)) ⟨by show b<bx+2;omega,by show b<bx+1;omega⟩ ⟨fun hh=>by have:=(H_hrr.out _ hh).2;simp only at this;omega,fun hh=>by have:=(H_hrr.out _ hh).2;simp only at this;omega⟩ ⟨fun hh=>by have:=(H_hdd.out _ hh).2;simp only at this;omega,fun hh=>by have:=(H_hdd.out _ hh).2;simp only at this;omega⟩ (fun i hi=>by have:=H_hss.out i hi;simp only;omega) (by rw[H_hxk.out];exact hq2) rfl hs2 ho2;have hgW3:=hT.gr H_hgwy.out (fun j hj=>by have:=(H_hrr.out j hj).1;omega);have z1:=hT.bk H_x1.out (fun hh=>by have:=(H_hrr.out b hh).1;omega);have z2:=hT.bk H_x2.out (fun hh=>by have:=(H_hrr.out bx hh).2;omega);obtain⟨W3,hW3⟩:∃W3,Vg.plus W1 y2 m2=W3:=⟨_,rfl⟩;rw[hW3]at hq2 nb4 hgW3 z1 z2 ⊢;clear hW3 hs2 ho2 hT;clear c_x1 f_x1 p_x1 c_x2 f_x2 p_x2;obtain⟨c_z1,f_z1,p_z1,l_z1,H_z1⟩:=Vg.lay z1;clear z1;obtain⟨c_z2,f_z2,p_z2,l_z2,H_z2⟩:=Vg.lay z2;clear z2;have hs3:=hgW3.size;have H_hq2:=h_ hq2;have H_nb4:=h_ nb4;have H_hgW3:=h_ hgW3;clear hq2 nb4 hgW3)
    have hdep4:=H_nb4.out.dep
    rw[H_hLk.out]at hdep4
    have hgP:=Vg.Grows.put H_hgW3.out hbw (iqZ (.slice a2 (k+1) c2'))
    have hsz3:b+1<=W3.heap.size:=by omega
    have H_hdep4:=h_ hdep4;have H_hgP:=h_ hgP;clear hdep4 hgP
    go_wp2_with (at_builtin;(refine Vg.wpList_que1 (w:=_) rfl (.tmp 52) (.tmp 55) 138 rfl (b+1) 3 j0 (.int .i64 0) 1 8 Tryz.underlying138 hJ hy0 hy1 hy2 rfl (by decide) (.slice a5 k c5) k _ rfl (H_hdep4.out.grows (Vg.gro)) _ 1 [.int .i64 t.pr] rfl rfl (Vg.one_new (by first|rfl|((try simp only[World.size_alloc,Vg.plus_size,Vg.put_size,World.size_setCell,World.size_drew,World.heap_drewN]) <;> omega))) (by simp[Value.oneCell']) (by unfold maxLen;omega) (by omega) (by decide) (by simp only[World.size_alloc,Vg.put_size];omega) ?_);intro v3 W5 y5 m5 hq5 hs5 ho5;have nb5:=NQ.app2 (y:=y5) (m:=m5) (d:=t.pr) (NQ.grows H_nb4.out (Vg.gro)) (by rw[H_hLk.out];exact hq5) hs5 ho5;have hgW5:=hs5.grows (w0:=w) (H_hgP.out.alloc _) (fun j hj=>by have:=(H_hdep4.out.lt j hj).1;omega);obtain⟨a6,c6,rfl⟩:=hq5.shape;have H_hq5:=h_ hq5;have H_hs5:=h_ hs5;have H_ho5:=h_ ho5;have H_nb5:=h_ nb5;clear hq5 hs5 ho5 nb5)
    have hln:Vg.ln0 t=⟨0,0,0,0,mn,t.wd,[],0⟩:=by unfold Vg.ln0;rw[H_hmn.out];rfl
    refine⟨⟨k+1,xs ++ [⟨⟨0,0,0,0,mn,t.wd,[],0⟩,bx+2,bx+1⟩],.slice a2 (k+1) c2',.slice a6 (k+1) c6,by omega,by go_num,rfl,Vg.gro,by rw[List.map_append,H_hmap.out,H_hsn.out,List.map_append];simp[hln],H_hnx.out,?_⟩,by simp[intOf];omega⟩
    have h9:=H_nb5.out
    rw[H_hsn.out,List.map_append]
    exact h9
  ·have hkn:k=n:=by omega
   subst hkn
   have htk:T.take k=T:=List.take_of_length_le (by rw[H_hn.out];exact Nat.le_refl _)
   rw[htk]at hmap hpre hnb
   have x1:=hnb.tab
   have hdep:=hnb.dep
   have hlD:(T.map (·.pr)).length=k:=by rw[List.length_map];exact H_hn.out
   have hbr:=hnb.lt
   have hxk:xs.length=k:=by have:=congrArg List.length hmap;rw[List.length_map,List.length_map]at this;rw[this];exact H_hn.out
   have hxs:∀x∈xs,(1<=x.p.wd/\x.p.wd<=1099511627776)/\0<=x.p.ml:=fun x hx=>by
    have h9:x.p∈T.map Vg.ln0:=by rw[<-hmap];exact List.mem_map.2 ⟨x,hx,rfl⟩
    obtain⟨t,ht,he⟩:=List.mem_map.1 h9
    have ho:Vg.oddL t=false:=by
     cases hh:Vg.oddL t with
     | false=>rfl
     | true=>rw[<-hpre];exact(List.any_eq_true.2 ⟨t,ht,hh⟩).symm
    obtain⟨⟨_,_,a3,a4⟩,_⟩:=Vg.oddL_no ho
    rw[<-he]
    exact⟨⟨a3,a4⟩,Int.le_refl _⟩
   by_cases hz:k=0
   ·subst hz
    have hT:T=[]:=List.eq_nil_of_length_eq_zero H_hn.out
    subst hT
    obtain⟨a5,c5,rfl⟩:=hdep.shape
    rw[hlD]at hdep hnb ⊢
    obtain⟨c_x1,f_x1,p_x1,l_x1,H_x1⟩:=Vg.lay x1;clear x1
    have e1:=Vg.oddP_one
    have hgood:Vg.goodL []=true:=by decide
    have hx0:xs=[]:=List.eq_nil_of_length_eq_zero hxk
    subst hx0
    have hB1:∀w,Calls Tryz.prog 48 #[.int .i64 0,.int .i64 0] w fun e w'=>e=.returned (.int .u64 1)/\w=w':=fun w=>bits_between_any 1 (by omega) (by omega) (z:=1) rfl w 0 rfl
    have hM1:Calls Tryz.prog 47 #[.int .u64 1,.slice (some ⟨wr.heap.size,0,none⟩) 1 1] (wr.alloc (.cells #[.int .i64 1] 3)) fun e w'=>∃v,e=.returned (.tuple #[v,.int .i64 0])/\ICR (wr.alloc (.cells #[.int .i64 1] 3)) w' ⟨0,1,[1],[]⟩ 1 1 v/\Vg.Grows (wr.alloc (.cells #[.int .i64 1] 3)) w':=ic_make (L:=[1]) (ed:=1) (Vg.IR.block (L:=[1]) (Vg.alloc_heap_at rfl) (by simp[maxLen])) rfl (by omega) (by omega) e1 rfl
    have H_hmap:=h_ hmap;have H_hpre:=h_ hpre;have H_hnb:=h_ hnb;have H_hdep:=h_ hdep;have H_htk:=h_ htk;have H_hlD:=h_ hlD;have H_hxk:=h_ hxk;have H_hxs:=h_ hxs;have H_e1:=h_ e1;have H_hgood:=h_ hgood;have H_hB1:=h_ hB1;have H_hM1:=h_ hM1;clear hmap hpre hnb hdep htk hlD hxk hxs e1 hgood hB1 hM1
    go_wp2_with (first|(go_at_call 48;(with_reducible refine(H_hB1.out _).mono ?_);rintro e w1 ⟨rfl,rfl⟩)|(go_at_call 47;(with_reducible refine(H_hM1.out).mono ?_);rintro e w2 ⟨v,rfl,⟨pa,pc,sa2,m,sc2,rfl,hI9,f1,f2⟩,hg2⟩;have hm0:m=0:=hI9.m.symm;subst hm0;have hg3:=Vg.Grows.trans (a:=wr) (Vg.gro) hg2;have y1:=hg3.blk H_x1.out;have hgw2:=hgr.trans hg3;clear c_x1 f_x1 p_x1;obtain⟨c_y1,f_y1,p_y1,l_y1,H_y1⟩:=Vg.lay y1;clear y1;have H_hI9:=h_ hI9;have H_f1:=h_ f1;have H_f2:=h_ f2;have H_hg2:=h_ hg2;have H_hg3:=h_ hg3;have H_hgw2:=h_ hgw2;clear hI9 f1 f2 hg2 hg3 hgw2))
    go_returns
    have hQ:=NQ.done H_hnb.out H_hI9.out H_hg3.out (fun j hj=>by have:=H_f1.out j hj;simp at this;omega) (fun j hj=>by have:=H_f2.out j hj;simp at this;omega) rfl rfl
    refine .inl ⟨H_hgood.out,⟨fun k=>b<=k/\k<w2.heap.size,by rw[H_hb.out];rfl,?_,fun k hk=>by rw[H_hb.out];exact hk.1⟩,(Vg.Grows.put H_hgw2.out hbw _).alloc _⟩
    rw[H_hb.out]
    exact hQ.grows ((Vg.Grows.refl _).alloc _)
   ·have hzz:((k:Int)==0)=false:=by simp;exact hz
    obtain⟨a5,c5,rfl⟩:=hdep.shape
    rw[hlD]at hdep hnb ⊢
    have hir:Vg.IR wr a5 c5 (T.map (·.pr)):=Vg.IR.of_reads' hdep.reads hlD
    have hdl:Vg.prs T=T.map (·.pr):=by unfold Vg.prs;rw[if_neg (by rw[H_hn.out];exact hz)]
    obtain⟨z,hz9⟩:∃z,(if k<=64 then 2 ^ k-1 else 18446744073709551615)=z:=⟨_,rfl⟩
    by_cases hgd:k<=64/\(T.map (·.pr)).any Vg.oddP=false
    ·obtain⟨hk64,hod⟩:=hgd
     have hgood:Vg.goodL T=true:=by unfold Vg.goodL;rw[hpre,hod,H_hn.out];simpa using hk64
     have hed:2 ^ k-1=z:=by rw[<-hz9,if_pos hk64]
     obtain⟨c_x1,f_x1,p_x1,l_x1,H_x1⟩:=Vg.lay x1;clear x1
     have H_hmap:=h_ hmap;have H_hpre:=h_ hpre;have H_hnb:=h_ hnb;have H_hdep:=h_ hdep;have H_htk:=h_ htk;have H_hlD:=h_ hlD;have H_hir:=h_ hir;have H_hdl:=h_ hdl;have H_hod:=h_ hod;have H_hgood:=h_ hgood;have H_hz9:=h_ hz9;have H_hed:=h_ hed;have H_hxk:=h_ hxk;have H_hxs:=h_ hxs;clear hmap hpre hnb hdep htk hlD hir hdl hod hgood hz9 hed hxk hxs
     go_wp2_with (first|(go_at_call 48;(with_reducible refine(bits_between_any k (by omega) hn2 H_hz9.out _ _ rfl).mono ?_);rintro e w1 ⟨rfl,rfl⟩)|(go_at_call 47;(with_reducible refine(ic_make (H_hir.out.grows (Vg.gro)) H_hlD.out (by omega) hk64 H_hod.out H_hed.out).mono ?_);rintro e w2 ⟨v,rfl,⟨pa,pc,sa2,m,sc2,rfl,hI9,f1,f2⟩,hg2⟩;have hm0:m=0:=hI9.m.symm;subst hm0;have y1:=hg2.blk H_x1.out;have hgw2:=hgr.trans hg2;clear c_x1 f_x1 p_x1;obtain⟨c_y1,f_y1,p_y1,l_y1,H_y1⟩:=Vg.lay y1;clear y1;have H_hI9:=h_ hI9;have H_f1:=h_ f1;have H_f2:=h_ f2;have H_hg2:=h_ hg2;have H_hgw2:=h_ hgw2;clear hI9 f1 f2 hg2 hgw2))
     go_returns
     have hQ:=NQ.done H_hnb.out H_hI9.out H_hg2.out H_f1.out H_f2.out rfl rfl
     rw[H_hed.out,H_hxk.out]at hQ
     refine .inl ⟨H_hgood.out,⟨fun k=>b<=k/\k<w2.heap.size,by rw[H_hb.out];rfl,?_,fun k hk=>by rw[H_hb.out];exact hk.1⟩,(Vg.Grows.put H_hgw2.out hbw _).alloc _⟩
     rw[H_hb.out,H_hn.out]
     exact hQ.grows ((Vg.Grows.refl _).alloc _)
    ·have hbad:Vg.goodL T=false:=by
      cases hh:Vg.goodL T with
      | false=>rfl
      | true=>
       unfold Vg.goodL at hh
       simp only[Bool.and_eq_true,Bool.not_eq_true',decide_eq_true_eq]at hh
       exact absurd ⟨by rw[<-H_hn.out];exact hh.1.2,hh.2⟩ hgd
     have hno:64<k\/(T.map (·.pr)).any Vg.oddP=true:=by
      by_cases h64:k<=64
      ·right
       cases hh:(T.map (·.pr)).any Vg.oddP with
       | true=>rfl
       | false=>exact absurd ⟨h64,hh⟩ hgd
      ·left;omega
     obtain⟨c_x1,f_x1,p_x1,l_x1,H_x1⟩:=Vg.lay x1;clear x1
     have H_hmap:=h_ hmap;have H_hpre:=h_ hpre;have H_hnb:=h_ hnb;have H_hdep:=h_ hdep;have H_htk:=h_ htk;have H_hlD:=h_ hlD;have H_hir:=h_ hir;have H_hdl:=h_ hdl;have H_hgd:=h_ hgd;have H_hbad:=h_ hbad;have H_hno:=h_ hno;have H_hz9:=h_ hz9;have H_hxk:=h_ hxk;have H_hxs:=h_ hxs;clear hmap hpre hnb hdep htk hlD hir hdl hgd hbad hno hz9 hxk hxs
     go_wp2_with (first|(go_at_call 48;(with_reducible refine(bits_between_any k (by omega) hn2 H_hz9.out _ _ rfl).mono ?_);rintro e w1 ⟨rfl,rfl⟩)|(go_at_call 47;(with_reducible refine(ic_make_no (H_hir.out.grows (Vg.gro)) H_hlD.out (by omega) hn2 H_hno.out _).mono ?_);rintro e w2 ⟨rfl,hg2⟩;have hgw2:=hgr.trans hg2;have H_hg2:=h_ hg2;have H_hgw2:=h_ hgw2;clear hg2 hgw2))
     go_returns
     exact .inr ⟨H_hbad.out,rfl,Vg.Grows.trans H_hgw2.out (Vg.gro)⟩
end
end Go.Proofs.YtlkdkgefjipjmaaGreatDoor
