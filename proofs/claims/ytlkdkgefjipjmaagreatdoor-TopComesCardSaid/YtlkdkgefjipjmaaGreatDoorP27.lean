/- Map, KernN, KernM, KernZ (put together). -/
import Derived.Test.YtlkdkgefjipjmaaGreatDoorQ0
import Derived.Maps.OwnOps
import Derived.Maps.Views
import Derived.Test.YtlkdkgefjipjmaaGreatDoorP26
set_option linter.all false
set_option maxHeartbeats 40000000
set_option maxRecDepth 100000
namespace Vg
open Go Go.RowKit Go.Maps
def BMap(w:World)(P:Program)(k e:TypeId)(b n:Nat)(f:Int->Bool):Prop:=
 ∃D:DataW Unit,w.ownsMap P k (plainElem P e) b n D/\IsMap D/\∀x,D.atKey (.int .i64 x) (.lit (.bool false))=.lit (.bool (f x))
section
variable {P:Program}{k e t:TypeId}{w w':World}{b n:Nat}{f:Int->Bool}
theorem BMap.made(w:World)(P:Program)(k e:TypeId):BMap (w.alloc (.map #[] 0)) P k e w.heap.size 0 (fun _=>false):=
 ⟨.map [],World.ownsMap_made _ _ _ _,isMap_empty,fun x=>rfl⟩
theorem BMap.lt(h:BMap w P k e b n f):b<w.heap.size:=by obtain⟨D,h1,_⟩:=h;exact h1.lt
theorem BMap.grows(h:BMap w P k e b n f)(hg:Grows w w'):BMap w' P k e b n f:=by
 have hl:=h.lt
 obtain⟨D,⟨es,clock,hb,F,hs,hD⟩,h2,h3⟩:=h
 obtain⟨x,m,rfl⟩:=hg
 exact⟨D,⟨es,clock,(plus_heap hl).trans hb,F,hs,hD⟩,h2,h3⟩
theorem plainElem_bool_inv(he:P.underlying e=some .bool){v:Value}{z:DataW Unit×List MemPlace}(h:plainElem P e v=some z):∃a,v=.bool a/\z=(.lit (.bool a),[]):=by
 unfold plainElem at h
 rw[he]at h
 cases v<;>simp at h
 subst h
 exact⟨_,rfl,rfl⟩
theorem wpList_lookup_bool(w:World){ops:Array Oper}{rest:List Oper}{o:Oper}{a:Act}{Q:Exit->Act->World->Prop}
  (hg:o.guard=none)(m x:Operand)(t:TypeId)(hop:o.op=Op.lookup t m x false)
  (k e:TypeId)(hk:P.underlying k=some (.int .i64))(ht:P.underlying t=some (.map k e))(he:P.underlying e=some .bool)(hz:(zeroValue e).run P w=.ok (.bool false) w)(b n:Nat)(f:Int->Bool)
  (hm:a.eval m=.map (some b))(hown:BMap w P k e b n f)(y:Int)(hx:a.eval x=.int .i64 y)(hy:(Lit.int .i64 y).wf=true)
  (hK:wpList P ops Q rest (a.put o.dst (.bool (f y))) w):
  wpList P ops Q (o::rest) a w:=by
 obtain⟨D,h1,h2,h3⟩:=hown
 refine wpList_plain hg fun K' hK'=>?_
 obtain⟨v,ps,hrun,hv⟩:=h1.lookup (int_keyed hk) ht hz (plainElem_bool he false) (keyOf_int_mk hk hy)
 obtain⟨c,rfl,hc⟩:=plainElem_bool_inv he hv
 rw[h3 y]at hc
 simp only[Prod.mk.injEq,DataW.lit.injEq,Lit.bool.injEq]at hc
 obtain⟨hc,-⟩:=hc
 subst hc
 unfold Oper.wp
 simp[execOp,hop,hm,hx,hrun,Result.andThen]
 exact hK' _ _ hK
theorem wpList_mapUpdate_bool(w:World){ops:Array Oper}{rest:List Oper}{o:Oper}{a:Act}{Q:Exit->Act->World->Prop}
  (hg:o.guard=none)(m x v:Operand)(t:TypeId)(hop:o.op=Op.mapUpdate t m x v)
  (k e:TypeId)(hk:P.underlying k=some (.int .i64))(ht:P.underlying t=some (.map k e))(he:P.underlying e=some .bool)(b n:Nat)(f:Int->Bool)
  (hm:a.eval m=.map (some b))(hown:BMap w P k e b n f)(hn:n<maxLen)(y:Int)(hx:a.eval x=.int .i64 y)(hy:(Lit.int .i64 y).wf=true)(c:Bool)(hv:a.eval v=.bool c)
  (w0:World)(hw0:Grows w0 w)(hb0:w0.heap.size<=b)
  (hK:∀w',BMap w' P k e b (n+1) (fun z=>if z=y then c else f z)->Grows w0 w'->w.heap.size<=w'.heap.size->wpList P ops Q rest (a.put o.dst undef) w'):
  wpList P ops Q (o::rest) a w:=by
 obtain⟨D,h1,h2,h3⟩:=hown
 refine wpList_mapUpdate_own w hg m x v t hop k e (int_keyed hk) ht (plainElem P e) b n D hm h1 hn (.int .i64 y) (.bool c) _ hx hv (keyOf_int_mk hk hy) (.lit (.bool c)) [] (plainElem_bool he c) fun w' hown hgr=>?_
 refine hK w' ⟨_,hown,h2.put _ _,fun z=>?_⟩ (Grows.of_below (hw0.below.grown hgr hw0.size fun k hk=>by cases hk;exact hb0)) hgr.size
 by_cases h:z=y
 ·subst h
  rw[atKey_put_same h2 (k:=.int .i64 z) trivial]
  simp
 ·rw[atKey_put_other (by simp[h])]
  simp only[if_neg h]
  exact h3 z
end
end Vg
namespace Vg
open Go
def tkcell(t:Tk):Nat->Value
 | 0=>.int .u8 t.kd
 | 1=>.int .i64 t.pr
 | 2=>.int .i64 t.pe
 | 3=>.int .i64 t.og
 | 4=>.int .i64 t.dl
 | 5=>.int .i64 t.co
 | 6=>.int .i64 t.ro
 | 7=>.int .i64 t.lk
 | 8=>.int .i64 t.fr
 | _=>.int .i64 t.tt
def TK(w:World)(sa:Option Addr)(sc:Nat)(T:List Tk):Prop:=
 T.length<=sc/\sc<=maxLen/\∀k,(hk:k<T.length)->∃g off,sa=some ⟨g,off,none⟩/\g<w.heap.size/\∀j,j<10->w.cell? ⟨g,off+k*10+j,none⟩=some (tkcell T[k] j)
theorem TK.grows{w w':World}{sa:Option Addr}{c:Nat}{T:List Tk}(h:TK w sa c T)(hg:Grows w w'):TK w' sa c T:=
 ⟨h.1,h.2.1,fun k hk=>by
  obtain⟨g,off,e,hlt,hc⟩:=h.2.2 k hk
  exact⟨g,off,e,Nat.lt_of_lt_of_le hlt hg.size,fun j hj=>(hg.below.cell (p:=⟨g,off+k*10+j,none⟩) hlt).trans (hc j hj)⟩⟩
def oddK(t:Tk):Bool:=decide (t.pr<0)||decide (63<t.pr)||decide (t.ro<1)||decide (16<t.ro)||(decide (0<=t.lk)&&(decide (16<=t.lk)||decide (t.fr<0)||decide (t.tt<=t.fr)||decide (1099511627776<t.tt)))
theorem oddK_no{t:Tk}(h:oddK t=false):t.ok:=by
 unfold oddK at h
 simp at h
 refine⟨by omega,by omega,fun h0=>?_⟩
 have:=h.2 h0
 omega
def dupK(l:List Int):Bool:=decide (¬l.Nodup)
theorem dupK_snoc(l:List Int)(x:Int):dupK (l ++ [x])=(dupK l||l.contains x):=by
 unfold dupK
 rw[Bool.eq_iff_iff]
 simp only[decide_eq_true_eq,Bool.or_eq_true,List.contains_iff_mem,List.nodup_append,List.nodup_cons,List.not_mem_nil,not_false_iff,List.nodup_nil,true_and,List.mem_singleton]
 constructor
 ·intro h
  by_cases h1:l.Nodup
  ·right
   apply Classical.byContradiction
   intro h2
   exact h ⟨h1,fun a ha b hb=>by subst hb;intro e;subst e;exact h2 ha⟩
  ·exact .inl h1
 ·rintro(h|h)
  ·exact fun h2=>h h2.1
  ·exact fun h2=>h2.2 x h x rfl rfl
def Kn.why(l:List Int):Int:=if dupK l=true then 12 else 0
theorem Kn.why_t{l:List Int}(h:dupK l=true):Kn.why l=12:=if_pos h
theorem Kn.why_eq{l m:List Int}(h:dupK l=dupK m):Kn.why l=Kn.why m:=by unfold Kn.why;rw[h]
def Kn.check(T:List Tk):Int:=if T.length=0\/32<T.length then 1 else if T.any oddK=true then 1 else Kn.why (T.map (·.pr))
end Vg
namespace Go.Proofs.YtlkdkgefjipjmaaGreatDoor
open Go.ChangeShapes Go.WideShapes Go.ChangeAt Go.RowKit
abbrev tkV(t:Vg.Tk):Value:=.agg #[.int .u8 t.kd,.int .i64 t.pr,.int .i64 t.pe,.int .i64 t.og,.int .i64 t.dl,.int .i64 t.co,.int .i64 t.ro,.int .i64 t.lk,.int .i64 t.fr,.int .i64 t.tt]
abbrev tkC(t:Vg.Tk):Obj:=.cells #[.int .u8 t.kd,.int .i64 t.pr,.int .i64 t.pe,.int .i64 t.og,.int .i64 t.dl,.int .i64 t.co,.int .i64 t.ro,.int .i64 t.lk,.int .i64 t.fr,.int .i64 t.tt] 57
theorem kern_odd(t:Vg.Tk)(w:World){is:Bool}(his:Vg.oddK t=is):Calls Tryz.prog 80 #[tkV t] w fun e w'=>e=.returned (.bool is)/\Vg.Grows w w':=by
 subst his
 obtain⟨kd,pr,pe,og,dl,co,ro,lk,fr,tt⟩:=t
 unfold Vg.oddK
 simp only[]
 by_cases h1:pr<0
 ·go_enter Tryz.func80,Tryz.ntmps80
  go_wp2
  go_ret
  exact⟨ret_bool (by simp[h1]),Vg.gro⟩
 ·by_cases h2:63<pr
  ·go_enter Tryz.func80,Tryz.ntmps80
   go_wp2
   go_ret
   exact⟨ret_bool (by simp[h2]),Vg.gro⟩
  ·by_cases h3:ro<1
   ·go_enter Tryz.func80,Tryz.ntmps80
    go_wp2
    go_ret
    exact⟨ret_bool (by simp[h3]),Vg.gro⟩
   ·by_cases h4:16<ro
    ·go_enter Tryz.func80,Tryz.ntmps80
     go_wp2
     go_ret
     exact⟨ret_bool (by simp[h4]),Vg.gro⟩
    ·by_cases h5:lk<0
     ·go_enter Tryz.func80,Tryz.ntmps80
      go_wp2
      go_ret
      exact⟨ret_bool (by simp[h1,h2,h3,h4];omega),Vg.gro⟩
     ·have h5':0<=lk:=by omega
      by_cases h6:16<=lk
      ·go_enter Tryz.func80,Tryz.ntmps80
       go_wp2
       go_ret
       exact⟨ret_bool (by simp[h1,h2,h3,h4,h5',h6]),Vg.gro⟩
      ·by_cases h7:fr<0
       ·go_enter Tryz.func80,Tryz.ntmps80
        go_wp2
        go_ret
        exact⟨ret_bool (by simp[h1,h2,h3,h4,h5',h6,h7]),Vg.gro⟩
       ·by_cases h8:tt<=fr
        ·go_enter Tryz.func80,Tryz.ntmps80
         go_wp2
         go_ret
         exact⟨ret_bool (by simp[h1,h2,h3,h4,h5',h6,h7,h8]),Vg.gro⟩
        ·by_cases h9:1099511627776<tt
         ·go_enter Tryz.func80,Tryz.ntmps80
          go_wp2
          go_ret
          exact⟨ret_bool (by simp[h1,h2,h3,h4,h5',h6,h7,h8,h9]),Vg.gro⟩
         ·go_enter Tryz.func80,Tryz.ntmps80
          go_wp2
          go_ret
          exact⟨ret_bool (by simp[h1,h2,h3,h4,h5',h6,h7,h8,h9]),Vg.gro⟩
theorem zeroB(w:World):(zeroValue 4).run Tryz.prog w=.ok (.bool false) w:=by kernel_rfl
theorem kern_check{w:World}{T:List Vg.Tk}{sa:Option Addr}{sc n:Nat}{r:Int}(hr:Vg.TK w sa sc T)(hn:T.length=n)(hx:Vg.Kn.check T=r):
  Calls Tryz.prog 44 #[.slice sa n sc] w fun e w'=>e=.returned (.int .i64 r)/\Vg.Grows w w':=by
 have hmm:=@run_makeMap Tryz.prog
 have hsc:sc<=9223372036854775807:=hr.2.1
 have hns:n<=sc:=by rw[<-hn];exact hr.1
 unfold Vg.Kn.check at hx
 rw[hn]at hx
 by_cases h0:n=0
 ·rw[if_pos (.inl h0)]at hx
  subst hx h0
  have H_hr:=h_ hr;have H_hn:=h_ hn;clear hr hn
  go_enter Tryz.func44,Tryz.ntmps44
  go_wp2
  go_ret
  exact⟨rfl,Vg.gro⟩
 ·by_cases h32:32<n
  ·rw[if_pos (.inr h32)]at hx
   subst hx
   have hz:((n:Int)==0)=false:=by simp;exact h0
   have H_hr:=h_ hr;have H_hn:=h_ hn;clear hr hn
   go_enter Tryz.func44,Tryz.ntmps44
   go_wp2
   go_ret
   exact⟨rfl,Vg.gro⟩
  ·rw[if_neg (by omega)]at hx
   have hz:((n:Int)==0)=false:=by simp;exact h0
   have H_hr:=h_ hr;have H_hn:=h_ hn;have H_hx:=h_ hx;clear hr hn hx
   go_enter Tryz.func44,Tryz.ntmps44
   go_wp2
   go_loopw [3,18] (fun v i wr=>∃j:Nat,j<=n/\i=.int .i64 j/\v=.int .i64 (Vg.Kn.why ((T.take j).map (·.pr)))/\(T.take j).any Vg.oddK=false/\Vg.Grows w wr/\Vg.BMap wr Tryz.prog 3 4 w.heap.size j (fun x=>((T.take j).map (·.pr)).contains x)) (fun _ i _=>n-(intOf i).toNat)
   case atStart=>exact⟨0,by omega,rfl,by simp[Vg.Kn.why,Vg.dupK],by simp,Vg.gro,by simpa using Vg.BMap.made w Tryz.prog 3 4⟩
   case round=>
    obtain⟨j,hj,rfl,rfl,hpre,hgr,hbm⟩:=hrel
    by_cases hlt:j<n
    ·have hjT:j<T.length:=by rw[H_hn.out];exact hlt
     obtain⟨g,off,rfl,hg,hc⟩:=H_hr.out.2.2 j hjT
     have hsn:=List.take_succ_eq_append_getElem hjT
     obtain⟨t,ht⟩:∃t,T[j]=t:=⟨_,rfl⟩
     have hc':∀i,i<10->wr.cell? ⟨g,off+j*10+i,none⟩=some (Vg.tkcell t i):=fun i hi=>(hgr.below.cell (p:=⟨g,off+j*10+i,none⟩) hg).trans (by rw[<-ht];exact hc i hi)
     rw[ht]at hsn
     have hgl:g<wr.heap.size:=Nat.lt_of_lt_of_le hg hgr.size
     have c0:=hc' 0 (by decide)
     have c1:=hc' 1 (by decide)
     have c2:=hc' 2 (by decide)
     have c3:=hc' 3 (by decide)
     have c4:=hc' 4 (by decide)
     have c5:=hc' 5 (by decide)
     have c6:=hc' 6 (by decide)
     have c7:=hc' 7 (by decide)
     have c8:=hc' 8 (by decide)
     have c9:=hc' 9 (by decide)
     simp only[Vg.tkcell,Nat.add_zero]at c0 c1 c2 c3 c4 c5 c6 c7 c8 c9
     clear hc hc'
     have hmb:=hbm.lt
     cases ho:Vg.oddK t with
     | true=>
      have hany:T.any Vg.oddK=true:=List.any_eq_true.2 ⟨t,by rw[<-ht];exact List.getElem_mem _,ho⟩
      have hr1:r=1:=by have:=H_hx.out;rw[if_pos hany]at this;exact this.symm
      subst hr1
      have H_hpre:=h_ hpre;have H_hbm:=h_ hbm;have H_hsn:=h_ hsn;have H_ht:=h_ ht;have H_ho:=h_ ho;have H_hany:=h_ hany;clear hpre hbm hsn ht ho hany
      go_wp2_with ((go_at_call 80;refine(kern_odd t _ H_ho.out).mono ?_;rintro e w1 ⟨rfl,x1,n1,rfl⟩))
      go_ret
      exact⟨rfl,Vg.gro⟩
     | false=>
      have htk:=Vg.oddK_no ho
      have hp0:=htk.1
      have hwf:(Lit.int .i64 t.pr).wf=true:=by
       simp only[Lit.wf,Bool.and_eq_true,decide_eq_true_eq]
       exact⟨by show(-9223372036854775808:Int)<=_;omega,by show _<=(9223372036854775807:Int);omega⟩
      have hpre2:(T.take (j+1)).any Vg.oddK=false:=by rw[hsn,List.any_append,hpre];simp[ho]
      have hdup:=Vg.dupK_snoc ((T.take j).map (·.pr)) t.pr
      have hmap:(T.take (j+1)).map (·.pr)=(T.take j).map (·.pr) ++ [t.pr]:=by rw[hsn,List.map_append];rfl
      rw[<-hmap]at hdup
      obtain⟨L,hL⟩:∃L,(T.take j).map (·.pr)=L:=⟨_,rfl⟩
      rw[hL]at hbm hdup hmap ⊢
      have hfin:∀wz (f:Int->Bool),Vg.BMap wz Tryz.prog 3 4 w.heap.size (j+1) (fun z=>if z=t.pr then true else L.contains z)->Vg.BMap wz Tryz.prog 3 4 w.heap.size (j+1) (fun z=>((T.take (j+1)).map (·.pr)).contains z):=fun wz f h=>by
       have e:(fun z=>((T.take (j+1)).map (·.pr)).contains z)=fun z=>if z=t.pr then true else L.contains z:=by
        funext z
        rw[hmap]
        by_cases hz:z=t.pr
        ·subst hz;simp
        ·rw[if_neg hz];simp[hz]
       rw[e];exact h
      cases hcon:L.contains t.pr with
      | true=>
       have hd2:Vg.dupK ((T.take (j+1)).map (·.pr))=true:=by rw[hdup,hcon];simp
       have H_hpre:=h_ hpre;have H_hbm:=h_ hbm;have H_hsn:=h_ hsn;have H_ht:=h_ ht;have H_ho:=h_ ho;have H_hpre2:=h_ hpre2;have H_hdup:=h_ hdup;have H_hmap:=h_ hmap;have H_hL:=h_ hL;have H_hfin:=h_ hfin;have H_hcon:=h_ hcon;have H_hd2:=h_ hd2;have H_htk:=h_ htk;clear hpre hbm hsn ht ho hpre2 hdup hmap hL hfin hcon hd2 htk
       go_wp2_with (first|(go_at_call 80;refine(kern_odd t _ H_ho.out).mono ?_;rintro e w1 ⟨rfl,x1,n1,rfl⟩)|(at_lookup;go_loud (refine Vg.wpList_lookup_bool _ rfl _ _ 206 rfl 3 4 Tryz.underlying3 Tryz.underlying206 Tryz.underlying4 (zeroB _) w.heap.size j _ rfl (H_hbm.out.grows (Vg.gro)) _ rfl hwf ?_);rw[H_hcon.out])|(at_mapUpdate;go_loud (refine Vg.wpList_mapUpdate_bool _ rfl _ _ _ 206 rfl 3 4 Tryz.underlying3 Tryz.underlying206 Tryz.underlying4 w.heap.size j _ rfl (H_hbm.out.grows (Vg.gro)) (by unfold maxLen;omega) _ rfl hwf true rfl w (Vg.gro) (Nat.le_refl _) ?_);intro w3 hbm3 hg3 hs3;have H_hbm3:=h_ hbm3;clear hbm3))
       exact⟨⟨j+1,by omega,by go_num,by rw[Vg.Kn.why_t H_hd2.out],H_hpre2.out,hg3,H_hfin.out _ (fun _=>true) H_hbm3.out⟩,by simp[intOf];omega⟩
      | false=>
       have hd2:Vg.dupK ((T.take (j+1)).map (·.pr))=Vg.dupK L:=by rw[hdup,hcon];simp
       have H_hpre:=h_ hpre;have H_hbm:=h_ hbm;have H_hsn:=h_ hsn;have H_ht:=h_ ht;have H_ho:=h_ ho;have H_hpre2:=h_ hpre2;have H_hdup:=h_ hdup;have H_hmap:=h_ hmap;have H_hL:=h_ hL;have H_hfin:=h_ hfin;have H_hcon:=h_ hcon;have H_hd2:=h_ hd2;have H_htk:=h_ htk;clear hpre hbm hsn ht ho hpre2 hdup hmap hL hfin hcon hd2 htk
       go_wp2_with (first|(go_at_call 80;refine(kern_odd t _ H_ho.out).mono ?_;rintro e w1 ⟨rfl,x1,n1,rfl⟩)|(at_lookup;go_loud (refine Vg.wpList_lookup_bool _ rfl _ _ 206 rfl 3 4 Tryz.underlying3 Tryz.underlying206 Tryz.underlying4 (zeroB _) w.heap.size j _ rfl (H_hbm.out.grows (Vg.gro)) _ rfl hwf ?_);rw[H_hcon.out])|(at_mapUpdate;go_loud (refine Vg.wpList_mapUpdate_bool _ rfl _ _ _ 206 rfl 3 4 Tryz.underlying3 Tryz.underlying206 Tryz.underlying4 w.heap.size j _ rfl (H_hbm.out.grows (Vg.gro)) (by unfold maxLen;omega) _ rfl hwf true rfl w (Vg.gro) (Nat.le_refl _) ?_);intro w3 hbm3 hg3 hs3;have H_hbm3:=h_ hbm3;clear hbm3))
       exact⟨⟨j+1,by omega,by go_num,by rw[Vg.Kn.why_eq H_hd2.out],H_hpre2.out,hg3,H_hfin.out _ (fun _=>true) H_hbm3.out⟩,by simp[intOf];omega⟩
    ·have hjn:j=n:=by omega
     subst hjn
     have htk:T.take j=T:=List.take_of_length_le (by rw[H_hn.out];exact Nat.le_refl _)
     rw[htk]at hpre ⊢
     have hr2:=H_hx.out
     rw[if_neg (by rw[hpre];simp)]at hr2
     rw[hr2]
     have H_hpre:=h_ hpre;have H_hbm:=h_ hbm;have H_htk:=h_ htk;have H_hr2:=h_ hr2;clear hpre hbm htk hr2
     go_wp2_with fail
     go_ret
     exact⟨rfl,hgr⟩
end Go.Proofs.YtlkdkgefjipjmaaGreatDoor
namespace Vg
open Go
theorem many_new {w:World} {l:List Value} {t:TypeId} {n:Nat} (hn:n=w.heap.size):∀j q,l[j]? = some q->(w.alloc (.cells l.toArray t)).cell? ((⟨n,0,none⟩:Addr).add j)=some q:=by
 subst hn
 intro j q hu
 rw[Addr.add_lit,cells_of (w:=w.alloc (.cells l.toArray t)) (b:=w.heap.size) (cs:=l.toArray) (t:=t) (f:=(0,0)) (alloc_heap_at rfl)]
 simpa using hu
theorem madeI(m:Nat):madeCells #[.int .i64 0] m=(ics (List.replicate m 0)).toArray:=by
 unfold madeCells ics
 apply Array.ext'
 simp[List.map_const',Nat.mod_one]
def kt0(t:Tk):Kt:=⟨t,[],0,false⟩
def Kn.ceil1(L:List Int)(t:Tk):List Int:=if 0<=t.lk then L.set t.lk.toNat (max (L[t.lk.toNat]?.getD 0) t.pr)else L
def Kn.ceils(T:List Tk):List Int:=T.foldl Kn.ceil1 (List.replicate 16 0)
theorem Kn.ceil1_len(L:List Int)(t:Tk):(Kn.ceil1 L t).length=L.length:=by unfold Kn.ceil1;split<;>simp
theorem Kn.ceil1_ok{L:List Int}{t:Tk}(hL:∀c∈L,0<=c/\c<=63)(ht:t.ok):∀c∈Kn.ceil1 L t,0<=c/\c<=63:=by
 unfold Kn.ceil1
 split
 ·intro c hc
  rcases List.mem_or_eq_of_mem_set hc with h|h
  ·exact hL c h
  ·have h1:=ht.1
   have h2:0<=L[t.lk.toNat]?.getD 0/\L[t.lk.toNat]?.getD 0<=63:=by
    by_cases hi:t.lk.toNat<L.length
    ·rw[List.getElem?_eq_getElem hi];exact hL _ (List.getElem_mem hi)
    ·rw[List.getElem?_eq_none (by omega)];simp
   omega
 ·exact hL
theorem Kn.ceils_snoc(l:List Tk)(t:Tk):Kn.ceils (l ++ [t])=Kn.ceil1 (Kn.ceils l) t:=by unfold Kn.ceils;rw[List.foldl_append];rfl
theorem Kn.ceils_len(T:List Tk):(Kn.ceils T).length=16:=by
 have:∀(T:List Tk)(L:List Int),(T.foldl Kn.ceil1 L).length=L.length:=by
  intro T
  induction T with
  | nil=>intro L;rfl
  | cons t T ih=>intro L;rw[List.foldl_cons,ih,Kn.ceil1_len]
 exact(this T _).trans (by simp)
theorem Kn.ceils_ok{T:List Tk}(h:T.any oddK=false):(Kn.ceils T).any oddC=false:=by
 have:∀(T:List Tk)(L:List Int),T.any oddK=false->(∀c∈L,0<=c/\c<=63)->∀c∈T.foldl Kn.ceil1 L,0<=c/\c<=63:=by
  intro T
  induction T with
  | nil=>intro L _ hL;exact hL
  | cons t T ih=>
   intro L h hL
   simp only[List.any_cons,Bool.or_eq_false_iff]at h
   rw[List.foldl_cons]
   exact ih _ h.2 (Kn.ceil1_ok hL (oddK_no h.1))
 have:=this T (List.replicate 16 0) h (fun c hc=>by have:=List.eq_of_mem_replicate hc;omega)
 rw[List.any_eq_false]
 intro c hc
 have:=this c hc
 simp[oddC];omega
def Kn.K0(T:List Tk):List Kt:=T.map kt0
def Kn.M0(T:List Tk):List Mx:=(Kn.ceils T).map fun c=>⟨c,false,0⟩
theorem Kn.inv0{T:List Tk}(h:T.any oddK=false):Kn.Inv 0 (Kn.K0 T):=by
 intro x hx
 obtain⟨t,ht,rfl⟩:=List.mem_map.1 hx
 have ho:oddK t=false:=by
  cases hh:oddK t with
  | false=>rfl
  | true=>rw[<-h];exact(List.any_eq_true.2 ⟨t,ht,hh⟩).symm
 have hk:=oddK_no ho
 exact⟨hk,⟨Int.le_refl _,Int.le_refl _⟩,by have:=hk.2.1.1;show((0:Nat):Int)<=t.ro;omega,fun j hj=>by simp[kt0]at hj,fun j hj=>by simp[kt0]at hj⟩
theorem Kn.check_ok{T:List Tk}(h:Kn.check T=0):(1<=T.length/\T.length<=32)/\T.any oddK=false/\(T.map (·.pr)).Nodup:=by
 unfold Kn.check at h
 split at h
 ·cases h
 ·split at h
  ·cases h
  ·rename_i h1 h2
   refine⟨by omega,by simpa using h2,?_⟩
   unfold Kn.why dupK at h
   split at h
   ·cases h
   ·rename_i h3;simpa using h3
end Vg
namespace Go.Proofs.YtlkdkgefjipjmaaGreatDoor
open Go.ChangeShapes Go.WideShapes Go.ChangeAt Go.RowKit
theorem Tryz.info_ktask:(Tryz.prog.info? 141).map (fun i=>(i.zero,i.size,i.bytes))=some (some (.agg #[.int .u8 0,.int .i64 0,.int .i64 0,.int .i64 0,.int .i64 0,.int .i64 0,.int .i64 0,.int .i64 0,.int .i64 0,.int .i64 0,.slice none 0 0,.int .i64 0,.bool false]),13,120):=by kernel_rfl
abbrev knC(rv:Value):Obj:=.cells #[rv,.pointer none] 137
abbrev tkN(t:Vg.Tk):List Value:=[.int .u8 t.kd,.int .i64 t.pr,.int .i64 t.pe,.int .i64 t.og,.int .i64 t.dl,.int .i64 t.co,.int .i64 t.ro,.int .i64 t.lk,.int .i64 t.fr,.int .i64 t.tt,.slice none 0 0,.int .i64 0,.bool false]
structure NK(w:World)(b:Nat)(xs:List Vg.Kp)(rv:Value)(L:List Int):Prop where
 tab:Vg.blk w b=some (knC rv)
 cei:Vg.blk w (b+1)=some (.cells (Vg.ics L).toArray 3)
 row:Vg.Que w (b+2) 141 13 rv xs.length (Vg.kcells xs)
 js:∀i (h:i<xs.length),xs[i].1=.slice none 0 0/\xs[i].2.J=[]
section
variable {w w' W1:World}{b n m cb:Nat}{xs:List Vg.Kp}{rv rv2 cv:Value}{L:List Int}{y:Array Obj}{M:List Vg.Mx}
theorem NK.grows(h:NK w b xs rv L)(hg:Vg.Grows w w'):NK w' b xs rv L:=⟨hg.blk h.tab,hg.blk h.cei,h.row.grows hg,h.js⟩
theorem NK.app{t:Vg.Tk}(h:NK w b xs rv L)(hq:Vg.Que (Vg.plus W1 y m) (b+2) 141 13 rv2 (xs.length+1) (Vg.kcells xs++tkN t))(hS:Vg.Same (fun j=>rv.ownBlock=some j) w W1):
  NK (Vg.put (Vg.plus W1 y m) b (knC rv2)) b (xs ++ [(.slice none 0 0,Vg.kt0 t)]) rv2 L:=by
 have hrl:=h.row.lt
 have hbl:=Vg.lt_of h.tab
 have hcl:=Vg.lt_of h.cei
 have hbW:b<(Vg.plus W1 y m).heap.size:=by rw[Vg.plus_size,hS.size];omega
 refine⟨Vg.put_heap_same hbW,?_,?_,fun i hi=>?_⟩
 ·rw[show Vg.blk (Vg.put (Vg.plus W1 y m) b (knC rv2)) (b+1)=Vg.blk (Vg.plus W1 y m) (b+1)from Vg.put_heap_other (by omega),Vg.blk_plus (by rw[hS.size];exact hcl)]
  exact(hS.block (b+1) fun hh=>by have:=(hrl _ hh).1;omega).trans h.cei
 ·rw[List.length_append,Vg.kcells_append]
  exact hq.kept fun k hk=>Vg.put_heap_other (by have:=(hq.lt k hk).1;omega)
 ·by_cases hlt:i<xs.length
  ·rw[List.getElem_append_left hlt];exact h.js i hlt
  ·have:i=xs.length:=by simp at hi;omega
   subst this
   simp[Vg.kt0]
theorem NK.ceil{L2:List Int}(h:NK w b xs rv L):NK (Vg.put w (b+1) (.cells (Vg.ics L2).toArray 3)) b xs rv L2:=
 ⟨(Vg.put_heap_other (by omega)).trans h.tab,Vg.put_heap_same (Vg.lt_of h.cei),h.row.kept fun k hk=>Vg.put_heap_other (by have:=(h.row.lt k hk).1;omega),h.js⟩
theorem NK.done(h:NK w b xs rv L)(hc:CE w' cb (cb+1) M cv)(hg:Vg.Grows w w')(hcb:w.heap.size<=cb):
  KT (Vg.put w' b (kernC rv cb)) b xs rv cb M cv/\∀k,kown b xs rv cb cv k->b<=k:=by
 have h':=h.grows hg
 have hbl:=Vg.lt_of h.tab
 have hbl':=Vg.lt_of h'.tab
 have hrl:=h.row.lt
 have hj:∀i (hi:i<xs.length) k,¬kfp xs[i] k:=fun i hi k hk=>by
  unfold kfp at hk
  rw[(h.js i hi).1]at hk
  simp[Value.ownBlock]at hk
 have hcl:∀k,kfc cb cv k->cb<=k:=by
  rintro k (rfl|hk)
  ·exact Nat.le_refl _
  ·have:=(hc.own k hk).1;omega
 refine⟨⟨Vg.put_heap_same hbl',(h'.row.weaken (by omega)).kept fun k hk=>Vg.put_heap_other (by have:=(h'.row.lt k hk).1;omega),fun i hi=>?_,fun i j hi hj' _ k hk=>absurd hk (hj i hi k),fun i hi k hk=>absurd hk (hj i hi k),
  hc.kept (Vg.put_heap_other (by omega)) (fun k hk=>Vg.put_heap_other (by have:=hcl k (.inr hk);omega)),fun k hk=>⟨by have:=hcl k hk;omega,fun hh=>by have:=hcl k hk;have:=(hrl k hh).2;omega⟩,fun i hi k hk=>absurd hk (hj i hi k),fun k hk=>by have:=hcl k hk;omega⟩,?_⟩
 ·rw[(h.js i hi).1,(h.js i hi).2]
  exact Vg.Que.nil _ _ _ _
 ·rintro k (hk|hk|⟨i,hi,hk⟩|hk)
  ·omega
  ·have:=(hrl k hk).1;omega
  ·exact absurd hk (hj i hi k)
  ·have:=hcl k hk;omega
theorem kern_new_no{T:List Vg.Tk}{sa:Option Addr}{sc:Nat}{r:Int}(hr:Vg.TK w sa sc T)(hn:T.length=n)(hx:Vg.Kn.check T=r)(hb:r≠0):
  Calls Tryz.prog 22 #[.slice sa n sc] w fun e w'=>e=.returned (.tuple #[.pointer none,.int .i64 r])/\Vg.Grows w w':=by
 have hbb:(r != 0)=true:=by simp[hb]
 have H_hr:=h_ hr;have H_hn:=h_ hn;have H_hx:=h_ hx;have H_hb:=h_ hb;clear hr hn hx hb
 go_enter Tryz.func22,Tryz.ntmps22
 go_wp2_with ((go_at_call 44;refine(kern_check H_hr.out H_hn.out H_hx.out).mono ?_;rintro e w1 ⟨rfl,x1,n1,rfl⟩))
 go_returns
 exact⟨rfl,Vg.gro⟩
theorem kern_new {T:List Vg.Tk} {sa:Option Addr} {sc:Nat} (hr:Vg.TK w sa sc T) (hn:T.length=n) (hx:Vg.Kn.check T=0) :
  Calls Tryz.prog 22 #[.slice sa n sc] w fun e w'=>∃b xs rv cb cv,e=.returned (.tuple #[.pointer (some ⟨b,0,none⟩),.int .i64 0])/\KT w' b xs rv cb (Vg.Kn.M0 T) cv/\xs.map (·.2)=Vg.Kn.K0 T/\w.heap.size<=b/\Vg.Grows w w':=by
 obtain⟨⟨hn1,hn32⟩,hodd,hnd⟩:=Vg.Kn.check_ok hx
 obtain⟨i0,hI,hz0,hz1,hz2⟩:=info_parts Tryz.info_ktask
 rw[hn]at hn1 hn32
 have hmk:∀wx:World,(Instr.makeSlice 138 (.int .i64 16) (.int .i64 16)).run Tryz.prog wx=.ok (.slice (some ⟨wx.heap.size,0,none⟩) 16 16) (wx.alloc (.cells (Vg.ics (Vg.Kn.ceils [])).toArray 3)):=fun wx=>by
  have:=run_make_row' (P:=Tryz.prog) 138 3 (.int .i64 0) 8 Tryz.underlying138 Tryz.info_int rfl .i64 .i64 16 (by omega) (by omega) wx
  rw[Vg.madeI]at this
  exact this
 have H_hr:=h_ hr;have H_hn:=h_ hn;have H_hx:=h_ hx;have H_hodd:=h_ hodd;have H_hnd:=h_ hnd;clear hr hn hx hodd hnd
 go_enter Tryz.func22,Tryz.ntmps22
 go_wp2_with ((go_at_call 44;refine(kern_check H_hr.out H_hn.out H_hx.out).mono ?_;rintro e w1 ⟨rfl,hg1⟩;have HG1:=h_ hg1;clear hg1))
 obtain⟨b,hb⟩:∃b,w1.heap.size=b:=⟨_,rfl⟩
 obtain⟨W0,hW0⟩:∃W0,(w1.alloc (knC (.slice none 0 0))).alloc (.cells (Vg.ics (Vg.Kn.ceils [])).toArray 3)=W0:=⟨_,rfl⟩
 have g0:NK W0 b [] (.slice none 0 0) (Vg.Kn.ceils []):=by
  refine⟨?_,?_,Vg.Que.nil _ _ _ _,fun i h=>by simp at h⟩
  ·rw[<-hW0,<-hb];exact(Vg.alloc_heap_past (by simp)).trans (Vg.alloc_heap_at rfl)
  ·rw[<-hW0,<-hb];exact Vg.alloc_heap_at (by simp)
 have gg:Vg.Grows w W0:=by rw[<-hW0];exact HG1.out.trans (Vg.gro)
 have hbw:w.heap.size<=b:=by rw[<-hb];exact HG1.out.size
 simp only[hb]
 rw[hW0]
 have H_hb:=h_ hb;have H_hW0:=h_ hW0;have H_g0:=h_ g0;clear hb hW0 g0
 go_loopw [20] (fun i wr=>∃(k:Nat) (xs:List Vg.Kp) (rv:Value),k<=n/\i=.int .i64 k/\Vg.Grows w wr/\xs.map (·.2)=Vg.Kn.K0 (T.take k)/\NK wr b xs rv (Vg.Kn.ceils (T.take k))) (fun i _=>n-(intOf i).toNat)
 case atStart=>exact⟨0,[],_,by omega,rfl,gg,by simp[Vg.Kn.K0],by rw[List.take_zero];exact H_g0.out⟩
 case round=>
  obtain⟨k,xs,rv,hk,rfl,hgr,hmap,hnk⟩:=hrel
  by_cases hlt:k<n
  ·have hkT:k<T.length:=by rw[H_hn.out];exact hlt
   obtain⟨g,off,rfl,hg,hc⟩:=H_hr.out.2.2 k hkT
   have hrc:=H_hr.out.1
   have hrm:sc<=9223372036854775807:=H_hr.out.2.1
   rw[H_hn.out]at hrc
   have hsn:=List.take_succ_eq_append_getElem hkT
   obtain⟨t,ht⟩:∃t,T[k]=t:=⟨_,rfl⟩
   have hme:t∈T:=by rw[<-ht];exact List.getElem_mem _
   have hok:t.ok:=Vg.oddK_no (by
    cases hh:Vg.oddK t with
    | false=>rfl
    | true=>rw[<-H_hodd.out];exact(List.any_eq_true.2 ⟨t,hme,hh⟩).symm)
   have hc':∀i,i<10->wr.cell? ⟨g,off+k*10+i,none⟩=some (Vg.tkcell t i):=fun i hi=>(hgr.below.cell (p:=⟨g,off+k*10+i,none⟩) hg).trans (by rw[<-ht];exact hc i hi)
   rw[ht]at hsn
   have hgl:g<wr.heap.size:=Nat.lt_of_lt_of_le hg hgr.size
   have c0:=hc' 0 (by decide)
   have c1:=hc' 1 (by decide)
   have c2:=hc' 2 (by decide)
   have c3:=hc' 3 (by decide)
   have c4:=hc' 4 (by decide)
   have c5:=hc' 5 (by decide)
   have c6:=hc' 6 (by decide)
   have c7:=hc' 7 (by decide)
   have c8:=hc' 8 (by decide)
   have c9:=hc' 9 (by decide)
   simp only[Vg.tkcell,Nat.add_zero]at c0 c1 c2 c3 c4 c5 c6 c7 c8 c9
   clear hc hc'
   have hxk:xs.length=k:=by have:=congrArg List.length hmap;unfold Vg.Kn.K0 at this;rw[List.length_map,List.length_map,List.length_take]at this;omega
   have hcl:=Vg.Kn.ceils_len (T.take k)
   have hce1:Vg.Kn.ceils (T.take (k+1))=Vg.Kn.ceil1 (Vg.Kn.ceils (T.take k)) t:=by rw[hsn,Vg.Kn.ceils_snoc]
   obtain⟨L,hL⟩:∃L,Vg.Kn.ceils (T.take k)=L:=⟨_,rfl⟩
   rw[hL]at hnk hcl hce1
   have hrow:=hnk.row
   obtain⟨ra,rc,rfl⟩:=hrow.shape
   rw[hxk]at hnk hrow
   have H_hmap:=h_ hmap;have H_hnk:=h_ hnk;have H_hsn:=h_ hsn;have H_ht:=h_ ht;have H_hme:=h_ hme;have H_hxk:=h_ hxk;have H_hrow:=h_ hrow;have H_hcl:=h_ hcl;have H_hce1:=h_ hce1;have H_hL:=h_ hL;have H_hok:=h_ hok;clear hmap hnk hsn ht hme hxk hrow hcl hce1 hL hok
   go_upto_region 9 with(fail)
   obtain⟨wy,hwy⟩:∃wy,wr.alloc (tkC t)=wy:=⟨_,rfl⟩
   have hgy:Vg.Grows wr wy:=by rw[<-hwy];exact Vg.gro
   have x2:Vg.blk wy wr.heap.size=some (tkC t):=by rw[<-hwy];exact Vg.alloc_heap_at rfl
   have nk2:=H_hnk.out.grows hgy
   have q2:=H_hrow.out.grows hgy
   have x1:=nk2.tab
   have hgwy:=hgr.trans hgy
   have hszy:wy.heap.size=wr.heap.size+1:=by rw[<-hwy];simp
   have hbr:=Vg.lt_of H_hnk.out.tab
   have hcr:=Vg.lt_of H_hnk.out.cei
   have hrr:=H_hrow.out.lt
   rw[hwy]
   obtain⟨bx,hbx⟩:∃bx,wr.heap.size=bx:=⟨_,rfl⟩
   rw[hbx]at x2 hszy hbr hcr hrr
   simp only[hbx]
   have n1:b≠bx:=by omega
   have n2:bx≠b:=by omega
   have hsz9:b+2<=wy.heap.size:=by omega
   have lb1:b<bx+1:=by omega
   obtain⟨c_x1,f_x1,p_x1,l_x1,H_x1⟩:=Vg.lay x1;clear x1;obtain⟨c_x2,f_x2,p_x2,l_x2,H_x2⟩:=Vg.lay x2;clear x2
   have H_nk2:=h_ nk2;have H_q2:=h_ q2;have H_hwy:=h_ hwy;have H_hrr:=h_ hrr;have H_hbx:=h_ hbx;clear nk2 q2 hwy hrr hbx
   go_cut [] (fun wz=>∃(xs':List Vg.Kp) (rv2:Value),xs'.map (·.2)=Vg.Kn.K0 (T.take (k+1))/\NK wz b xs' rv2 L/\Vg.blk wz bx=some (tkC t)/\Vg.Grows w wz)
   case first=>
    go_region_law (refine Vg.step_que1 rfl (.tmp 28) (.tmp 31) 134 rfl (b+2) 141 i0 _ 13 120 Tryz.underlying134 hI hz0 hz1 hz2 rfl (by decide) (.slice ra k rc) k (Vg.kcells xs) (by simp[Act.eval,Act.put]) (H_q2.out.grows (Vg.gro)) ⟨bx+1,0,none⟩ 1 (tkN t) (by simp[Act.eval,Act.put]) rfl (Vg.many_new (by first|rfl|((try simp only[World.size_alloc,Vg.plus_size,Vg.put_size,World.size_setCell,World.size_drew,World.heap_drewN]) <;> omega))) (by simp[Value.oneCell']) (by unfold maxLen;omega) (by omega) (by decide) (by simp only[World.size_alloc,World.heap_drewN,World.size_drew];omega) ?_;intro v2 W1 y2 m2 hq2 hs2 ho2;obtain⟨a2,c2,rfl⟩:=hq2.shape;have z1:=(hs2.block b (fun hh=>by have:=(H_q2.out.lt b hh).1;omega)).trans (Vg.Grows.blk (w0:=wy) (Vg.gro) H_x1.out);have z2:=(hs2.block bx (fun hh=>by have:=(H_hrr.out bx hh).2;omega)).trans (Vg.Grows.blk (w0:=wy) (Vg.gro) H_x2.out);have hszW:=hs2.size;have hgW:=hs2.grows (w0:=w) (Vg.Grows.trans hgwy (Vg.gro)) (fun j hj=>by have:=(H_q2.out.lt j hj).1;omega);have nb4:=fun m=>NK.app (m:=m) (t:=t) (NK.grows H_nk2.out (Vg.gro)) (by rw[H_hxk.out];exact hq2) hs2;clear c_x1 f_x1 p_x1 c_x2 f_x2 p_x2;obtain⟨c_z1,f_z1,p_z1,l_z1,H_z1⟩:=Vg.lay z1;clear z1;obtain⟨c_z2,f_z2,p_z2,l_z2,H_z2⟩:=Vg.lay z2;clear z2;have e1:(Vg.plus W1 y2 m2).cell? ⟨b,0,none⟩=some (.slice ra k rc):=(by rw[Vg.plus_cell l_z1,c_z1];rfl);have e2:(Vg.plus W1 y2 m2).frozen? ⟨b,0,none⟩=false:=(by rw[Vg.plus_frozen l_z1,f_z1]);have H_hq2:=h_ hq2;have H_hs2:=h_ hs2;have H_ho2:=h_ ho2;have H_nb4:=h_ nb4;have H_hszW:=h_ hszW;clear hq2 hs2 ho2 nb4 hszW)
    all_goals go_wp2_with fail
    all_goals go_meet
    all_goals refine⟨xs ++ [(.slice none 0 0,Vg.kt0 t)],.slice a2 (k+1) c2,by unfold Vg.Kn.K0;rw[List.map_append,H_hmap.out,H_hsn.out,List.map_append];rfl,?_,?_,Vg.Grows.plus (Vg.Grows.put hgW hbw _) _ _⟩
    all_goals first
     | (have h9:=H_nb4.out m2;rw[Vg.put_plus l_z1]at h9;exact h9)
     | (rw[Vg.blk_plus (by rw[Vg.put_size];exact l_z2)];exact(Vg.put_heap_other n1).trans H_z2.out)
   case rest=>
    obtain⟨xs',rv2,hmap',nk3,x3,hg3⟩:=hcut
    have y1:=nk3.cei
    clear c_x1 f_x1 p_x1 c_x2 f_x2 p_x2
    obtain⟨c_x3,f_x3,p_x3,l_x3,H_x3⟩:=Vg.lay x3;clear x3
    by_cases hl:t.lk<0
    ·have hno:¬0<=t.lk:=by omega
     have he:Vg.Kn.ceil1 L t=L:=by unfold Vg.Kn.ceil1;rw[if_neg hno]
     have H_hmap':=h_ hmap';have H_nk3:=h_ nk3;have H_y1:=h_ y1;have H_he:=h_ he;clear hmap' nk3 y1 he
     go_wp2_with fail
     exact⟨⟨k+1,xs',rv2,by omega,by go_num,hg3,H_hmap'.out,by rw[H_hce1.out,H_he.out];exact H_nk3.out⟩,by simp[intOf];omega⟩
    ·have h0:0<=t.lk:=by omega
     have h16:=(H_hok.out.2.2 h0).1
     obtain⟨i,hi⟩:∃i:Nat,t.lk=i:=⟨t.lk.toNat,by omega⟩
     have hi16:i<16:=by omega
     have hiL:i<L.length:=by rw[H_hcl.out];exact hi16
     have he:Vg.Kn.ceil1 L t=L.set i (max L[i] t.pr):=by
      unfold Vg.Kn.ceil1
      rw[if_pos h0,hi,Int.toNat_natCast,List.getElem?_eq_getElem hiL]
      rfl
     have hcell:wc.cell? ⟨b+1,i,none⟩=some (.int .i64 L[i]):=by
      rw[Vg.cells_of y1]
      simp[Vg.ics,hiL]
     have hset:∀v:Int,wc.setCell ⟨b+1,i,none⟩ (.int .i64 v)=Vg.put wc (b+1) (.cells (Vg.ics (L.set i v)).toArray 3):=fun v=>by
      rw[Vg.setCell_of y1]
      simp[Vg.ics,List.map_set]
     have hfz:=Vg.frozen_of y1
     have hl1:=Vg.lt_of y1
     have hxb:bx≠b+1:=by omega
     have hend:∀v:Int,NK (Vg.put wc (b+1) (.cells ((List.map (Value.int .i64) L).set i (.int .i64 v)).toArray 3)) b xs' rv2 (L.set i v):=fun v=>by
      have:=nk3.ceil (L2:=L.set i v)
      unfold Vg.ics at this
      rw[List.map_set]at this
      exact this
     rw[hi]at c_x3
     obtain⟨c,hcL⟩:∃c,L[i]=c:=⟨_,rfl⟩
     rw[hcL]at hcell he
     obtain⟨q,hq⟩:∃q,max c t.pr=q:=⟨_,rfl⟩
     rw[hq]at he
     have hcase:(c<t.pr/\q=t.pr)\/(¬c<t.pr/\q=c):=by
      by_cases h:c<t.pr
      ·exact .inl ⟨h,by omega⟩
      ·exact .inr ⟨h,by omega⟩
     clear hq
     rcases hcase with⟨h1,rfl⟩|⟨h1,rfl⟩
     all_goals
      have H_hmap':=h_ hmap';have H_nk3:=h_ nk3;have H_y1:=h_ y1;have H_he:=h_ he;have H_hend:=h_ hend;have H_hcL:=h_ hcL;clear hmap' nk3 y1 he hend hcL
      go_wp2_with fail
      go_region
      all_goals go_wp2_with fail
      all_goals exact⟨⟨k+1,xs',rv2,by omega,by go_num,(Vg.Grows.put hg3 (by omega) _).drew,H_hmap'.out,by rw[H_hce1.out,H_he.out];exact(H_hend.out _).grows (Vg.gro)⟩,by simp[intOf];omega⟩
  ·have hkn:k=n:=by omega
   subst hkn
   have htk:T.take k=T:=List.take_of_length_le (by rw[H_hn.out];exact Nat.le_refl _)
   rw[htk]at hmap hnk
   have x1:=hnk.tab
   have y1:=hnk.cei
   have hcl:=Vg.Kn.ceils_len T
   have hco:=Vg.Kn.ceils_ok H_hodd.out
   have hir:Vg.IR wr (some ⟨b+1,0,none⟩) 16 (Vg.Kn.ceils T):=⟨by rw[hcl];exact Nat.le_refl _,by unfold maxLen;omega,fun k hk=>⟨b+1,0,rfl,Vg.lt_of y1,by rw[Vg.cells_of y1,Nat.zero_add];simp[Vg.ics,hk]⟩⟩
   have hnew:=ceil_new hir (by rw[hcl];exact Nat.le_refl _) hco
   rw[hcl]at hnew
   have hbl:=Vg.lt_of x1
   obtain⟨c_x1,f_x1,p_x1,l_x1,H_x1⟩:=Vg.lay x1;clear x1
   have H_hmap:=h_ hmap;have H_hnk:=h_ hnk;have H_htk:=h_ htk;have H_hcl:=h_ hcl;have H_hco:=h_ hco;have H_hir:=h_ hir;have H_hnew:=h_ hnew;have H_y1:=h_ y1;clear hmap hnk htk hcl hco hir hnew y1
   go_wp2_with fail
   refine H_hnew.out.mono ?_
   rintro e w2 ⟨cv,rfl,hce,hg2⟩
   have y2:=hg2.blk H_x1.out
   have hdn:=H_hnk.out.done hce hg2 (Nat.le_refl _)
   have hgw2:=hgr.trans hg2
   clear c_x1 f_x1 p_x1
   obtain⟨c_y2,f_y2,p_y2,l_y2,H_y2⟩:=Vg.lay y2;clear y2
   have H_hce:=h_ hce;have H_hdn:=h_ hdn;clear hce hdn
   go_wp2_with fail
   go_returns
   exact⟨b,xs,rv,_,cv,rfl,H_hdn.out.1,H_hmap.out,hbw,Vg.Grows.put hgw2 hbw _⟩
end
end Go.Proofs.YtlkdkgefjipjmaaGreatDoor
namespace Vg
open Go
theorem Kn.Inv.set{k k':Nat}{K:List Kt}{i:Nat}{x:Kt}(h:Kn.Inv k K)(hk:k<=k')(hx:x.good k'):Kn.Inv k' (K.set i x):=by
 intro y hy
 rcases List.mem_or_eq_of_mem_set hy with h1|h1
 ·exact(h y h1).mono hk
 ·rw[h1];exact hx
theorem Kn.Inv.release{k:Nat}{K:List Kt}(h:Kn.Inv k K)(m c a:Int):Kn.Inv (k+1) (Kn.release K m c a).1:=by
 by_cases hm:m<0\/(K.length:Int)<=m
 ·rw[Kn.release_out hm];exact h.mono (Nat.le_succ k)
 ·obtain⟨i,rfl⟩:∃i:Nat,m=i:=⟨m.toNat,by omega⟩
  have hi:i<K.length:=by omega
  rw[Kn.release_in hi]
  obtain⟨g1,g2,g3,g4,g5⟩:=h _ (List.getElem_mem hi)
  split
  ·exact h.mono (Nat.le_succ k)
  ·rename_i hb
   split
   ·exact h.set (Nat.le_succ k) ⟨g1,by simp only[];omega,g3,g4,g5⟩
   ·rename_i hf
    refine h.set (Nat.le_succ k) ⟨g1,by simp only[];omega,by simp only[List.length_append,List.length_cons,List.length_nil];omega,fun j hj=>?_,fun j hj=>?_⟩
    ·simp only[List.mem_append,List.mem_singleton]at hj
     rcases hj with hj|hj
     ·exact g4 j hj
     ·subst hj;exact⟨by simp only[];omega,by simp only[];omega,by simp only[];omega⟩
    ·simp only[]at hj
     cases hJ:K[i].J with
     | nil=>rw[hJ]at hj;simp at hj
     | cons x l=>
      rw[hJ]at hj g5
      simp only[List.cons_append,List.tail_cons,List.mem_append,List.mem_singleton]at hj g5
      rcases hj with hj|hj
      ·exact g5 j hj
      ·rw[hj]
theorem Kn.able_at{k i:Nat}{K:List Kt}(h:Kn.Inv k K)(ha:Kn.ableK K i=true):∃(hi:i<K.length)(t:Tk)(j:Jb)(l:List Jb)(lo:Int),K[i]=⟨t,j::l,lo,false⟩/\Kt.good k ⟨t,j::l,lo,false⟩:=by
 have hi:=Kn.ableK_lt ha
 have hg:=h _ (List.getElem_mem hi)
 rw[Kn.ableK_in hi]at ha
 obtain⟨⟨t,J,lo,ou⟩,hx⟩:∃y,K[i]=y:=⟨_,rfl⟩
 rw[hx]at ha hg
 cases J with
 | nil=>simp at ha
 | cons j l=>
  cases ou with
  | true=>simp at ha
  | false=>exact⟨hi,t,j,l,lo,hx,hg⟩
theorem Kn.Inv.run{k:Nat}{K:List Kt}(h:Kn.Inv k K)(M:List Mx)(n:Int):Kn.Inv k (Kn.run K M n).1:=by
 rcases Kn.best_cases (M:=M) h with⟨hb,_⟩|⟨i,hi,hb,ha,_⟩
 ·rw[Kn.run_none hb];exact h
 ·obtain⟨_,t,j,l,lo,hx,g1,g2,g3,g4,g5⟩:=Kn.able_at h ha
  rw[Kn.run_some hb hi hx]
  unfold Kn.runAt
  have hj:=g4 j (by simp)
  have hl:=Kn.leftJ_pos (t:=t) hj
  simp only[List.length_cons]at g3
  split
  ·exact h
  ·rename_i hn
   simp only[]at hn
   split
   ·refine h.set (Nat.le_refl k) ⟨g1,g2,by simp only[];omega,fun y hy=>g4 y (List.mem_cons_of_mem _ hy),fun y hy=>g5 y (List.mem_of_mem_tail hy)⟩
   ·rename_i hd
    obtain⟨⟨a1,a2⟩,⟨a3,a4⟩,a5⟩:=hj
    refine h.set (Nat.le_refl k) ⟨g1,g2,by simp only[List.length_cons];omega,fun y hy=>?_,g5⟩
    rcases List.mem_cons.1 hy with rfl|hy
    ·exact⟨⟨a1,a2⟩,⟨by simp only[];omega,by simp only[];omega⟩,a5⟩
    ·exact g4 y (List.mem_cons_of_mem _ hy)
end Vg
namespace Go.Proofs.YtlkdkgefjipjmaaGreatDoor
open Go.ChangeShapes Go.WideShapes Go.ChangeAt Go.RowKit
section
variable {w w' w0:World}{b n k:Nat}{K K':List Vg.Kt}{M M':List Vg.Mx}{S S':Nat->Prop}{r x d1 d2 d3 m:Int}{is:Bool}
end
end Go.Proofs.YtlkdkgefjipjmaaGreatDoor
