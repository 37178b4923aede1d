/- Fitx, IrqGx, BotNx, KernNx, HypG (put together). -/
import Derived.WalkKit
import Derived.ProofKit
import Derived.OpenShut
import Derived.Deep.Slices
import Derived.ChangeArms
import Derived.Test.YtlkdkgefjipjmaaGreatDoorQ0
import Derived.Test.YtlkdkgefjipjmaaGreatDoorP18
import Derived.Test.YtlkdkgefjipjmaaGreatDoorP10
import Derived.Test.YtlkdkgefjipjmaaGreatDoorP19
import Derived.Test.YtlkdkgefjipjmaaGreatDoorP22
import Derived.Deep.RegionLaw
import Derived.Deep.DeepAppendWide
import Derived.Test.YtlkdkgefjipjmaaGreatDoorP23
import Derived.Test.YtlkdkgefjipjmaaGreatDoorP26
import Derived.Test.YtlkdkgefjipjmaaGreatDoorP27
import Derived.Test.YtlkdkgefjipjmaaGreatDoorQ2
import Derived.OrdersHeld
import Derived.Deep.RegionHeld
import Derived.Lib.Hide
import Derived.RowKit
set_option linter.all false
set_option maxHeartbeats 40000000
set_option maxRecDepth 100000
namespace Vg
open Go Go.ChangeShapes Go.WideShapes Go.Deep Go.RowKit
def Fits{α:Type}(fit:α->Value->Prop):List α->List Value->Prop
 | [],[]=>True
 | a::az,v::vs=>fit a v/\Fits fit az vs
 | _,_=>False
theorem Fits.length{α:Type}{fit:α->Value->Prop}:∀{az:List α}{vs:List Value},Fits fit az vs->vs.length=az.length
 | [],[],_=>rfl
 | _::_,_::_,h=>by simp[Fits.length h.2]
 | [],_::_,h=>h.elim
 | _::_,[],h=>h.elim
theorem Fits.app{α:Type}{fit:α->Value->Prop}:∀{az bs:List α}{vs us:List Value},Fits fit az vs->Fits fit bs us->Fits fit (az++bs) (vs++us)
 | [],_,[],_,_,k=>k
 | _::_,_,_::_,_,h,k=>⟨h.1,Fits.app h.2 k⟩
 | [],_,_::_,_,h,_=>h.elim
 | _::_,_,[],_,h,_=>h.elim
theorem Fits.cons_inv{α:Type}{fit:α->Value->Prop}{a:α}{az:List α}:∀{l:List Value},Fits fit (a::az) l->∃v vs,l=v::vs/\fit a v/\Fits fit az vs
 | [],h=>h.elim
 | v::vs,h=>⟨v,vs,rfl,h.1,h.2⟩
theorem Fits.nil_inv{α:Type}{fit:α->Value->Prop}:∀{l:List Value},Fits fit [] l->l=[]
 | [],_=>rfl
 | _::_,h=>h.elim
def fit0:Option IntKind->Value->Prop
 | some k,v=>∃n,v=.int k n/\(Lit.int k n).wf=true
 | none,v=>∃b,v=.bool b
def flatF{α:Type}(g:TypeId->Option (List α))(P:Program):List Field->Nat->Option (List α)
 | [],_=>some []
 | f::fs,off=>
  match g f.type,flatF g P fs (off+P.cellsOf f.type)with
  | some a,some b=>if f.offset=off/\a.length=P.cellsOf f.type then some (a++b)else none
  | _,_=>none
def flat0(P:Program):Nat->TypeId->Option (List (Option IntKind))
 | 0,_=>none
 | n+1,t=>
  match P.underlying t with
  | some .bool=>some [none]
  | some (.int k)=>some [some k]
  | some (.struct fs)=>match flatF (flat0 P n) P fs.toList 0 with
   | some l=>if l.length=P.cellsOf t then some l else none
   | none=>none
  | _=>none
section
variable {H:Type}{enc:TypeId×Value->H}{P:Program}{w:World}{base:Nat}{spare:Nat->Bool}{held:Bool}
theorem fitsF{α:Type}{fit:α->Value->Prop}{g:TypeId->Option (List α)}{cs:List Value}:∀{fs:List Field}{off:Nat}{L:List α},flatF g P fs off=some L->cs.length=off+L.length ->
  (∀f∈fs,∀l,g f.type=some l->Fits fit l ((cs.drop f.offset).take (P.cellsOf f.type)))->Fits fit L (cs.drop off)
 | [],off,L,h,hl,_=>by
  simp only[flatF,Option.some.injEq]at h
  subst h
  simp at hl
  rw[List.drop_of_length_le (by omega)]
  trivial
 | f::fs,off,L,h,hl,hf=>by
  unfold flatF at h
  split at h
  ·rename_i a b ha hb
   split at h
   ·rename_i hc
    simp only[Option.some.injEq]at h
    subst h
    have h1:=hf f (by simp) a ha
    rw[hc.1]at h1
    simp only[List.length_append]at hl
    have h2:=fitsF hb (by omega) (fun f' hm=>hf f' (by simp[hm]))
    have e:cs.drop off=(cs.drop off).take (P.cellsOf f.type)++cs.drop (off+P.cellsOf f.type):=by
     rw[<-List.drop_drop,List.take_append_drop]
    rw[e]
    exact Fits.app h1 h2
   ·cases h
  ·cases h
theorem fits0:∀(n:Nat) {t:TypeId} {L:List (Option IntKind)} {fuel:Nat} {cs:List Value} {x:DataW H×List MemPlace},flat0 P n t=some L->DataW.trod enc P w base spare held fuel t cs=some x->Fits fit0 L cs
 | 0,_,_,_,_,_,h,_=>by simp[flat0]at h
 | n+1,t,L,fuel,cs,x,h,ht=>by
  unfold flat0 at h
  split at h
  ·rename_i hu
   simp only[Option.some.injEq]at h
   subst h
   obtain⟨b,rfl,_⟩:=DataW.trod_bool hu ht
   exact⟨⟨b,rfl⟩,trivial⟩
  ·rename_i k hu
   simp only[Option.some.injEq]at h
   subst h
   obtain⟨m,rfl,_,hw⟩:=DataW.trod_int hu ht
   exact⟨⟨m,rfl,hw⟩,trivial⟩
  ·rename_i fs hu
   split at h
   ·rename_i l hl
    split at h
    ·rename_i hlen
     simp only[Option.some.injEq]at h
     subst h
     obtain⟨xs,m,_,_,hcl,hxl,hg⟩:=DataW.trod_struct hu ht
     have:=fitsF (fit:=fit0) (cs:=cs) hl (by rw[hlen];omega) (fun f hf l' hl'=>by
      obtain⟨i,hi,he⟩:=List.mem_iff_getElem.1 hf
      have hi':fs[i]? = some f:=by rw[<-he];simp at hi ⊢
      have hh:=hg i f hi'
      have hxi:xs[i]? = some (xs[i]'(by simp at hi;omega)):=List.getElem?_eq_getElem _
      rw[hxi]at hh
      exact fits0 n hl' hh)
     simpa using this
    ·cases h
   ·cases h
  ·cases h
def fit1(w:World):Option IntKind ⊕ List (Option IntKind)->Value->Prop
 | .inl l,v=>fit0 l v
 | .inr L,v=>v=.slice none 0 0 \/ ∃(a:Addr)(len cap:Nat),v=.slice (some a) len cap/\len<=cap/\cap<=maxLen /\
   ∀i,i<len->∃cs:List Value,Fits fit0 L cs/\∀j,j<L.length->w.cell? (a.add (i*L.length+j))=cs[j]?
theorem fit1_int{w:World}{k:IntKind}{v:Value}(h:fit1 w (.inl (some k)) v):∃n,v=.int k n/\(Lit.int k n).wf=true:=h
def flat1(P:Program):Nat->TypeId->Option (List (Option IntKind ⊕ List (Option IntKind)))
 | 0,_=>none
 | n+1,t=>
  match P.underlying t with
  | some .bool=>some [.inl none]
  | some (.int k)=>some [.inl (some k)]
  | some (.slice e)=>match flat0 P n e with
   | some l=>if l.length=P.cellsOf e then some [.inr l]else none
   | none=>none
  | some (.struct fs)=>match flatF (flat1 P n) P fs.toList 0 with
   | some l=>if l.length=P.cellsOf t then some l else none
   | none=>none
  | _=>none
theorem fits1:∀(n:Nat) {t:TypeId} {L:List (Option IntKind ⊕ List (Option IntKind))} {fuel:Nat} {cs:List Value} {x:DataW H×List MemPlace},flat1 P n t=some L->DataW.trod enc P w base spare held fuel t cs=some x->Fits (fit1 w) L cs
 | 0,_,_,_,_,_,h,_=>by simp[flat1]at h
 | n+1,t,L,fuel,cs,x,h,ht=>by
  unfold flat1 at h
  split at h
  ·rename_i hu
   simp only[Option.some.injEq]at h
   subst h
   obtain⟨b,rfl,_⟩:=DataW.trod_bool hu ht
   exact⟨⟨b,rfl⟩,trivial⟩
  ·rename_i k hu
   simp only[Option.some.injEq]at h
   subst h
   obtain⟨m,rfl,_,hw⟩:=DataW.trod_int hu ht
   exact⟨⟨m,rfl,hw⟩,trivial⟩
  ·rename_i e hu
   split at h
   ·rename_i l hl
    split at h
    ·rename_i hlen
     simp only[Option.some.injEq]at h
     subst h
     rcases open_slice hu ht with⟨rfl,_⟩|⟨a,len,cap,m,n',D,Pl,rfl,_,h1,h2,hm,_,hi⟩
     ·exact⟨.inl rfl,trivial⟩
     ·refine⟨.inr ⟨a,len,cap,rfl,h1,h2,fun i hlt=>?_⟩,trivial⟩
      have:len<=m:=by rw[hm];split <;> omega
      obtain⟨cs',hc,ht'⟩:=hi i (by omega)
      obtain⟨_,_,hat⟩:=World.cells?_some hc
      refine⟨cs',fits0 n hl ht',fun j hj=>?_⟩
      rw[hlen]at hj ⊢
      rw[<-hat j hj,Go.Deep.add_add]
    ·cases h
   ·cases h
  ·rename_i fs hu
   split at h
   ·rename_i l hl
    split at h
    ·rename_i hlen
     simp only[Option.some.injEq]at h
     subst h
     obtain⟨xs,m,_,_,hcl,hxl,hg⟩:=DataW.trod_struct hu ht
     have:=fitsF (fit:=fit1 w) (cs:=cs) hl (by rw[hlen];omega) (fun f hf l' hl'=>by
      obtain⟨i,hi,he⟩:=List.mem_iff_getElem.1 hf
      have hi':fs[i]? = some f:=by rw[<-he];simp at hi ⊢
      have hh:=hg i f hi'
      have hxi:xs[i]? = some (xs[i]'(by simp at hi;omega)):=List.getElem?_eq_getElem _
      rw[hxi]at hh
      exact fits1 n hl' hh)
     simpa using this
    ·cases h
   ·cases h
  ·cases h
theorem open_struct{r:Reach}{b0 n:Nat}{t:TypeId}{fs:Array Field}{v:Value}{d:DataW H}{p:List MemPlace}{L:List (Option IntKind ⊕ List (Option IntKind))}(hs:P.underlying t=some (.struct fs))(hL:flat1 P n t=some L)
  (hv:Value.okWide P w r b0 t v)(h:DataW.Trod enc P w base spare held t v d p):∃l:List Value,v=.agg ⟨l⟩/\Fits (fit1 w) L l:=by
 obtain⟨cs,rfl,_⟩:=okWide_struct hs hv
 obtain⟨fuel,hf⟩:=h
 exact⟨cs.toList,rfl,fits1 n hL hf⟩
end
def intRows(w:World)(K:List IntKind)(a:Option Addr)(len cap:Nat)(D:Nat->Nat->Int):Prop:=
 len<=cap/\cap<=maxLen/\(a=none->len=0/\cap=0) /\
 ∀i,i<len->∃b off,a=some ⟨b,off,none⟩/\∀j,(hj:j<K.length)->w.cell? ⟨b,off+(i*K.length+j),none⟩=some (.int K[j] (D i j))/\(Lit.int K[j] (D i j)).wf=true
theorem Fits.get{α:Type}{fit:α->Value->Prop}:∀{az:List α}{vs:List Value},Fits fit az vs->∀j,(hj:j<az.length)->∃v,vs[j]? = some v/\fit az[j] v
 | [],[],_,j,hj=>by simp at hj
 | a::az,v::vs,h,0,_=>⟨v,rfl,h.1⟩
 | a::az,v::vs,h,j+1,hj=>by
  obtain⟨u,hu,hf⟩:=Fits.get h.2 j (by simpa using hj)
  exact⟨u,by simpa using hu,by simpa using hf⟩
 | [],_::_,h,_,_=>h.elim
 | _::_,[],h,_,_=>h.elim
def intAt(w:World)(a:Option Addr)(k:Nat):Int:=
 match a with
 | none=>0
 | some a=>match w.cell? (a.add k)with
  | some (.int _ n)=>n
  | _=>0
theorem rows_of_fit{w:World}{K:List IntKind}{v:Value}(hK:0<K.length)(h:fit1 w (.inr (K.map some)) v):∃a len cap,v=.slice a len cap/\intRows w K a len cap (fun i j=>intAt w a (i*K.length+j)):=by
 rcases h with rfl|⟨a,len,cap,rfl,h1,h2,hi⟩
 ·exact⟨none,0,0,rfl,by omega,by unfold maxLen;omega,fun _=>⟨rfl,rfl⟩,fun i h=>by omega⟩
 ·refine⟨some a,len,cap,rfl,h1,h2,(fun h=>by cases h),fun i hlt=>?_⟩
  obtain⟨b,off,s⟩:=a
  have hs:s=none:=by
   obtain⟨cs,hF,hc⟩:=hi 0 (by omega)
   simp only[List.length_map]at hc
   obtain⟨v0,hv0,hf0⟩:=hF.get 0 (by simpa using hK)
   have hc0:=hc 0 hK
   rw[hv0]at hc0
   cases s with
   | none=>rfl
   | some s=>
    simp only[Nat.zero_mul,Nat.zero_add,Addr.add,if_true]at hc0
    unfold World.cell? at hc0
    split at hc0<;>simp at hc0
  subst hs
  obtain⟨cs,hF,hc⟩:=hi i hlt
  simp only[List.length_map]at hc
  refine⟨b,off,rfl,fun j hj=>?_⟩
  obtain⟨u,hu,hf⟩:=hF.get j (by simpa using hj)
  have hcj:=hc j hj
  rw[hu]at hcj
  obtain⟨n,rfl,hw⟩:∃n,u=.int K[j] n/\(Lit.int K[j] n).wf=true:=by simpa[fit0]using hf
  have e:intAt w (some ⟨b,off,none⟩) (i*K.length+j)=n:=by
   unfold intAt
   simp only[hcj]
  show _=some (Value.int K[j] (intAt w (some ⟨b,off,none⟩) (i*K.length+j)))/\(Lit.int K[j] (intAt w (some ⟨b,off,none⟩) (i*K.length+j))).wf=true
  rw[e]
  refine⟨?_,hw⟩
  rw[<-hcj]
  congr 1
  unfold Addr.add
  split
  ·rename_i h0;rw[h0];rfl
  ·rfl
theorem intRows.open{w:World}{K:List IntKind}{a:Option Addr}{len cap:Nat}{D:Nat->Nat->Int}(hK:0<K.length)(h:intRows w K a len cap D)(hl:0<len):
  ∃b off,a=some ⟨b,off,none⟩/\b<w.heap.size/\∀i,i<len->∀j,(hj:j<K.length)->w.cell? ⟨b,off+(i*K.length+j),none⟩=some (.int K[j] (D i j))/\(Lit.int K[j] (D i j)).wf=true:=by
 obtain⟨_,_,_,hi⟩:=h
 obtain⟨b,off,rfl,h0⟩:=hi 0 hl
 refine⟨b,off,rfl,World.block_lt_of_cell? w _ (h0 0 hK).1,fun i hlt=>?_⟩
 obtain⟨b',off',he,h1⟩:=hi i hlt
 simp only[Option.some.injEq,Addr.mk.injEq]at he
 obtain⟨rfl,rfl,_⟩:=he
 exact h1
end Vg
namespace Vg
open Go Go.RowKit
def linOf(D:Nat->Nat->Int)(i:Nat):Lin:=⟨D i 0,D i 1,D i 2,D i 3⟩
def linsOf(D:Nat->Nat->Int)(n:Nat):List Lin:=(List.range n).map (linOf D)
theorem linsOf_len(D:Nat->Nat->Int)(n:Nat):(linsOf D n).length=n:=by simp[linsOf]
theorem LR.of_rows{w:World}{a:Option Addr}{len cap:Nat}{D:Nat->Nat->Int}(h:intRows w [.i64,.i64,.i64,.i64] a len cap D):LR w a cap (linsOf D len):=by
 refine⟨by rw[linsOf_len];exact h.1,h.2.1,fun k hk=>?_⟩
 have hk':k<len:=by rw[linsOf_len]at hk;exact hk
 obtain⟨b,off,rfl,hb,hc⟩:=h.open (by decide) (by omega)
 have c0:=(hc k hk' 0 (by decide)).1
 have c1:=(hc k hk' 1 (by decide)).1
 have c2:=(hc k hk' 2 (by decide)).1
 have c3:=(hc k hk' 3 (by decide)).1
 have e:(linsOf D len)[k]=linOf D k:=by simp[linsOf]
 rw[e]
 refine⟨b,off,rfl,hb,?_,?_,?_,?_⟩
 ·simpa[linOf]using c0
 ·simpa[linOf,Nat.add_assoc]using c1
 ·simpa[linOf,Nat.add_assoc]using c2
 ·simpa[linOf,Nat.add_assoc]using c3
end Vg
namespace Vg
open Go Go.RowKit
def thOf(D:Nat->Nat->Int)(i:Nat):Th:=⟨D i 0,D i 1,D i 2,D i 3⟩
def thsOf(D:Nat->Nat->Int)(n:Nat):List Th:=(List.range n).map (thOf D)
theorem thsOf_len(D:Nat->Nat->Int)(n:Nat):(thsOf D n).length=n:=by simp[thsOf]
theorem TR.of_rows{w:World}{a:Option Addr}{len cap:Nat}{D:Nat->Nat->Int}(h:intRows w [.i64,.i64,.i64,.i64] a len cap D):TR w a cap (thsOf D len):=by
 refine⟨by rw[thsOf_len];exact h.1,h.2.1,fun k hk=>?_⟩
 have hk':k<len:=by rw[thsOf_len]at hk;exact hk
 obtain⟨b,off,rfl,hb,hc⟩:=h.open (by decide) (by omega)
 have c0:=(hc k hk' 0 (by decide)).1
 have c1:=(hc k hk' 1 (by decide)).1
 have c2:=(hc k hk' 2 (by decide)).1
 have c3:=(hc k hk' 3 (by decide)).1
 have e:(thsOf D len)[k]=thOf D k:=by simp[thsOf]
 rw[e]
 refine⟨b,off,rfl,hb,?_,?_,?_,?_⟩
 ·simpa[thOf]using c0
 ·simpa[thOf,Nat.add_assoc]using c1
 ·simpa[thOf,Nat.add_assoc]using c2
 ·simpa[thOf,Nat.add_assoc]using c3
end Vg
namespace Vg
open Go
def tkOf(D:Nat->Nat->Int)(i:Nat):Tk:=⟨D i 0,D i 1,D i 2,D i 3,D i 4,D i 5,D i 6,D i 7,D i 8,D i 9⟩
def tksOf(D:Nat->Nat->Int)(n:Nat):List Tk:=(List.range n).map (tkOf D)
theorem tksOf_len(D:Nat->Nat->Int)(n:Nat):(tksOf D n).length=n:=by simp[tksOf]
theorem TK.of_rows{w:World}{a:Option Addr}{len cap:Nat}{D:Nat->Nat->Int}(h:intRows w [.u8,.i64,.i64,.i64,.i64,.i64,.i64,.i64,.i64,.i64] a len cap D):TK w a cap (tksOf D len):=by
 refine⟨by rw[tksOf_len];exact h.1,h.2.1,fun k hk=>?_⟩
 have hk':k<len:=by rw[tksOf_len]at hk;exact hk
 obtain⟨b,off,rfl,hb,hc⟩:=h.open (by decide) (by omega)
 have e:(tksOf D len)[k]=tkOf D k:=by simp[tksOf]
 rw[e]
 refine⟨b,off,rfl,hb,fun j hj=>?_⟩
 have c:=(hc k hk' j hj).1
 simp only[List.length_cons,List.length_nil,Nat.zero_add]at c
 rcases j with _|_|_|_|_|_|_|_|_|_|j
 all_goals first
  | omega
  | simpa[tkOf,tkcell,Nat.add_assoc]using c
end Vg
namespace Go.Proofs.YtlkdkgefjipjmaaGreatDoor
open Go.ChangeShapes Go.WideShapes Go.ChangeAt Go.RowKit
theorem hg_time(t:Int)(w:World)(h0:0<=t)(h1:t<=4503599627370496):Calls Tryz.prog 33 #[.int .i64 t] w fun e w'=>e=.returned (.bool true)/\w=w':=by
 go_enter Tryz.func33,Tryz.ntmps33
 go_wp2
 go_ret
 exact⟨by simp[h1],rfl⟩
theorem hg_c(x k:Nat)(w:World)(hT:Vg.Tab w)(h0:0<x)(hx:x<18446744073709551616)(hk:Lib.ctz 64 x=k)(X K:Int)(hX:(x:Int)=X)(hK:(k:Int)=K):Calls Tryz.prog 71 #[.int .u64 X] w fun e w'=>e=.returned (.int .i64 K)/\w=w':=by
 subst hX hK hk
 exact ctz64 x w h0 hx hT
theorem hg_div(w:World)(hT:Vg.Tab w):Calls Tryz.prog 34 #[.int .u64 12,.int .u64 18] w fun e w'=>e=.returned (.int .u64 6)/\w=w':=by
 have c30:=hg_c 30 1 w hT (by decide) (by decide) (by decide +kernel) 30 1 rfl rfl
 have c12:=hg_c 12 2 w hT (by decide) (by decide) (by decide +kernel) 12 2 rfl rfl
 have c18:=hg_c 18 1 w hT (by decide) (by decide) (by decide +kernel) 18 1 rfl rfl
 have c6:=hg_c 6 1 w hT (by decide) (by decide) (by decide +kernel) 6 1 rfl rfl
 have o30:bits BinOp.or IntKind.u64 12 18=30:=by decide +kernel
 have H_hT:=h_ hT;have H_c30:=h_ c30;have H_c12:=h_ c12;have H_c18:=h_ c18;have H_c6:=h_ c6;clear hT c30 c12 c18 c6
 go_enter Tryz.func34,Tryz.ntmps34
 go_wp2_with (first|(go_at_call 71;(with_reducible refine(H_c30.out).mono ?_);rintro e1 w1 ⟨rfl,rfl⟩)|(go_at_call 71;(with_reducible refine(H_c12.out).mono ?_);rintro e1 w1 ⟨rfl,rfl⟩))
 go_loopw [0,1] (fun a b wr=>a=.int .u64 3/\(b=.int .u64 18\/b=.int .u64 6\/b=.int .u64 0)/\w=wr) (fun _ b _=>(intOf b).toNat)
 case atStart=>exact⟨rfl,.inl rfl,rfl⟩
 case round=>
  obtain⟨rfl,hb,hw⟩:=hrel
  subst hw
  rcases hb with rfl|rfl|rfl
  ·go_wp2_with ((go_at_call 71;(with_reducible refine(H_c18.out).mono ?_);rintro e1 w1 ⟨rfl,rfl⟩))
   go_roundw
   case rel=>first|exact⟨.inr (.inl rfl),trivial⟩|exact⟨rfl,.inr (.inl rfl),trivial⟩
   case measure=>simp[intOf]
  ·go_wp2_with ((go_at_call 71;(with_reducible refine(H_c6.out).mono ?_);rintro e1 w1 ⟨rfl,rfl⟩))
   go_roundw
   case rel=>first|exact⟨.inr (.inr rfl),trivial⟩|exact⟨rfl,.inr (.inr rfl),trivial⟩
   case measure=>simp[intOf]
  ·go_wp2
   go_ret
   exact⟨rfl,rfl⟩
theorem hg_gcd(w:World)(hT:Vg.Tab w):Calls Tryz.prog 11 #[.int .i64 12,.int .i64 18] w fun e w'=>e=.returned (.tuple #[.int .i64 6,.int .i64 0])/\w=w':=by
 have hd:=hg_div w hT
 have o30:bits BinOp.or IntKind.i64 12 18=30:=by decide +kernel
 have H_hd:=h_ hd;clear hd
 go_enter Tryz.func11,Tryz.ntmps11
 go_wp2_with (first|(go_at_call 33;(with_reducible refine(hg_time 12 _ (by decide) (by decide)).mono ?_);rintro e1 w1 ⟨rfl,rfl⟩)|(go_at_call 33;(with_reducible refine(hg_time 18 _ (by decide) (by decide)).mono ?_);rintro e1 w1 ⟨rfl,rfl⟩)|(go_at_call 34;(with_reducible refine(H_hd.out).mono ?_);rintro e1 w1 ⟨rfl,rfl⟩))
 go_returns
 exact⟨rfl,rfl⟩
end Go.Proofs.YtlkdkgefjipjmaaGreatDoor
