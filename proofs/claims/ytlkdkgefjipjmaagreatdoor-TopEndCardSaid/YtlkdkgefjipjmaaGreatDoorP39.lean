/- ExV (put together). -/
import Derived.Test.YtlkdkgefjipjmaaGreatDoorP38
import Derived.Test.YtlkdkgefjipjmaaGreatDoorQ0
set_option linter.all false
set_option maxHeartbeats 40000000
set_option maxRecDepth 100000
namespace Vg
open Go
theorem labs{xb gb gm a1 a2 a3 a4 a5:Nat}{Y Ok Oq Ob Tv:Nat->Prop}(hY:∀j,Y j->j<a1)(hT:∀j,Tv j->a1<=j/\j<a2)(hgb:a1<=gb/\gb<a2)(hgm:a1<=gm/\gm<a2)(n1:gb≠gm)(n2:¬Tv gb)(n3:¬Tv gm)(hx:a2<=xb/\xb<a3)(hk:∀j,Ok j->a3<=j/\j<a4)(hq:∀j,Oq j->a4<=j/\j<a5)(hb:∀j,Ob j->a5<=j)
  (h12:a1<=a2)(h34:a3<=a4)(h45:a4<=a5):
  ∃ow:Nat->Nat,(ow xb=1/\ow gb=6/\ow gm=9)/\(∀j,ow j=2↔Y j)/\(∀j,ow j=3↔Ok j)/\(∀j,ow j=4↔Oq j)/\(∀j,ow j=5↔Ob j)/\(∀j,Tv j->ow j=10)/\(∀j,ow j≠0->j=xb\/Y j\/Ok j\/Oq j\/Ob j\/j=gb\/j=gm\/Tv j):=by
 classical
 refine⟨fun j=>if j=xb then 1 else if Y j then 2 else if Ok j then 3 else if Oq j then 4 else if Ob j then 5 else if j=gb then 6 else if j=gm then 9 else if Tv j then 10 else 0,⟨?_,?_,?_⟩,fun j=>?_,fun j=>?_,fun j=>?_,fun j=>?_,fun j hj=>?_,fun j=>?_⟩
 ·simp
 ·have e1:¬gb=xb:=by omega
  have e2:¬Y gb:=fun h=>by have:=hY gb h;omega
  have e3:¬Ok gb:=fun h=>by have:=hk gb h;omega
  have e4:¬Oq gb:=fun h=>by have:=hq gb h;omega
  have e5:¬Ob gb:=fun h=>by have:=hb gb h;omega
  simp[e1,e2,e3,e4,e5]
 ·have e1:¬gm=xb:=by omega
  have e2:¬Y gm:=fun h=>by have:=hY gm h;omega
  have e3:¬Ok gm:=fun h=>by have:=hk gm h;omega
  have e4:¬Oq gm:=fun h=>by have:=hq gm h;omega
  have e5:¬Ob gm:=fun h=>by have:=hb gm h;omega
  have e6:¬gm=gb:=fun e=>n1 e.symm
  simp[e1,e2,e3,e4,e5,e6]
 ·simp only
  constructor
  ·intro e
   (repeat' split at e)<;>first|assumption|(exfalso;omega)
  ·intro h
   have:=hY j h
   rw[if_neg (by omega),if_pos h]
 ·simp only
  constructor
  ·intro e
   (repeat' split at e)<;>first|assumption|(exfalso;omega)
  ·intro h
   have:=hk j h
   have e2:¬Y j:=fun h2=>by have:=hY j h2;omega
   rw[if_neg (by omega),if_neg e2,if_pos h]
 ·simp only
  constructor
  ·intro e
   (repeat' split at e)<;>first|assumption|(exfalso;omega)
  ·intro h
   have:=hq j h
   have e2:¬Y j:=fun h2=>by have:=hY j h2;omega
   have e3:¬Ok j:=fun h2=>by have:=hk j h2;omega
   rw[if_neg (by omega),if_neg e2,if_neg e3,if_pos h]
 ·simp only
  constructor
  ·intro e
   (repeat' split at e)<;>first|assumption|(exfalso;omega)
  ·intro h
   have:=hb j h
   have e2:¬Y j:=fun h2=>by have:=hY j h2;omega
   have e3:¬Ok j:=fun h2=>by have:=hk j h2;omega
   have e4:¬Oq j:=fun h2=>by have:=hq j h2;omega
   rw[if_neg (by omega),if_neg e2,if_neg e3,if_neg e4,if_pos h]
 ·have:=hT j hj
  have e2:¬Y j:=fun h2=>by have:=hY j h2;omega
  have e3:¬Ok j:=fun h2=>by have:=hk j h2;omega
  have e4:¬Oq j:=fun h2=>by have:=hq j h2;omega
  have e5:¬Ob j:=fun h2=>by have:=hb j h2;omega
  have e6:¬j=gb:=fun h2=>n2 (h2 ▸ hj)
  have e7:¬j=gm:=fun h2=>n3 (h2 ▸ hj)
  simp only
  rw[if_neg (by omega),if_neg e2,if_neg e3,if_neg e4,if_neg e5,if_neg e6,if_neg e7,if_pos hj]
 ·simp only
  intro e
  by_cases c1:j=xb
  ·exact .inl c1
  by_cases c2:Y j
  ·exact .inr (.inl c2)
  by_cases c3:Ok j
  ·exact .inr (.inr (.inl c3))
  by_cases c4:Oq j
  ·exact .inr (.inr (.inr (.inl c4)))
  by_cases c5:Ob j
  ·exact .inr (.inr (.inr (.inr (.inl c5))))
  by_cases c6:j=gb
  ·exact .inr (.inr (.inr (.inr (.inr (.inl c6)))))
  by_cases c7:j=gm
  ·exact .inr (.inr (.inr (.inr (.inr (.inr (.inl c7))))))
  by_cases c8:Tv j
  ·exact .inr (.inr (.inr (.inr (.inr (.inr (.inr c8))))))
  ·exfalso;apply e;rw[if_neg c1,if_neg c2,if_neg c3,if_neg c4,if_neg c5,if_neg c6,if_neg c7,if_neg c8]
def bks(T:List Tk)(j:Nat):List Bk:=(T.take j).map (fun t=>(⟨t.co,[],St.zero⟩:Bk))++List.replicate (T.length-j) bk0
theorem bks_len(T:List Tk)(j:Nat)(h:j<=T.length):(bks T j).length=T.length:=by simp[bks];omega
theorem bks_all(T:List Tk):bks T T.length=T.map (fun t=>(⟨t.co,[],St.zero⟩:Bk)):=by simp[bks]
theorem bks_succ{T:List Tk}{j:Nat}(h:j<T.length):(bks T j).set j ⟨T[j].co,[],St.zero⟩=bks T (j+1):=by
 unfold bks
 have hl:((T.take j).map (fun t=>(⟨t.co,[],St.zero⟩:Bk))).length=j:=by simp;omega
 rw[List.set_append_right _ _ (by omega),hl,Nat.sub_self]
 have e:T.length-j=(T.length-(j+1))+1:=by omega
 rw[e,List.replicate_succ,List.set_cons_zero,List.take_succ_eq_append_getElem h,List.map_append,List.append_assoc];rfl
theorem bks_at{T:List Tk}{j:Nat}(h:j<T.length)(hl:j<(bks T j).length):(bks T j)[j]=bk0:=by
 have hl9:((T.take j).map (fun t=>(⟨t.co,[],St.zero⟩:Bk))).length=j:=by simp;omega
 have h9:(bks T j)[j]? = some bk0:=by
  unfold bks
  rw[List.getElem?_append_right (by omega),hl9,Nat.sub_self]
  rw[List.getElem?_replicate,if_pos (by omega)]
 rw[List.getElem?_eq_getElem hl]at h9
 exact Option.some.inj h9
def nils(n:Nat):List Value:=List.replicate n (.slice none 0 0)
theorem made_bk(n:Nat):madeCells #[.int .i64 0,.slice none 0 0,.int .i64 0,.int .i64 0,.int .i64 0,.int .i64 0,.int .i64 0] (n*7)=(bkcells ((List.replicate n bk0).zip (nils n))).toArray:=by
 have hz:((List.replicate n bk0).zip (nils n)).length=n:=by simp[nils]
 have hl:=bkcells_length ((List.replicate n bk0).zip (nils n))
 rw[hz]at hl
 apply Array.ext'
 apply List.ext_getElem?
 intro m
 rcases Nat.lt_or_ge m (n*7)with hm|hm
 ·have hk:m/7<((List.replicate n bk0).zip (nils n)).length:=by rw[hz];omega
  obtain⟨a0,a1,a2,a3,a4,a5,a6⟩:=bkcells_get _ (m/7) hk
  have hg:((List.replicate n bk0).zip (nils n))[m/7]=(bk0,.slice none 0 0):=by simp[nils]
  rw[hg]at a0 a1 a2 a3 a4 a5 a6
  have hd:m=m/7*7+m%7:=by omega
  obtain⟨q,hq⟩:∃q,m/7=q:=⟨_,rfl⟩
  rw[hq]at a0 a1 a2 a3 a4 a5 a6 hd
  have hmd:(madeCells #[.int .i64 0,.slice none 0 0,.int .i64 0,.int .i64 0,.int .i64 0,.int .i64 0,.int .i64 0] (n*7)).toList[m]? = some (#[Value.int .i64 0,.slice none 0 0,.int .i64 0,.int .i64 0,.int .i64 0,.int .i64 0,.int .i64 0][m%7]!):=by
   unfold madeCells
   simp[hm]
  rw[hmd]
  have:m%7=0\/m%7=1\/m%7=2\/m%7=3\/m%7=4\/m%7=5\/m%7=6:=by omega
  rcases this with h|h|h|h|h|h|h
  ·rw[h]at hd ⊢;rw[hd];exact a0.symm
  ·rw[h]at hd ⊢;rw[hd];exact a1.symm
  ·rw[h]at hd ⊢;rw[hd];exact a2.symm
  ·rw[h]at hd ⊢;rw[hd];exact a3.symm
  ·rw[h]at hd ⊢;rw[hd];exact a4.symm
  ·rw[h]at hd ⊢;rw[hd];exact a5.symm
  ·rw[h]at hd ⊢;rw[hd];exact a6.symm
 ·rw[List.getElem?_eq_none (by rw[Array.length_toList,size_madeCells];exact hm),List.getElem?_eq_none (by simpa[hl]using hm)]
theorem made_b(n:Nat):madeCells #[.bool false] n=(List.replicate n (Value.bool false)).toArray:=by
 unfold madeCells
 apply Array.ext'
 simp
 apply List.ext_getElem
 ·simp
 ·intro i h1 h2
  simp
  have:i%1=0:=by omega
  simp[this]
end Vg
namespace Go.Proofs.YtlkdkgefjipjmaaGreatDoor
open Go.ChangeShapes Go.WideShapes Go.ChangeAt Go.RowKit
theorem Tryz.info_ebook:(Tryz.prog.info? 95).map (fun i=>(i.zero,i.size,i.bytes))=some (some (.agg #[.int .i64 0,.slice none 0 0,.int .i64 0,.int .i64 0,.int .i64 0,.int .i64 0,.int .i64 0]),7,72):=by kernel_rfl
theorem Tryz.info_ebool:(Tryz.prog.info? 4).map (fun i=>(i.zero,i.size,i.bytes))=some (some (.bool false),1,1):=by kernel_rfl
theorem mk_books(n:Nat)(hn:n<=4096)(w:World):(Instr.makeSlice 75 (.int .i64 n) (.int .i64 n)).run Tryz.prog w=.ok (.slice (some ⟨w.heap.size,0,none⟩) n n) (w.alloc (.cells (Vg.bkcells ((List.replicate n Vg.bk0).zip (Vg.nils n))).toArray 95)):=by
 obtain⟨i,hi,hz,hs,hb⟩:=info_parts Tryz.info_ebook
 have:=run_make (P:=Tryz.prog) w 75 95 i (.agg #[.int .i64 0,.slice none 0 0,.int .i64 0,.int .i64 0,.int .i64 0,.int .i64 0,.int .i64 0]) Tryz.underlying75 hi hz .i64 .i64 n n (by omega) (by omega) (by rw[hb];omega) (by omega)
 rw[hs]at this
 simp only[Int.toNat_natCast]at this
 rw[this,show(Value.agg #[.int .i64 0,.slice none 0 0,.int .i64 0,.int .i64 0,.int .i64 0,.int .i64 0,.int .i64 0]).cells=#[.int .i64 0,.slice none 0 0,.int .i64 0,.int .i64 0,.int .i64 0,.int .i64 0,.int .i64 0]from rfl,Vg.made_bk]
theorem mk_masks(n:Nat)(hn:n<=4096)(w:World):(Instr.makeSlice 76 (.int .i64 n) (.int .i64 n)).run Tryz.prog w=.ok (.slice (some ⟨w.heap.size,0,none⟩) n n) (w.alloc (.cells (List.replicate n (Value.bool false)).toArray 4)):=by
 obtain⟨i,hi,hz,hs,hb⟩:=info_parts Tryz.info_ebool
 have:=run_make (P:=Tryz.prog) w 76 4 i (.bool false) Tryz.underlying76 hi hz .i64 .i64 n n (by omega) (by omega) (by rw[hb];omega) (by omega)
 rw[hs]at this
 simp only[Int.toNat_natCast,Nat.mul_one]at this
 rw[this,show(Value.bool false).cells=#[.bool false]from rfl,Vg.made_b]
end Go.Proofs.YtlkdkgefjipjmaaGreatDoor
