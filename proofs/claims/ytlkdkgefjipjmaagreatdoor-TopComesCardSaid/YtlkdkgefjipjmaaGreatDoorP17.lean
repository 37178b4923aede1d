/- IcB, IcC, IcD (put together). -/
import Derived.Test.YtlkdkgefjipjmaaGreatDoorP16
import Derived.Test.YtlkdkgefjipjmaaGreatDoorQ0
set_option linter.all false
set_option maxHeartbeats 40000000
set_option maxRecDepth 100000
namespace Vg
open Go
def oddP(x:Int):Bool:=decide (x<1)||decide (15<x)
theorem Ic.Ok.odd{n:Nat}{c:Ic}(h:c.Ok n):c.pr.any oddP=false:=by
 rw[List.any_eq_false]
 intro x hx
 have:=h.prs x hx
 simp[oddP]
 omega
theorem or_lt64 {a b:Nat} (ha:a<18446744073709551616) (hb:b<18446744073709551616):a ||| b<18446744073709551616:=by
 have:=Nat.or_lt_two_pow (x:=a) (y:=b) (n:=64) (by simpa using ha) (by simpa using hb)
 simpa using this
theorem and_not_sub {a n:Nat} (h:a<2 ^ n) (hn:n<=64):a &&& (18446744073709551615-(2 ^ n-1))=0:=by
 apply Nat.eq_of_testBit_eq
 intro i
 rw[Nat.testBit_and,Nat.zero_testBit]
 by_cases hi:n<=i
 ·rw[tb_hin h hi];rfl
 ·have hz:2 ^ n-1<18446744073709551616:=by have:=lt64_of (b:=2 ^ n-1) (n:=n) (by have:=Nat.two_pow_pos n;omega) hn;exact this
  rw[not_tb hz (by omega),Nat.testBit_two_pow_sub_one]
  have:i<n:=by omega
  simp[this]
def Ic.ahead(c:Ic)(k:Nat):Int:=match(c.st.take k).getLast? with
 | none=>0
 | some j=>c.prio j
theorem Ic.Ok.ahead_lt{n:Nat}{c:Ic}(h:c.Ok n){k:Nat}(hk:k<c.st.length):c.ahead k<c.prio c.st[k]:=by
 unfold Ic.ahead
 cases hl:(c.st.take k).getLast? with
 | none=>have:=h.prio_bd (h.sth _ (List.getElem_mem hk));simp only;omega
 | some j=>
  have hj:j∈c.st.take k:=List.mem_of_getLast? hl
  obtain⟨i,hi,e⟩:=List.getElem_of_mem hj
  rw[List.getElem_take]at e
  have hik:i<k:=by rw[List.length_take]at hi;omega
  have:=List.pairwise_iff_getElem.1 h.asc i k (by omega) hk hik
  simp only
  rw[<-e]
  exact this
theorem Ic.ahead_succ{c:Ic}{k:Nat}(hk:k<c.st.length):c.ahead (k+1)=c.prio c.st[k]:=by
 have e:(c.st.take (k+1)).getLast? = some c.st[k]:=by
  rw[List.take_succ_eq_append_getElem hk,List.getLast?_append]
  rfl
 unfold Ic.ahead
 rw[e]
end Vg
namespace Go.Proofs.YtlkdkgefjipjmaaGreatDoor
open Go.ChangeShapes Go.WideShapes Go.ChangeAt Go.RowKit
section
variable {w:World}{L:List Int}{sa:Option Addr}{sc:Nat}
theorem ic_odd(x:Int)(w:World):Calls Tryz.prog 145 #[.int .i64 x] w fun e w'=>e=.returned (.bool (Vg.oddP x))/\w=w':=by
 by_cases h0:x<1
 ·go_enter Tryz.func145,Tryz.ntmps145
  go_wp2
  go_ret
  exact⟨ret_bool (by simp[Vg.oddP,h0]),rfl⟩
 ·by_cases h1:15<x
  ·go_enter Tryz.func145,Tryz.ntmps145
   go_wp2
   go_ret
   exact⟨ret_bool (by simp[Vg.oddP,h1]),rfl⟩
  ·go_enter Tryz.func145,Tryz.ntmps145
   go_wp2
   go_ret
   exact⟨ret_bool (by simp[Vg.oddP];omega),rfl⟩
theorem ic_idx(hr:Vg.IR w sa sc L):
  Calls Tryz.prog 144 #[.slice sa L.length sc,.func (.func 145) #[] #[]] w fun e w'=>e=.returned (.int .i64 (Vg.idx Vg.oddP L))/\w=w':=by
 have HR:=h_ hr
 clear hr
 obtain⟨n,hn⟩:∃n,L.length=n:=⟨_,rfl⟩
 rw[hn]
 have hcm:n<=9223372036854775807:=by
  have h1:=HR.out.1
  have h2:sc<=9223372036854775807:=HR.out.2.1
  omega
 have H_hn:=h_ hn;clear hn
 go_enter Tryz.func144,Tryz.ntmps144
 go_wp2
 go_loop [8] (fun i=>∃k:Nat,k<=n/\i=.int .i64 k/\(L.take k).any Vg.oddP=false) (fun i=>n-(intOf i).toNat)
 case atStart=>exact⟨0,by omega,rfl,by simp⟩
 case round=>
  obtain⟨k,hk,rfl,hpre⟩:=hrel
  by_cases hlt:k<n
  ·have hkL:k<L.length:=by rw[H_hn.out];exact hlt
   obtain⟨g,off,rfl,hg,hc,hm,hcell⟩:=HR.out.icell k hkL
   have hsn:=List.take_succ_eq_append_getElem hkL
   obtain⟨x,hx⟩:∃x,L[k]=x:=⟨_,rfl⟩
   rw[hx]at hcell hsn
   cases hp:Vg.oddP x with
   | true=>
    have hi:=Vg.idx_at hkL hpre (by rw[hx];exact hp)
    have H_hpre:=h_ hpre;have H_hsn:=h_ hsn;have H_hx:=h_ hx;have H_hp:=h_ hp;have H_hi:=h_ hi;clear hpre hsn hx hp hi
    go_wp2_with ((go_at_call 145;refine(ic_odd _ _).mono ?_;rintro e w' ⟨rfl,rfl⟩;rw[H_hp.out]))
    go_ret
    rw[H_hi.out]
    exact⟨rfl,rfl⟩
   | false=>
    have hnx:(L.take (k+1)).any Vg.oddP=false:=by rw[hsn,List.any_append,hpre];simp[hp]
    have H_hpre:=h_ hpre;have H_hsn:=h_ hsn;have H_hx:=h_ hx;have H_hp:=h_ hp;have H_hnx:=h_ hnx;clear hpre hsn hx hp hnx
    go_wp2_with ((go_at_call 145;refine(ic_odd _ _).mono ?_;rintro e w' ⟨rfl,rfl⟩;rw[H_hp.out]))
    go_round
    case rel=>exact⟨k+1,by omega,by go_num,H_hnx.out⟩
    case measure=>simp[intOf];omega
  ·have hi:Vg.idx Vg.oddP L=-1:=Vg.idx_none (by rw[<-hpre,List.take_of_length_le (by rw[H_hn.out];omega)])
   have H_hpre:=h_ hpre;have H_hi:=h_ hi;clear hpre hi
   go_wp2
   go_ret
   rw[H_hi.out]
   exact⟨rfl,rfl⟩
theorem ic_contains(hr:Vg.IR w sa sc L):
  Calls Tryz.prog 82 #[.slice sa L.length sc,.func (.func 145) #[] #[]] w fun e w'=>e=.returned (.bool (L.any Vg.oddP))/\w=w':=by
 cases h:L.any Vg.oddP with
 | true=>
  have hi:=Vg.idx_some h
  obtain⟨r,hr'⟩:∃r,Vg.idx Vg.oddP L=r:=⟨_,rfl⟩
  rw[hr']at hi
  have H_h:=h_ h;have H_hr':=h_ hr';have H_hr:=h_ hr;clear h hr' hr
  go_enter Tryz.func82,Tryz.ntmps82
  go_wp2_with ((go_at_call 144;refine(ic_idx H_hr.out).mono ?_;rintro e w' ⟨rfl,rfl⟩;rw[H_hr'.out]))
  go_ret
  exact⟨rfl,rfl⟩
 | false=>
  have hi:=Vg.idx_none h
  have H_h:=h_ h;have H_hi:=h_ hi;have H_hr:=h_ hr;clear h hi hr
  go_enter Tryz.func82,Tryz.ntmps82
  go_wp2_with ((go_at_call 144;refine(ic_idx H_hr.out).mono ?_;rintro e w' ⟨rfl,rfl⟩;rw[H_hi.out]))
  go_ret
  exact⟨rfl,rfl⟩
end
section
variable {w w':World}{c:Vg.Ic}{n m ed pc sc:Nat}{pa sa:Option Addr}{L:List Int}
theorem ic_contains'(hr:Vg.IR w pa pc L)(hn:L.length=n){b:Bool}(hb:L.any Vg.oddP=b):
  Calls Tryz.prog 82 #[.slice pa n pc,.func (.func 145) #[] #[]] w fun e w'=>e=.returned (.bool b)/\w=w':=by
 subst hn hb
 exact ic_contains hr
theorem bits_between9(n:Nat)(w:World)(h1:64<=n)(h2:n<=9223372036854775807)(m:Int)(hm:m=(n:Int)-1):
  Calls Tryz.prog 48 #[.int .i64 0,.int .i64 m] w fun e w'=>e=.returned (.int .u64 18446744073709551615)/\w=w':=by
 subst hm
 go_enter Tryz.func48,Tryz.ntmps48
 go_wp2_with ((go_at_call 86;(with_reducible refine(bits_from0 _).mono ?_);rintro e w1 ⟨rfl,rfl⟩))
 go_ret
 exact⟨rfl,rfl⟩
theorem ic_lines(a b d f:Int)(th:Int)(z:Nat)(hz:2 ^ n-1=z)(h1:1<=n)(h2:n<=64)(w:World):
  Calls Tryz.prog 84 #[.agg #[.int .u64 a,.int .u64 b,.int .u64 d,.int .u64 f,.slice pa n pc,.int .i64 th,.slice sa m sc]] w fun e w'=>e=.returned (.int .u64 z)/\Vg.Grows w w':=by
 have H_hz:=h_ hz;clear hz
 go_enter Tryz.func84,Tryz.ntmps84
 go_wp2_with ((go_at_call 48;(with_reducible refine(bits_between n H_hz.out _ h1 h2 _ rfl).mono ?_);rintro e w1 ⟨rfl,rfl⟩))
 go_ret
 exact⟨rfl,Vg.gro⟩
theorem ic_lines9(a b d f:Int)(th:Int)(h1:64<n)(h2:n<=9223372036854775807)(w:World):
  Calls Tryz.prog 84 #[.agg #[.int .u64 a,.int .u64 b,.int .u64 d,.int .u64 f,.slice pa n pc,.int .i64 th,.slice sa m sc]] w fun e w'=>e=.returned (.int .u64 18446744073709551615)/\Vg.Grows w w':=by
 go_enter Tryz.func84,Tryz.ntmps84
 go_wp2_with ((go_at_call 48;(with_reducible refine(bits_between9 n _ (by omega) h2 _ rfl).mono ?_);rintro e w1 ⟨rfl,rfl⟩))
 go_ret
 exact⟨rfl,Vg.gro⟩
theorem ic_check (h:IS w c n m pa pc sa sc) (hed:2 ^ n-1=ed) {pe en:Nat} (hpe:c.pe=pe) (hen:c.en=en) :
  Calls Tryz.prog 85 #[icV pe en ed pa n pc sa m sc] w fun e w'=>e=.returned (.int .i64 0)/\Vg.Grows w w':=by
 obtain⟨q1,q2,q3,q4⟩:=h.caps
 obtain⟨n1,n2⟩:=h.ok.n1
 have hodd:=h.ok.odd
 have hpl:=h.ok.len
 have hep:pe<18446744073709551616:=by rw[<-hpe];exact h.ok.pe64
 have hee:en<18446744073709551616:=by rw[<-hen];exact h.ok.en64
 have hpn:pe<2 ^ n:=by rw[<-hpe];exact h.ok.pe
 have hen2:en<2 ^ n:=by rw[<-hen];exact h.ok.en
 have hed2:ed<2 ^ n:=by have:=Nat.two_pow_pos n;omega
 have hed3:ed<18446744073709551616:=Vg.lt64_of hed2 n2
 have hy1:=Vg.or_lt64 hep hee
 have hy2:=Vg.or_lt64 hy1 hed3
 have hy3:(pe ||| en ||| ed)<2 ^ n:=Nat.or_lt_two_pow (Nat.or_lt_two_pow hpn hen2) hed2
 have k4:=Vg.and_not_sub hy3 n2
 rw[hed]at k4
 have e1:bits .or .u64 (pe:Int) (en:Int)=((pe ||| en:Nat):Int):=u64_or_nat _ _ hep hee
 have e2:bits .or .u64 ((pe ||| en:Nat):Int) 0=((pe ||| en:Nat):Int):=by
  have:=u64_or_nat (pe ||| en) 0 hy1 (by decide)
  rw[Nat.or_zero]at this
  exact this
 have e3:bits .or .u64 ((pe ||| en:Nat):Int) (ed:Int)=((pe ||| en ||| ed:Nat):Int):=u64_or_nat _ _ hy1 hed3
 have e4:bits .andNot .u64 ((pe ||| en ||| ed:Nat):Int) (ed:Int)=0:=by
  have:=u64_andNot_nat (pe ||| en ||| ed) ed hy2 hed3
  rw[k4]at this
  exact this
 have e5:bits .and .u64 0 (ed:Int)=0:=by
  have:=u64_and_nat 0 ed (by decide) hed3
  rw[Nat.zero_and]at this
  exact this
 obtain⟨y,hy⟩:∃y,(pe ||| en)=y:=⟨_,rfl⟩
 obtain⟨y2,hyy⟩:∃y2,(pe ||| en ||| ed)=y2:=⟨_,rfl⟩
 rw[hyy]at e3 e4
 rw[hy]at e1 e2 e3
 have hnn:((n:Int)==0)=false:=by simp;omega
 clear k4 hy1 hy2 hy3 hpn hen2 hed2
 have H_h:=h_ h;have H_hed:=h_ hed;have H_hpe:=h_ hpe;have H_hen:=h_ hen;have H_hodd:=h_ hodd;have H_hpl:=h_ hpl;have H_hep:=h_ hep;have H_hee:=h_ hee;have H_hed3:=h_ hed3;have H_hy:=h_ hy;have H_hyy:=h_ hyy;clear h hed hpe hen hodd hpl hep hee hed3 hy hyy
 go_enter Tryz.func85,Tryz.ntmps85
 go_wp2_with (first|(go_at_call 82;(with_reducible refine(ic_contains' (H_h.out.p.grows (Vg.gro)) H_hpl.out H_hodd.out).mono ?_);rintro e w1 ⟨rfl,rfl⟩)|(go_at_call 84;(with_reducible refine(ic_lines _ _ _ _ _ _ H_hed.out n1 n2 _).mono ?_);rintro e w1 ⟨rfl,x1,m1,rfl⟩))
 go_loopw [5,63] (fun v5 i wr=>∃k:Nat,k<=m/\i=.int .i64 k/\v5=.int .i64 (c.ahead k)/\Vg.Grows (w.alloc (icO pe en ed pa n pc sa m sc)) wr) (fun _ i _=>m-(intOf i).toNat)
 case atStart=>exact⟨0,by omega,rfl,rfl,Vg.gro⟩
 case round=>
  obtain⟨k,hk,rfl,rfl,hgr⟩:=hrel
  have B1:=hgr.blk (Vg.alloc_heap_at rfl)
  have hg0:Vg.Grows w wr:=Vg.Grows.trans (Vg.gro) hgr
  by_cases hlt:k<m
  ·obtain⟨g,off,hk',hsa,hg,hc⟩:=(H_h.out.grows hg0).scell k hlt
   subst hsa
   have hxn:=H_h.out.ok.sth _ (List.getElem_mem hk')
   have hal:=H_h.out.ok.ahead_lt hk'
   have has:=Vg.Ic.ahead_succ hk'
   obtain⟨x,hx⟩:∃x,c.st[k]=x:=⟨_,rfl⟩
   rw[hx]at hc hxn hal has
   obtain⟨g2,off2,hpa,hg2,hc2⟩:=(H_h.out.grows hg0).pcell x hxn
   subst hpa
   obtain⟨ah,hah⟩:∃a,c.ahead k=a:=⟨_,rfl⟩
   obtain⟨px,hpx⟩:∃a,c.prio x=a:=⟨_,rfl⟩
   rw[hah,hpx]at hal
   rw[hpx]at hc2 has
   rw[hah]
   have hx0:(0:Int)<=x:=by omega
   have hx1:(x:Int)<n:=by omega
   obtain⟨c_B1,f_B1,p_B1,l_B1,H_B1⟩:=Vg.lay B1;clear B1
   have H_hgr:=h_ hgr;have H_has:=h_ has;have H_hah:=h_ hah;have H_hpx:=h_ hpx;have H_hx:=h_ hx;clear hgr has hah hpx hx
   go_wp2_with fail
   exact⟨⟨k+1,by omega,by go_num,by rw[H_has.out],Vg.Grows.trans H_hgr.out (Vg.gro)⟩,by simp[intOf];omega⟩
  ·obtain⟨c_B1,f_B1,p_B1,l_B1,H_B1⟩:=Vg.lay B1;clear B1
   have H_hgr:=h_ hgr;clear hgr
   go_wp2_with fail
   go_ret
   exact⟨rfl,Vg.Grows.trans (Vg.Grows.alloc (Vg.Grows.refl _) _) H_hgr.out⟩
theorem ic_check_no(hr:Vg.IR w pa pc L)(hn:L.length=n)(h1:1<=n)(h:64<n\/L.any Vg.oddP=true)(a b d f th:Int):
  Calls Tryz.prog 85 #[.agg #[.int .u64 a,.int .u64 b,.int .u64 d,.int .u64 f,.slice pa n pc,.int .i64 th,.slice sa m sc]] w fun e w'=>e=.returned (.int .i64 2)/\Vg.Grows w w':=by
 have q1:=hr.1
 have q2:pc<=9223372036854775807:=hr.2.1
 rw[hn]at q1
 have hnn:((n:Int)==0)=false:=by simp;omega
 by_cases h64:64<n
 ·clear h
  have H_hr:=h_ hr;have H_hn:=h_ hn;clear hr hn
  go_enter Tryz.func85,Tryz.ntmps85
  go_wp2_with fail
  go_ret
  exact⟨rfl,Vg.gro⟩
 ·have hodd:=h.resolve_left h64
  clear h
  have H_hr:=h_ hr;have H_hn:=h_ hn;have H_hodd:=h_ hodd;clear hr hn hodd
  go_enter Tryz.func85,Tryz.ntmps85
  go_wp2_with (first|(go_at_call 82;(with_reducible refine(ic_contains' (H_hr.out.grows (Vg.gro)) H_hn.out H_hodd.out).mono ?_);rintro e w1 ⟨rfl,rfl⟩))
  go_ret
  exact⟨rfl,Vg.gro⟩
end
end Go.Proofs.YtlkdkgefjipjmaaGreatDoor
namespace Vg
open Go
theorem Ic.Ok.ahead_ge{n:Nat}{c:Ic}(h:c.Ok n):∀k,k<=c.st.length->(k:Int)<=c.ahead k
 | 0,_=>by simp[Ic.ahead]
 | k+1,hk=>by
  have h1:=Ic.Ok.ahead_ge h k (by omega)
  have h2:=h.ahead_lt (k:=k) (by omega)
  rw[Ic.ahead_succ (by omega)]
  omega
theorem Ic.Ok.st15 {n:Nat} {c:Ic} (h:c.Ok n):c.st.length<=15:=by
 have h1:=h.ahead_ge _ (Nat.le_refl c.st.length)
 cases hl:c.st.length with
 | zero=>omega
 | succ k=>
  rw[hl,Ic.ahead_succ (by omega)]at h1
  have:=h.prio_bd (h.sth _ (List.getElem_mem (l:=c.st) (n:=k) (by omega)))
  omega
theorem IR.put{w:World}{sa:Option Addr}{c n b:Nat}{L:List Int}(h:IR w sa c L)(hn:L.length=n)(hv:∀k,(Value.slice sa n c).ownBlock=some k->k≠b)(o:Obj):IR (Vg.put w b o) sa c L:=
 h.touch (t:=fun k=>k=b) (Touch.put (t:=fun k=>k=b) (Touch.refl _ _) rfl o) hn hv
end Vg
namespace Go.Proofs.YtlkdkgefjipjmaaGreatDoor
open Go.ChangeShapes Go.WideShapes Go.ChangeAt Go.RowKit
section
variable {w w':World}{c:Vg.Ic}{n m ed pc sc pe en:Nat}{pa sa:Option Addr}{L:List Int}
theorem ic_open(line:Int){r:Int}(hr0:(if 0<=line/\line<(n:Int)then(0:Int)else 1)=r)(h:IS w c n m pa pc sa sc)(hed:2 ^ n-1=ed)(hpe:c.pe=pe)(hen:c.en=en):
  Calls Tryz.prog 158 #[icV pe en ed pa n pc sa m sc,.int .i64 line] w fun e w'=>∃g,e=.returned (.tuple #[.pointer (some ⟨g,0,none⟩),.int .i64 r])/\w.heap.size<=g/\∃pa' pc' sa' sc',Vg.blk w' g=some (dkO pe en ed pa' n pc' sa' m sc')/\IS w' c n m pa' pc' sa' sc'/\Vg.Que w' w.heap.size 3 1 (.slice sa' m sc') m (Vg.ics (Vg.ic c.st))/\(∀k,(Value.slice pa' n pc').ownBlock=some k->(Value.slice sa' m sc').ownBlock≠some k)/\(∀k,(Value.slice pa' n pc').ownBlock=some k->w.heap.size<=k/\k<g)/\(∀k,(Value.slice sa' m sc').ownBlock=some k->w.heap.size<=k/\k<g)/\Vg.Grows w w':=by
 obtain⟨q1,q2,q3,q4⟩:=h.caps
 obtain⟨n1,n2⟩:=h.ok.n1
 have hpl:=h.ok.len
 have hsl:(Vg.ic c.st).length=m:=by rw[Vg.ic_len];exact h.m
 have hm15:m<=15:=by rw[<-h.m];exact h.ok.st15
 have H_h:=h_ h;have H_hed:=h_ hed;have H_hpe:=h_ hpe;have H_hen:=h_ hen;have H_hpl:=h_ hpl;have H_hsl:=h_ hsl;have H_hr0:=h_ hr0;clear h hed hpe hen hpl hsl hr0
 go_enter Tryz.func158,Tryz.ntmps158
 go_upto_region 4 with((go_at_call 85;(with_reducible refine(ic_check (H_h.out.grows (Vg.gro)) H_hed.out H_hpe.out H_hen.out).mono ?_);rintro e w1 ⟨rfl,x1,m1,rfl⟩))
 obtain⟨W1,hW1,y1,hgw,hs1⟩:∃W1,Vg.plus (w.alloc (icO pe en ed pa n pc sa m sc)) x1 m1=W1/\Vg.blk W1 w.heap.size=some (icO pe en ed pa n pc sa m sc)/\Vg.Grows w W1/\w.heap.size+1<=W1.heap.size:=⟨_,rfl,(Vg.Grows.plus (Vg.Grows.refl _) _ _).blk (Vg.alloc_heap_at rfl),Vg.gro,by rw[Vg.plus_size,World.size_alloc];omega⟩
 rw[hW1]
 clear hW1
 obtain⟨c_y1,f_y1,p_y1,l_y1,H_y1⟩:=Vg.lay y1;clear y1
 go_cut [] (fun wz=>∃(a2 a3:Option Addr)(c2 c3:Nat),Vg.blk wz w.heap.size=some (icO pe en ed a2 n c2 a3 m c3)/\IS wz c n m a2 c2 a3 c3/\Vg.Que wz w.heap.size 3 1 (.slice a3 m c3) m (Vg.ics (Vg.ic c.st))/\(∀k,(Value.slice a2 n c2).ownBlock=some k->(Value.slice a3 m c3).ownBlock≠some k)/\(∀k,(Value.slice a2 n c2).ownBlock=some k->w.heap.size<=k/\k<wz.heap.size)/\(∀k,(Value.slice a3 m c3).ownBlock=some k->w.heap.size<=k/\k<wz.heap.size)/\Vg.Grows w wz)
 case first=>
  refine wp_region_held_drew (S:=fun w'=>w.heap.size<w'.heap.size) (by kernel_rfl) (by go_split_ands<;>(try dsimp only)<;>go_simp) (fun hHeld=>?_)
  refine tk 0 ?_
  refine tk 3 ?_
  refine wpAnyH_ready (rs:=[1,4]) (by kernel_rfl) (by simp) ?_
  refine AllReadyH.cons (o:=_) rfl (fun K hK=>?st3) ?mo3
  case st3=>
   go_simp
   refine hK.out _ _ (by go_split_ands<;>(try dsimp only)<;>go_simp) (fun hHeld3=>?_)
   clear hK K
   refine wpAnyH_ready (rs:=[2,4]) (by kernel_rfl) (by simp) ?_
   refine AllReadyH.cons (o:=_) rfl (fun K hK=>?st4) ?mo4
   case st4=>
    go_simp
    ((go_at_call 83;(with_reducible refine(clone (H_h.out.p.grows (Vg.gro)) H_hpl.out (by omega)).mono ?_);rintro e w2 ⟨a2,c2,rfl,hr2,hf2,-,hg2⟩;have y2:=hg2.blk (((Vg.Grows.refl W1).drew).blk H_y1.out);have hs2:=hg2.size;simp only[World.size_drew]at hf2 hs2;clear c_y1 f_y1 p_y1;obtain⟨c_y2,f_y2,p_y2,l_y2,H_y2⟩:=Vg.lay y2;clear y2;have H_hr2:=h_ hr2;have H_hf2:=h_ hf2;have H_hg2:=h_ hg2;clear hr2 hf2 hg2))
    all_goals(try go_wp2_with fail)
    refine hK.out _ _ (by go_split_ands<;>(try dsimp only)<;>go_simp) (fun hHeld4=>?_)
    clear hK K
    refine wpAnyH_ready (rs:=[4]) (by kernel_rfl) (by simp) ?_
    refine AllReadyH.cons (o:=_) rfl (fun K hK=>?st5) ?mo5
    case st5=>
     go_simp
     refine hK.out _ _ (by go_split_ands<;>(try dsimp only)<;>go_simp) (fun hHeld5=>?_)
     clear hK K
     refine tk 6 ?_
     refine wpAnyH_ready (rs:=[5]) (by kernel_rfl) (by simp) ?_
     refine AllReadyH.cons (o:=_) rfl (fun K hK=>?st7) ?mo7
     case st7=>
      go_simp
      ((go_at_call 83;(with_reducible refine(clone (H_h.out.s.grows (by(try simp only[World.size_drew]);exact(Vg.Grows.trans (Vg.gro) H_hg2.out))) H_hsl.out (by omega)).mono ?_);rintro e w3 ⟨a3,c3,rfl,hr3,hf3,hq3,hg3⟩;have y3:=hg3.blk H_y2.out;have hs3:=hg3.size;clear c_y2 f_y2 p_y2;obtain⟨c_y3,f_y3,p_y3,l_y3,H_y3⟩:=Vg.lay y3;clear y3;have H_hr3:=h_ hr3;have H_hf3:=h_ hf3;have H_hg3:=h_ hg3;have H_hq3:=h_ hq3;clear hr3 hf3 hg3 hq3))
      all_goals(try go_wp2_with fail)
      refine hK.out _ _ (by go_split_ands<;>(try dsimp only)<;>go_simp) (fun hHeld7=>?_)
      clear hK K
      refine wpAnyH_ready (rs:=[7]) (by kernel_rfl) (by simp) ?_
      refine AllReadyH.cons (o:=_) rfl (fun K hK=>?st8) ?mo8
      case st8=>
       go_simp
       refine hK.out _ _ (by go_split_ands<;>(try dsimp only)<;>go_simp) (fun hHeld8=>?_)
       clear hK K
       refine tk 8 ?_
       refine wpAnyH_ready (rs:=[9]) (by kernel_rfl) (by simp) ?_
       refine AllReadyH.cons (o:=_) rfl (fun K hK=>?st10) ?mo10
       case st10=>
        go_simp
        refine hK.out _ _ (by go_split_ands<;>(try dsimp only)<;>go_simp) (fun hHeld10=>?_)
        clear hK K
        refine wpAnyH_done (by kernel_rfl) ?_ _
        go_wp2_with fail
        go_meet
        have g9:=Vg.Grows.trans (Vg.Grows.trans (a:=w) (Vg.gro) H_hg2.out) H_hg3.out
        refine⟨a2,a3,c2,c3,Vg.put_heap_same l_y3,⟨H_h.out.ok,H_h.out.m,(H_hr2.out.grows H_hg3.out).put H_hpl.out (fun k hk=>by have:=H_hf2.out k hk;omega) _,H_hr3.out.put H_hsl.out (fun k hk=>by have:=H_hf3.out k hk;omega) _⟩,(H_hq3.out.kept (fun k hk=>Vg.put_heap_other (by have:=H_hf3.out k hk;omega))).weaken (by omega),fun k hk hh=>(by have h1:=H_hf2.out k hk;have h2:=H_hf3.out k hh;omega),fun k hk=>?_,fun k hk=>?_,Vg.Grows.put g9 (Nat.le_refl _) _⟩
        ·have h1:=H_hf2.out k hk
         rw[Vg.put_size]
         omega
        ·have h1:=H_hf3.out k hk
         rw[Vg.put_size]
         omega
       exact AllReadyH.nil
      exact AllReadyH.nil
     exact AllReadyH.nil
    exact AllReadyH.nil
   refine AllReadyH.cons (o:=_) rfl (fun K hK=>?st11) ?mo11
   case st11=>
    go_simp
    refine hK.out _ _ (by go_split_ands<;>(try dsimp only)<;>go_simp) (fun hHeld11=>?_)
    clear hK K
    refine wpAnyH_ready (rs:=[2]) (by kernel_rfl) (by simp) ?_
    refine AllReadyH.cons (o:=_) rfl (fun K hK=>?st12) ?mo12
    case st12=>
     go_simp
     ((go_at_call 83;(with_reducible refine(clone (H_h.out.p.grows (Vg.gro)) H_hpl.out (by omega)).mono ?_);rintro e w2 ⟨a2,c2,rfl,hr2,hf2,-,hg2⟩;have y2:=hg2.blk (((Vg.Grows.refl W1).drew).blk H_y1.out);have hs2:=hg2.size;simp only[World.size_drew]at hf2 hs2;clear c_y1 f_y1 p_y1;obtain⟨c_y2,f_y2,p_y2,l_y2,H_y2⟩:=Vg.lay y2;clear y2;have H_hr2:=h_ hr2;have H_hf2:=h_ hf2;have H_hg2:=h_ hg2;clear hr2 hf2 hg2))
     all_goals(try go_wp2_with fail)
     refine hK.out _ _ (by go_split_ands<;>(try dsimp only)<;>go_simp) (fun hHeld12=>?_)
     clear hK K
     refine tk 6 ?_
     refine wpAnyH_ready (rs:=[5]) (by kernel_rfl) (by simp) ?_
     refine AllReadyH.cons (o:=_) rfl (fun K hK=>?st14) ?mo14
     case st14=>
      go_simp
      ((go_at_call 83;(with_reducible refine(clone (H_h.out.s.grows (by(try simp only[World.size_drew]);exact(Vg.Grows.trans (Vg.gro) H_hg2.out))) H_hsl.out (by omega)).mono ?_);rintro e w3 ⟨a3,c3,rfl,hr3,hf3,hq3,hg3⟩;have y3:=hg3.blk H_y2.out;have hs3:=hg3.size;clear c_y2 f_y2 p_y2;obtain⟨c_y3,f_y3,p_y3,l_y3,H_y3⟩:=Vg.lay y3;clear y3;have H_hr3:=h_ hr3;have H_hf3:=h_ hf3;have H_hg3:=h_ hg3;have H_hq3:=h_ hq3;clear hr3 hf3 hg3 hq3))
      all_goals(try go_wp2_with fail)
      refine hK.out _ _ (by go_split_ands<;>(try dsimp only)<;>go_simp) (fun hHeld14=>?_)
      clear hK K
      refine wpAnyH_ready (rs:=[7]) (by kernel_rfl) (by simp) ?_
      refine AllReadyH.cons (o:=_) rfl (fun K hK=>?st15) ?mo15
      case st15=>
       go_simp
       refine hK.out _ _ (by go_split_ands<;>(try dsimp only)<;>go_simp) (fun hHeld15=>?_)
       clear hK K
       refine tk 8 ?_
       refine wpAnyH_ready (rs:=[9]) (by kernel_rfl) (by simp) ?_
       refine AllReadyH.cons (o:=_) rfl (fun K hK=>?st17) ?mo17
       case st17=>
        go_simp
        refine hK.out _ _ (by go_split_ands<;>(try dsimp only)<;>go_simp) (fun hHeld17=>?_)
        clear hK K
        refine wpAnyH_done (by kernel_rfl) ?_ _
        go_wp2_with fail
        go_meet
        have g9:=Vg.Grows.trans (Vg.Grows.trans (a:=w) (Vg.gro) H_hg2.out) H_hg3.out
        refine⟨a2,a3,c2,c3,Vg.put_heap_same l_y3,⟨H_h.out.ok,H_h.out.m,(H_hr2.out.grows H_hg3.out).put H_hpl.out (fun k hk=>by have:=H_hf2.out k hk;omega) _,H_hr3.out.put H_hsl.out (fun k hk=>by have:=H_hf3.out k hk;omega) _⟩,(H_hq3.out.kept (fun k hk=>Vg.put_heap_other (by have:=H_hf3.out k hk;omega))).weaken (by omega),fun k hk hh=>(by have h1:=H_hf2.out k hk;have h2:=H_hf3.out k hh;omega),fun k hk=>?_,fun k hk=>?_,Vg.Grows.put g9 (Nat.le_refl _) _⟩
        ·have h1:=H_hf2.out k hk
         rw[Vg.put_size]
         omega
        ·have h1:=H_hf3.out k hk
         rw[Vg.put_size]
         omega
       exact AllReadyH.nil
      exact AllReadyH.nil
     exact AllReadyH.nil
    exact AllReadyH.nil
   exact AllReadyH.nil
  refine AllReadyH.cons (o:=_) rfl (fun K hK=>?st18) ?mo18
  case st18=>
   go_simp
   refine hK.out _ _ (by go_split_ands<;>(try dsimp only)<;>go_simp) (fun hHeld18=>?_)
   clear hK K
   refine wpAnyH_ready (rs:=[1]) (by kernel_rfl) (by simp) ?_
   refine AllReadyH.cons (o:=_) rfl (fun K hK=>?st19) ?mo19
   case st19=>
    go_simp
    refine hK.out _ _ (by go_split_ands<;>(try dsimp only)<;>go_simp) (fun hHeld19=>?_)
    clear hK K
    refine wpAnyH_ready (rs:=[2]) (by kernel_rfl) (by simp) ?_
    refine AllReadyH.cons (o:=_) rfl (fun K hK=>?st20) ?mo20
    case st20=>
     go_simp
     ((go_at_call 83;(with_reducible refine(clone (H_h.out.p.grows (Vg.gro)) H_hpl.out (by omega)).mono ?_);rintro e w2 ⟨a2,c2,rfl,hr2,hf2,-,hg2⟩;have y2:=hg2.blk (((Vg.Grows.refl W1).drew).blk H_y1.out);have hs2:=hg2.size;simp only[World.size_drew]at hf2 hs2;clear c_y1 f_y1 p_y1;obtain⟨c_y2,f_y2,p_y2,l_y2,H_y2⟩:=Vg.lay y2;clear y2;have H_hr2:=h_ hr2;have H_hf2:=h_ hf2;have H_hg2:=h_ hg2;clear hr2 hf2 hg2))
     all_goals(try go_wp2_with fail)
     refine hK.out _ _ (by go_split_ands<;>(try dsimp only)<;>go_simp) (fun hHeld20=>?_)
     clear hK K
     refine tk 6 ?_
     refine wpAnyH_ready (rs:=[5]) (by kernel_rfl) (by simp) ?_
     refine AllReadyH.cons (o:=_) rfl (fun K hK=>?st22) ?mo22
     case st22=>
      go_simp
      ((go_at_call 83;(with_reducible refine(clone (H_h.out.s.grows (by(try simp only[World.size_drew]);exact(Vg.Grows.trans (Vg.gro) H_hg2.out))) H_hsl.out (by omega)).mono ?_);rintro e w3 ⟨a3,c3,rfl,hr3,hf3,hq3,hg3⟩;have y3:=hg3.blk H_y2.out;have hs3:=hg3.size;clear c_y2 f_y2 p_y2;obtain⟨c_y3,f_y3,p_y3,l_y3,H_y3⟩:=Vg.lay y3;clear y3;have H_hr3:=h_ hr3;have H_hf3:=h_ hf3;have H_hg3:=h_ hg3;have H_hq3:=h_ hq3;clear hr3 hf3 hg3 hq3))
      all_goals(try go_wp2_with fail)
      refine hK.out _ _ (by go_split_ands<;>(try dsimp only)<;>go_simp) (fun hHeld22=>?_)
      clear hK K
      refine wpAnyH_ready (rs:=[7]) (by kernel_rfl) (by simp) ?_
      refine AllReadyH.cons (o:=_) rfl (fun K hK=>?st23) ?mo23
      case st23=>
       go_simp
       refine hK.out _ _ (by go_split_ands<;>(try dsimp only)<;>go_simp) (fun hHeld23=>?_)
       clear hK K
       refine tk 8 ?_
       refine wpAnyH_ready (rs:=[9]) (by kernel_rfl) (by simp) ?_
       refine AllReadyH.cons (o:=_) rfl (fun K hK=>?st25) ?mo25
       case st25=>
        go_simp
        refine hK.out _ _ (by go_split_ands<;>(try dsimp only)<;>go_simp) (fun hHeld25=>?_)
        clear hK K
        refine wpAnyH_done (by kernel_rfl) ?_ _
        go_wp2_with fail
        go_meet
        have g9:=Vg.Grows.trans (Vg.Grows.trans (a:=w) (Vg.gro) H_hg2.out) H_hg3.out
        refine⟨a2,a3,c2,c3,Vg.put_heap_same l_y3,⟨H_h.out.ok,H_h.out.m,(H_hr2.out.grows H_hg3.out).put H_hpl.out (fun k hk=>by have:=H_hf2.out k hk;omega) _,H_hr3.out.put H_hsl.out (fun k hk=>by have:=H_hf3.out k hk;omega) _⟩,(H_hq3.out.kept (fun k hk=>Vg.put_heap_other (by have:=H_hf3.out k hk;omega))).weaken (by omega),fun k hk hh=>(by have h1:=H_hf2.out k hk;have h2:=H_hf3.out k hh;omega),fun k hk=>?_,fun k hk=>?_,Vg.Grows.put g9 (Nat.le_refl _) _⟩
        ·have h1:=H_hf2.out k hk
         rw[Vg.put_size]
         omega
        ·have h1:=H_hf3.out k hk
         rw[Vg.put_size]
         omega
       exact AllReadyH.nil
      exact AllReadyH.nil
     exact AllReadyH.nil
    exact AllReadyH.nil
   exact AllReadyH.nil
  exact AllReadyH.nil
 case rest=>
  obtain⟨a2,a3,c2,c3,z1,hI,hq9,hd9,f2,f3,hg9⟩:=hcut
  have hs9:=hg9.size
  clear c_y1 f_y1 p_y1
  obtain⟨c_z1,f_z1,p_z1,l_z1,H_z1⟩:=Vg.lay z1;clear z1
  obtain⟨t1,t2,t3,t4⟩:=hI.caps
  by_cases hl:0<=line/\line<n
  ·obtain⟨hl1,hl2⟩:=hl
   have e9:r=0:=by rw[<-H_hr0.out,if_pos ⟨hl1,hl2⟩]
   subst e9
   have H_hI:=h_ hI;have H_f2:=h_ f2;have H_f3:=h_ f3;have H_hq9:=h_ hq9;clear hI f2 f3 hq9
   go_wp2_with fail
   go_returns
   exact⟨wc.heap.size,rfl,hs9,a2,c2,a3,c3,Vg.alloc_heap_at rfl,H_hI.out.grows (Vg.gro),H_hq9.out.grows (Vg.gro),hd9,H_f2.out,H_f3.out,Vg.gro⟩
  ·have e9:r=1:=by rw[<-H_hr0.out,if_neg hl]
   subst e9
   have H_hI:=h_ hI;have H_f2:=h_ f2;have H_f3:=h_ f3;have H_hq9:=h_ hq9;clear hI f2 f3 hq9
   by_cases hl1:line<0
   ·clear hl
    go_wp2_with fail
    go_returns
    exact⟨wc.heap.size,rfl,hs9,a2,c2,a3,c3,Vg.alloc_heap_at rfl,H_hI.out.grows (Vg.gro),H_hq9.out.grows (Vg.gro),hd9,H_f2.out,H_f3.out,Vg.gro⟩
   ·have hl2:(n:Int)<=line:=by omega
    clear hl
    go_wp2_with fail
    go_returns
    exact⟨wc.heap.size,rfl,hs9,a2,c2,a3,c3,Vg.alloc_heap_at rfl,H_hI.out.grows (Vg.gro),H_hq9.out.grows (Vg.gro),hd9,H_f2.out,H_f3.out,Vg.gro⟩
end
end Go.Proofs.YtlkdkgefjipjmaaGreatDoor
namespace Go.Proofs.YtlkdkgefjipjmaaGreatDoor
open Go.ChangeShapes Go.WideShapes Go.ChangeAt Go.RowKit
section
variable {w w':World}{c:Vg.Ic}{n m ed pc sc pe en g:Nat}{pa sa:Option Addr}{L:List Int}
theorem ic_active(hb:Vg.blk w g=some (dkO pe en ed pa n pc sa m sc))(h:IS w c n m pa pc sa sc){b:Nat}(hact:Vg.orB c.st 0=b):
  Calls Tryz.prog 214 #[.pointer (some ⟨g,0,none⟩)] w fun e w'=>e=.returned (.int .u64 b)/\w=w':=by
 have h64:∀i∈c.st,i<64:=fun i hi=>Nat.lt_of_lt_of_le (h.ok.sth i hi) h.ok.n1.2
 subst hact
 obtain⟨c_hb,f_hb,p_hb,l_hb,H_hb⟩:=Vg.lay hb;clear hb
 have H_h:=h_ h;have H_h64:=h_ h64;clear h h64
 go_enter Tryz.func214,Tryz.ntmps214
 go_wp2_with ((go_at_call 227;(with_reducible refine(bits_of H_h.out.s H_h.out.m H_h64.out).mono ?_);rintro e w1 ⟨rfl,rfl⟩))
 go_ret
 exact⟨rfl,rfl⟩
theorem ic_level(hb:Vg.blk w g=some (dkO pe en ed pa n pc sa m sc))(h:IS w c n m pa pc sa sc){l:Int}(hl:c.lvl=l):
  Calls Tryz.prog 213 #[.pointer (some ⟨g,0,none⟩)] w fun e w'=>e=.returned (.int .i64 l)/\Vg.Grows w w':=by
 obtain⟨q1,q2,q3,q4⟩:=h.caps
 by_cases hm:m=0
 ·have hst:c.st=[]:=List.eq_nil_of_length_eq_zero (by rw[h.m];exact hm)
  have:l=0:=by rw[<-hl];unfold Vg.Ic.lvl;rw[hst];rfl
  subst this
  subst hm
  obtain⟨c_hb,f_hb,p_hb,l_hb,H_hb⟩:=Vg.lay hb;clear hb
  have H_h:=h_ h;have H_hl:=h_ hl;have H_hst:=h_ hst;clear h hl hst
  go_enter Tryz.func213,Tryz.ntmps213
  go_wp2
  go_ret
  exact⟨rfl,Vg.gro⟩
 ·obtain⟨k,rfl⟩:∃k,m=k+1:=⟨m-1,by omega⟩
  obtain⟨gs,off,hk',hsa,hg,hc⟩:=h.scell k (by omega)
  subst hsa
  have hxn:=h.ok.sth _ (List.getElem_mem hk')
  have hlast:c.lvl=c.prio c.st[k]:=by
   unfold Vg.Ic.lvl
   have e:c.st.getLast? = some c.st[k]:=by
    rw[List.getLast?_eq_getElem?,h.m,Nat.add_sub_cancel,List.getElem?_eq_getElem hk']
   rw[e]
  rw[hl]at hlast
  obtain⟨x,hx⟩:∃x,c.st[k]=x:=⟨_,rfl⟩
  rw[hx]at hc hxn hlast
  obtain⟨gp,offp,hpa,hg2,hc2⟩:=h.pcell x hxn
  subst hpa
  have hbd:=h.ok.prio_bd hxn
  rw[<-hlast]at hc2 hbd
  have hx0:(0:Int)<=x:=by omega
  have hx1:(x:Int)<n:=by omega
  have hk0:(0:Int)<(k:Int)+1:=by omega
  have hl0:(0:Int)<l:=by omega
  have hkk:(k:Int)+1-1=k:=by omega
  obtain⟨c_hb,f_hb,p_hb,l_hb,H_hb⟩:=Vg.lay hb;clear hb
  have H_h:=h_ h;have H_hl:=h_ hl;have H_hx:=h_ hx;have H_hlast:=h_ hlast;clear h hl hx hlast
  go_enter Tryz.func213,Tryz.ntmps213
  go_wp2
  go_quiet (fail)
  all_goals go_wp2
  all_goals go_ret
  all_goals exact⟨rfl,Vg.gro⟩
end
end Go.Proofs.YtlkdkgefjipjmaaGreatDoor
