/-
  The card 'TopComes' of the door seat: the Go law 'verge' TopComes returns true at every input, and every argument reads as it did; the package's table of 'math/bits' is the listed variable.
-/
import Derived.Test.YtlkdkgefjipjmaaGreatDoorRows
import Derived.Test.YtlkdkgefjipjmaaGreatDoorCards
import Derived.Test.YtlkdkgefjipjmaaGreatDoorTie
import Derived.Test.YtlkdkgefjipjmaaGreatDoorQ0
import Derived.Test.YtlkdkgefjipjmaaGreatDoorPe
import Derived.WalkKit
import Derived.ProofKit
import Derived.OpenShut
import Derived.LaidMore
import Derived.Stop.Joined
import Derived.ChangeOld
import Derived.Below
import Derived.SevenTiedAt
set_option linter.all false
set_option maxHeartbeats 40000000
set_option maxRecDepth 100000
namespace Go.Proofs.YtlkdkgefjipjmaaGreatDoor.topComes
open Go Go.ChangeShapes Go.WideShapes Go.ChangeAt Go.RowKit
theorem own:ownKnob Tryz.prog.godebug=none:=by kernel_rfl
theorem laidOut:laidOutB Tryz.prog=true:=by kernel_rfl
theorem gTab:Tryz.prog.globalNamed "math/bits.deBruijn64tab" = some 0:=by kernel_rfl
theorem tTab:(Tryz.prog.globals[0]?).map (·.type)=some 283:=by kernel_rfl
abbrev laid:List (String×DataW Unit):=[("math/bits.deBruijn64tab",Rows.laid_math_bits_deBruijn64tab)]
theorem door_met(os:Os)(args:Array Value):laidMetH Tryz.prog laid ((World.doorLaid Tryz.prog 400 os).forCall (fun _ _=>0) ⟨#[],args,[]⟩).memory:=
 laidMetH_of_parts3 (fuel:=8) (laidMet_of_run' 8 (by kernel_rfl) (by kernel_rfl)) (by kernel_rfl) (by kernel_rfl)
def tabD{H:Type}:List (DataW H):=Lib.deBruijn64tab.map fun(k:Nat)=>DataW.lit (.int .u8 (k:Int))
theorem tabD_eq:(Rows.laid_math_bits_deBruijn64tab:DataW Unit)=.agg tabD:=by kernel_rfl
theorem of_laid{W:World}(h:laidMetH Tryz.prog laid W):Vg.Tab W:=by
 rw[MakeChecks.laidMetH_plain _ _ _ (by kernel_rfl)]at h
 obtain⟨ps,⟨g0,t0,cs0,f0,p0,q0,hg0,ht0,hv0,hd0,_,_⟩,_,_⟩:=h
 obtain rfl:=Option.some.inj (gTab.symm.trans hg0)
 obtain rfl:=Option.some.inj (tTab.symm.trans ht0)
 rw[tabD_eq]at hd0
 obtain⟨xs,m,rfl,hx,hlen,hn,hel⟩:=DataW.trod_array Tryz.underlying283 hd0
 have c1:Tryz.prog.cellsOf 5=1:=by kernel_rfl
 intro j hj
 have hxs:xs[j]? = some xs[j]:=List.getElem?_eq_getElem (by omega)
 have h0:=(hel j hj).trans hxs
 have hx1:tabD=xs.map (·.1):=by simpa using congrArg Prod.fst hx
 have hdj:(xs[j]).1=DataW.lit (.int .u8 ((Lib.deBruijn64tab.getD j 0:Nat):Int)):=by
  have h1:(xs.map (·.1))[j]? = some (xs[j]).1:=by rw[List.getElem?_map,hxs];rfl
  rw[<-hx1]at h1
  have hl:j<Lib.deBruijn64tab.length:=hj
  rw[tabD,List.getElem?_map,List.getElem?_eq_getElem hl]at h1
  rw[List.getD_eq_getElem?_getD,List.getElem?_eq_getElem hl]
  exact(Option.some.inj h1).symm
 obtain⟨k,e1,e2,_⟩:=DataW.trod_int Tryz.underlying5 (show DataW.trod _ Tryz.prog W 0 _ false m 5 _=some (xs[j])from h0)
 have hk:k=((Lib.deBruijn64tab.getD j 0:Nat):Int):=by
  have:=congrArg Prod.fst e2
  rw[hdj]at this
  injection this with h3
  injection h3 with _ h4
  exact h4.symm
 have hc:=World.var?_cell hg0 hv0 j
 rw[hc,<-Array.getElem?_toList]
 have h6:=congrArg (fun l=>l[0]?) e1
 simp only[c1,Nat.mul_one,List.getElem?_take,List.getElem?_drop]at h6
 simpa[hk]using h6
set_option maxRecDepth 100000 in
theorem lifted (os:Os) (started:os.Started) (H:Type) (enc:TypeId×Value->H) :
  ReturnsInHanded {} Tryz.checked os 4 .any (fun w args=>(Rows.topComesSpec.pre enc Tryz.prog Tryz.f4 [] false w args/\laidMetH Tryz.prog laid w)/\sizedMet enc Tryz.prog Tryz.f4 (OpenSpec.ofChange Rows.topComesSpec) false w args)
   (Rows.topComesSpec.post enc Tryz.prog Tryz.f4 false true false false):=by
 refine returnsInHanded_of_change_and (C:=Tryz.checked) (X:=fun w _=>laidMetH Tryz.prog laid w) (fun _ _ _ hh h=>h.of_heap hh) own started (by kernel_rfl) Tryz.func4
  (ChangeSpec.witness_shaped (enc:=enc) (C:=Tryz.checked) (os:=os) (X:=fun w _=>laidMetH Tryz.prog laid w) false (World.doorLaid Tryz.prog 400 os) #[.agg #[.int .i64 0,.int .i64 0,.int .i64 0,.slice none 0 0,.slice none 0 0,.slice none 0 0],.int .i64 0] 8 rfl (World.shaped_of_RefB (by kernel_rfl) (by kernel_rfl)) (by kernel_rfl) (by kernel_rfl) (by kernel_rfl) (door_met os _)) ?_
 intro W base args ds gs before hval0 hW _ hsz hL _
 have hval:∀(j:Nat) t v,Tryz.f4.params[j]? = some t->args[j]? = some v->Value.okWide Tryz.prog W .any base t v:=hval0
 have hW':=hW
 obtain⟨p,q,hA0,hV,rfl,hfz,hnd⟩:=hW
 have hA:DataW.TrodAll enc Tryz.prog W 0 (fun _=>true) true Tryz.f4.params.toList args.toList ds p:=hA0
 rw[Tryz.params4]at hA hval
 obtain⟨v0,vs0,d0,ds0,p0,q0,hargs,rfl,rfl,h0,r0⟩:=trodAll_cons hA
 obtain⟨v1,vs1,d1,ds1,p1,q1,rfl,rfl,rfl,h1,r1⟩:=trodAll_cons r0
 obtain⟨rfl,rfl,rfl⟩:=trodAll_nil r1
 obtain rfl:args=#[v0,v1]:=by cases args;simp_all
 obtain⟨rfl,rfl⟩:=trodVars_none hV
 have k0:=h0
 have lt0:∀x∈p0,x.block<W.heap.size:=by obtain⟨m,hm⟩:=k0;exact DataW.trod_lt m _ _ _ hm
 obtain⟨l0,rfl,F0⟩:=Vg.open_struct (n:=8) (L:=[.inl (some .i64),.inl (some .i64),.inl (some .i64),.inr [some .u8,some .i64,some .i64,some .i64,some .i64,some .i64,some .i64,some .i64,some .i64,some .i64],.inr [some .i64,some .i64,some .i64,some .i64],.inr [some .i64,some .i64,some .i64,some .i64]]) Tryz.underlying30 (by kernel_rfl) (hval 0 30 v0 rfl rfl) h0
 obtain⟨u0,m0,rfl,g0,G0⟩:=Vg.Fits.cons_inv F0
 obtain⟨u1,m1,rfl,g1,G1⟩:=Vg.Fits.cons_inv G0
 obtain⟨u2,m2,rfl,g2,G2⟩:=Vg.Fits.cons_inv G1
 obtain⟨u3,m3,rfl,g3,G3⟩:=Vg.Fits.cons_inv G2
 obtain⟨u4,m4,rfl,g4,G4⟩:=Vg.Fits.cons_inv G3
 obtain⟨u5,m5,rfl,g5,G5⟩:=Vg.Fits.cons_inv G4
 obtain rfl:=Vg.Fits.nil_inv G5
 obtain⟨mn,rfl,wmn⟩:=Vg.fit1_int g0
 obtain⟨mx,rfl,wmx⟩:=Vg.fit1_int g1
 obtain⟨sw,rfl,wsw⟩:=Vg.fit1_int g2
 obtain⟨ta,nt,tc,rfl,rt⟩:=Vg.rows_of_fit (K:=[.u8,.i64,.i64,.i64,.i64,.i64,.i64,.i64,.i64,.i64]) (by decide) g3
 obtain⟨la,nl,lc,rfl,rl⟩:=Vg.rows_of_fit (K:=[.i64,.i64,.i64,.i64]) (by decide) g4
 obtain⟨ha,nh,hc,rfl,rh⟩:=Vg.rows_of_fit (K:=[.i64,.i64,.i64,.i64]) (by decide) g5
 have k1:=h1
 have lt1:∀x∈p1,x.block<W.heap.size:=by obtain⟨m,hm⟩:=k1;exact DataW.trod_lt m _ _ _ hm
 obtain⟨a1,rfl,-,-,w1⟩:=open_int Tryz.underlying2 (hval 1 2 v1 rfl rfl) h1
 have bmx:=(bounds_i64 wmx).1
 clear hA0 hval0
 refine Calls.mono (TopComes_walk' mn mx sw a1 ta la ha nt tc nl lc nh hc _ _ _ W bmx (of_laid hL) rt rl rh) fun e W' ⟨he,bel0⟩=>?_
 subst he
 have bel:Below W.heap.size W W':=Vg.Grows.below bel0
 exact⟨_,rfl,_,_,_,[],_,[],hW',trodAll_mk1 (shut_bool Tryz.underlying4 _),(trodAll_cons_mk (Below.trod laidOut (by kernel_rfl) (of_decide_eq_true (by kernel_rfl)) k0 bel lt0) (trodAll_cons_mk (Below.trod laidOut (by kernel_rfl) (of_decide_eq_true (by kernel_rfl)) k1 bel lt1) trodAll_mk0)),rfl,bel.frame _,fun h=>by cases h⟩
theorem topComes_holds:Rows.TopComesSaid:=
 OpenClaim.holds_of_wide 4 Tryz.f4 rfl rfl rfl rfl rfl rfl rfl ⟨rfl,rfl,rfl,rfl,rfl⟩ rfl rfl rfl rfl rfl (by kernel_rfl) Tryz.func4 (by kernel_rfl)
  (of_decide_eq_true (by kernel_rfl)) (by unfold Func.isWrapper;first|(rw[if_pos (by decide +kernel)];kernel_rfl)|(rw[if_neg (by decide +kernel)];exact⟨rfl,rfl⟩))
  (fun os started H enc _=>lifted os started H enc)
theorem proved:Rows.TopComesCardSaid:=
 Claim7.holds_tied_plain_at .later [] [.data] true (true, "399fb20fffe51a443ab702ffe1f5f41db7ded8da6c809685585efc4ac6cff981") false
  topComes_holds (fun _ h=>by cases h) (by kernel_rfl) (fun _ h=>by cases h) topComes_row_tie rfl ⟨rfl,rfl⟩ (by kernel_rfl) rfl
  (fun f fn hf hfn=>by
   obtain rfl:f=4:=Option.some.inj ((show Tryz.prog.funcNamed "verge/vergetop.TopComes" = some 4 by kernel_rfl).symm.trans hf)|>.symm
   obtain rfl:fn=Tryz.f4:=(Option.some.inj (Tryz.func4.symm.trans hfn)).symm
   exact⟨by kernel_rfl,fun j t ht=>by
    rw[Tryz.params4]at ht
    have hm:t ∈ [30,2]:=by simpa using Array.mem_of_getElem? ht
    have hall:([30,2].all fun u=>!Tryz.prog.wantsStandIn u)=true:=by kernel_rfl
    exact(show Tryz.prog.wantsStandIn t=false by simpa using List.all_eq_true.1 hall t hm)⟩)
  (by kernel_rfl)
#print axioms proved
end Go.Proofs.YtlkdkgefjipjmaaGreatDoor.topComes
