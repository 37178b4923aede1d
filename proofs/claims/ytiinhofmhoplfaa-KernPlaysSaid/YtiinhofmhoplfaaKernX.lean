/- A kern, and what else is kept beside it ('KX': a word P on the world that hangs on the blocks of S alone). -/
import Derived.Test.YtiinhofmhoplfaaKernD
set_option linter.unusedSimpArgs false
set_option linter.unusedVariables false
set_option maxHeartbeats 4000000
set_option maxRecDepth 100000
namespace Vg
open Go
/-- The blocks of X hold what X says. -/
def Has (X : List (Nat × Obj)) (w : World) : Prop := ∀ p ∈ X, blk w p.1 = some p.2
def Dom (X : List (Nat × Obj)) (k : Nat) : Prop := ∃ o, (k, o) ∈ X
theorem Has.dep {X : List (Nat × Obj)} {S : Nat → Prop} (hS : ∀ k, Dom X k → S k) : ∀ w w', Kept S w w' → Has X w → Has X w' := fun w w' hk h p hp => hk.blk (h p hp) (hS p.1 ⟨p.2, hp⟩)
theorem Has.nil (w : World) : Has [] w := fun p hp => by simp at hp
theorem Has.cons {X : List (Nat × Obj)} {w : World} {g : Nat} {o : Obj} (h : Has X w) (hg : blk w g = some o) : Has ((g, o) :: X) w := fun p hp => by
  rcases List.mem_cons.1 hp with rfl | hp
  · exact hg
  · exact h p hp
theorem Dom.nil {k : Nat} : ¬ Dom [] k := fun ⟨o, h⟩ => by simp at h
theorem Dom.cons {X : List (Nat × Obj)} {g k : Nat} {o : Obj} (h : Dom ((g, o) :: X) k) : k = g ∨ Dom X k := by
  obtain ⟨o', h⟩ := h
  rcases List.mem_cons.1 h with h | h
  · simp only [Prod.mk.injEq] at h; exact .inl h.1
  · exact .inr ⟨o', h⟩
theorem Dom.there {X : List (Nat × Obj)} {g k : Nat} {o : Obj} (h : Dom X k) : Dom ((g, o) :: X) k := by
  obtain ⟨o', h⟩ := h
  exact ⟨o', List.mem_cons_of_mem _ h⟩
theorem Dom.here {X : List (Nat × Obj)} {g : Nat} {o : Obj} : Dom ((g, o) :: X) g := ⟨o, List.mem_cons_self⟩
theorem map_set_same {α β : Type} {f : α → β} {K : List α} {i : Nat} {y : α} (h : ∀ hi : i < K.length, f y = f K[i]) : (K.set i y).map f = K.map f := by
  rw [List.map_set]
  by_cases hi : i < K.length
  · rw [h hi]
    apply List.ext_getElem
    · simp
    · intro j h1 h2
      rw [List.getElem_set]
      split
      · rename_i hj; subst hj; simp
      · rfl
  · rw [List.set_eq_of_length_le (by simpa using hi)]
theorem Kn.get_nat {K : List Kt} {n : Int} {x : Kt} (hx : K[n.toNat]? = some x) (hi : n.toNat < K.length) : x = K[n.toNat] := by
  rw [List.getElem?_eq_getElem hi] at hx; exact (Option.some.inj hx).symm
theorem Kn.release_map {β : Type} (f : Kt → β) (hf : ∀ (x : Kt) J lo, f ⟨x.t, J, lo, x.out⟩ = f x) (K : List Kt) (n c a : Int) : (Kn.release K n c a).1.map f = K.map f := by
  unfold Kn.release
  split
  · rfl
  · split
    · rfl
    · rename_i x hx
      split
      · rfl
      · split
        · exact map_set_same fun hi => by rw [Kn.get_nat hx hi]; exact hf _ _ _
        · exact map_set_same fun hi => by rw [Kn.get_nat hx hi]; exact hf _ _ _
theorem Kn.run_map {β : Type} (f : Kt → β) (hf : ∀ (x : Kt) J lo, f ⟨x.t, J, lo, x.out⟩ = f x) (K : List Kt) (M : List Mx) (n : Int) : (Kn.run K M n).1.map f = K.map f := by
  unfold Kn.run
  split
  · rfl
  · split
    · rfl
    · rename_i x hx
      split
      · rfl
      · unfold Kn.runAt
        split
        · rfl
        · split
          · exact map_set_same fun hi => by rw [Kn.get_nat hx hi]; exact hf _ _ _
          · exact map_set_same fun hi => by rw [Kn.get_nat hx hi]; exact hf _ _ _
theorem Kn.suspend_t (K : List Kt) (M : List Mx) (n : Int) : (Kn.suspend K M n).1.map (·.t) = K.map (·.t) := by
  unfold Kn.suspend
  split
  · rfl
  · split
    · rfl
    · rename_i x hx
      split
      · rfl
      · exact map_set_same fun hi => by rw [Kn.get_nat hx hi]
theorem Kn.resume_t (K : List Kt) (n : Int) : (Kn.resume K n).1.map (·.t) = K.map (·.t) := by
  unfold Kn.resume
  split
  · rfl
  · split
    · rfl
    · rename_i x hx
      split
      · rfl
      · exact map_set_same fun hi => by rw [Kn.get_nat hx hi]
theorem Kn.does_t (K : List Kt) (M : List Mx) (kd t c a : Int) : (Kn.does K M kd t c a).1.map (·.t) = K.map (·.t) := by
  unfold Kn.does
  split
  · exact Kn.release_map _ (fun _ _ _ => rfl) _ _ _ _
  · split
    · exact Kn.run_map _ (fun _ _ _ => rfl) _ _ _
    · split
      · exact Kn.suspend_t _ _ _
      · split
        · exact Kn.resume_t _ _
        · rfl
theorem Kn.does_o (K : List Kt) (M : List Mx) (kd t c a : Int) (h2 : kd ≠ 2) (h3 : kd ≠ 3) : (Kn.does K M kd t c a).1.map (·.out) = K.map (·.out) := by
  unfold Kn.does
  split
  · exact Kn.release_map _ (fun _ _ _ => rfl) _ _ _ _
  · split
    · exact Kn.run_map _ (fun _ _ _ => rfl) _ _ _
    · rfl
theorem Kn.suspend_o {K : List Kt} {M : List Mx} {i : Nat} (hi : i < K.length) : (∃ K2, Kn.suspend K M i = (K2, 0) ∧ K2.map (·.out) = (K.map (·.out)).set i true) ∨ Kn.suspend K M i = (K, 7) := by
  rw [Kn.suspend_in hi]
  split
  · exact .inr rfl
  · exact .inl ⟨_, rfl, by rw [List.map_set]⟩
theorem Kn.resume_o {K : List Kt} {i : Nat} (hi : i < K.length) : (∃ K2, Kn.resume K i = (K2, 0) ∧ K2.map (·.out) = (K.map (·.out)).set i false) ∨ Kn.resume K i = (K, 7) := by
  rw [Kn.resume_in hi]
  split
  · exact .inr rfl
  · exact .inl ⟨_, rfl, by rw [List.map_set]⟩
theorem Kn.holds_lk {K : List Kt} {M : List Mx} {i : Nat} (hi : i < K.length) (h : Kn.holds K M i = true) : 0 ≤ K[i].t.lk ∧ (Tb.holder M K[i].t.lk).1 = (i : Int) := by
  rw [Kn.holds_in hi] at h
  split at h
  · cases h
  · rename_i hl
    simp only [Bool.and_eq_true, decide_eq_true_eq] at h
    exact ⟨by omega, h.2⟩
theorem Kn.holds_one {K : List Kt} {M : List Mx} {i j : Nat} (hi : i < K.length) (hj : j < K.length) (h : Kn.holds K M i = true) (h' : Kn.holds K M j = true) (hl : K[i].t.lk = K[j].t.lk) : i = j := by
  have h1 := (Kn.holds_lk hi h).2
  have h2 := (Kn.holds_lk hj h').2
  rw [hl] at h1
  omega
end Vg
namespace Go.Proofs.Ytiinhofmhoplfaa
open Go.ChangeShapes Go.WideShapes Go.ChangeAt Go.RowKit
structure KX (w0 w : World) (b : Nat) (K : List Vg.Kt) (M : List Vg.Mx) (S : Nat → Prop) (P : World → Prop) : Prop where
  kz : KZ w0 w b K M S
  p : P w
  dep : ∀ w w', Vg.Kept S w w' → P w → P w'
section
variable {w w' w0 : World} {b n k : Nat} {K K' : List Vg.Kt} {M M' : List Vg.Mx} {S S' : Nat → Prop} {P P' : World → Prop} {r x d1 d2 d3 m kd t c a : Int} {is : Bool}
theorem KX.next (h : KX w0 w b K M S P) (hz : KZ w0 w' b K' M' S) (hk : Vg.Kept S w w') : KX w0 w' b K' M' S P := ⟨hz, h.dep _ _ hk h.p, h.dep⟩
theorem KX.grows (h : KX w0 w b K M S P) (hg : Vg.Grows w w') : KX w0 w' b K M S P := ⟨h.kz.grows hg, h.dep _ _ (Vg.kept_grows hg h.kz.lt) h.p, h.dep⟩
theorem KX.gr (h : KX w0 w b K M S P) : Vg.Grows w0 w := h.kz.gr
/-- Blocks of S alone have changed, and new ones came: another word, on another set. -/
theorem KX.change {tt : Nat → Prop} (h : KX w0 w b K M S P) (ht : Vg.Touch tt w w') (htS : ∀ k, tt k → S k) (h0 : ∀ k, tt k → w0.heap.size ≤ k) (hS : ∀ k, S' k → (S k ∨ w.heap.size ≤ k) ∧ k < w'.heap.size) (hp : P' w') (hd : ∀ w w', Vg.Kept S' w w' → P' w → P' w') : KX w0 w' b K M S' P' :=
  ⟨h.kz.other ht htS (ht.gr h.kz.gr h0) hS, hp, hd⟩
/-- A part of the word. -/
theorem KX.less (h : KX w0 w b K M S P) (hS : ∀ k, S' k → S k) (hp : P' w) (hd : ∀ w w', Vg.Kept S' w w' → P' w → P' w') : KX w0 w b K M S' P' := ⟨h.kz.mono hS, hp, hd⟩
abbrev KH (w0 w : World) (b : Nat) (K : List Vg.Kt) (M : List Vg.Mx) (X : List (Nat × Obj)) : Prop := KX w0 w b K M (Vg.Dom X) (Vg.Has X)
theorem KH.start (h : KZ w0 w b K M (fun _ => False)) : KH w0 w b K M [] := ⟨h.mono fun k hk => (Vg.Dom.nil hk).elim, Vg.Has.nil _, Vg.Has.dep fun _ h => h⟩
/-- A new block. -/
theorem KH.new {X : List (Nat × Obj)} {g : Nat} {o : Obj} (h : KH w0 w b K M X) (hg : Vg.Grows w w') (hb : Vg.blk w' g = some o) (hlo : w.heap.size ≤ g) : KH w0 w' b K M ((g, o) :: X) :=
  h.change (tt := fun _ => False) (Vg.Touch.of_grows hg) (fun k hk => hk.elim) (fun k hk => hk.elim) (fun k hk => by
    rcases hk.cons with rfl | hk
    · exact ⟨.inr hlo, Vg.lt_of hb⟩
    · exact ⟨.inl hk, Nat.lt_of_lt_of_le (h.kz.lt k hk) hg.size⟩) (Vg.Has.cons (Vg.Has.dep (fun _ h => h) _ _ (Vg.kept_grows hg h.kz.lt) h.p) hb) (Vg.Has.dep fun _ h => h)
theorem KH.sub {X Y : List (Nat × Obj)} (h : KH w0 w b K M X) (hs : ∀ p ∈ Y, p ∈ X) : KH w0 w b K M Y :=
  h.less (fun k ⟨o, hk⟩ => ⟨o, hs _ hk⟩) (fun p hp => h.p p (hs p hp)) (Vg.Has.dep fun _ h => h)
theorem KH.put {X : List (Nat × Obj)} {g : Nat} {o : Obj} (o' : Obj) (h : KH w0 w b K M ((g, o) :: X)) (hlo : w0.heap.size ≤ g) (hne : ∀ p ∈ X, g ≠ p.1) : KH w0 (Vg.put w g o') b K M ((g, o') :: X) := by
  have hg := Vg.lt_of (h.p _ List.mem_cons_self)
  refine h.change (tt := fun k => k = g) (Vg.Touch.put (t := fun k => k = g) (Vg.Touch.refl _ _) rfl o') (fun k hk => hk ▸ Vg.Dom.here) (fun k hk => by omega) (fun k hk => ?_) ?_ (Vg.Has.dep fun _ h => h)
  · rw [Vg.put_size]
    rcases hk.cons with rfl | hk
    · exact ⟨.inl Vg.Dom.here, hg⟩
    · exact ⟨.inl hk.there, h.kz.lt k hk.there⟩
  · refine Vg.Has.cons (fun p hp => ?_) (Vg.put_heap_same hg)
    exact (Vg.put_heap_other (hne p hp)).trans (h.p p (List.mem_cons_of_mem _ hp))
theorem kx_release (i c a : Int) (h : KX w0 w b K M S P) (hI : Vg.Kn.Inv k K) (hk : k ≤ 1000000) (hx : Vg.Kn.release K i c a = (K', r)) :
    Calls Try.prog 81 #[.pointer (some ⟨b, 0, none⟩), .int .i64 i, .int .i64 c, .int .i64 a] w fun e w' => e = .returned (.int .i64 r) ∧ KX w0 w' b K' M S P := by
  refine (kz_release i c a h.kz hI hk hx).mono ?_
  rintro e w' ⟨rfl, hz, hk⟩
  exact ⟨rfl, h.next hz hk⟩
theorem kx_suspend (i : Int) (h : KX w0 w b K M S P) (hx : Vg.Kn.suspend K M i = (K', r)) :
    Calls Try.prog 78 #[.pointer (some ⟨b, 0, none⟩), .int .i64 i] w fun e w' => e = .returned (.int .i64 r) ∧ KX w0 w' b K' M S P := by
  refine (kz_suspend i h.kz hx).mono ?_
  rintro e w' ⟨rfl, hz, hk⟩
  exact ⟨rfl, h.next hz hk⟩
theorem kx_resume (i : Int) (h : KX w0 w b K M S P) (hx : Vg.Kn.resume K i = (K', r)) :
    Calls Try.prog 79 #[.pointer (some ⟨b, 0, none⟩), .int .i64 i] w fun e w' => e = .returned (.int .i64 r) ∧ KX w0 w' b K' M S P := by
  refine (kz_resume i h.kz hx).mono ?_
  rintro e w' ⟨rfl, hz, hk⟩
  exact ⟨rfl, h.next hz hk⟩
theorem kx_run (h : KX w0 w b K M S P) (hI : Vg.Kn.Inv k K) (hx : Vg.Kn.run K M m = (K', M', (d1, d2, d3), is, r)) :
    Calls Try.prog 87 #[.pointer (some ⟨b, 0, none⟩), .int .i64 m] w fun e w' => e = .returned (.tuple #[.agg #[.int .i64 d1, .int .i64 d2, .int .i64 d3], .bool is, .int .i64 r]) ∧ KX w0 w' b K' M' S P := by
  refine (kz_run h.kz hI hx).mono ?_
  rintro e w' ⟨rfl, hz, hk⟩
  exact ⟨rfl, h.next hz hk⟩
theorem kx_pick (h : KX w0 w b K M S P) (hr : Vg.Kn.best K M = r) (hm : max r 0 = m) (his : decide (0 ≤ r) = is) :
    Calls Try.prog 67 #[.pointer (some ⟨b, 0, none⟩)] w fun e w' => e = .returned (.tuple #[.int .i64 m, .bool is]) ∧ KX w0 w' b K M S P := by
  refine (kz_pick h.kz hr hm his).mono ?_
  rintro e w' ⟨rfl, hg⟩
  exact ⟨rfl, h.grows hg⟩
theorem kx_left (h : KX w0 w b K M S P) (hI : Vg.Kn.Inv k K) (hx : Vg.Kn.left K M = x) :
    Calls Try.prog 69 #[.pointer (some ⟨b, 0, none⟩)] w fun e w' => e = .returned (.int .i64 x) ∧ KX w0 w' b K M S P := by
  refine (kz_left h.kz hI hx).mono ?_
  rintro e w' ⟨rfl, hg⟩
  exact ⟨rfl, h.grows hg⟩
theorem kx_level (i : Int) (h : KX w0 w b K M S P) (hx : Vg.Kn.level K M i = x) :
    Calls Try.prog 71 #[.pointer (some ⟨b, 0, none⟩), .int .i64 i] w fun e w' => e = .returned (.int .i64 x) ∧ KX w0 w' b K M S P := by
  refine (kz_level i h.kz hx).mono ?_
  rintro e w' ⟨rfl, hg⟩
  exact ⟨rfl, h.grows hg⟩
theorem kx_holds (i : Int) (h : KX w0 w b K M S P) (hx : Vg.Kn.holds K M i = is) :
    Calls Try.prog 73 #[.pointer (some ⟨b, 0, none⟩), .int .i64 i] w fun e w' => e = .returned (.bool is) ∧ KX w0 w' b K M S P := by
  refine (kz_holds i h.kz hx).mono ?_
  rintro e w' ⟨rfl, hg⟩
  exact ⟨rfl, h.grows hg⟩
theorem kx_waiting (i : Int) (h : KX w0 w b K M S P) (hx : Vg.Kn.waiting K i = x) :
    Calls Try.prog 76 #[.pointer (some ⟨b, 0, none⟩), .int .i64 i] w fun e w' => e = .returned (.int .i64 x) ∧ w = w' := kz_waiting i h.kz hx
theorem kx_lost (i : Int) (h : KX w0 w b K M S P) (hx : Vg.Kn.lost K i = x) :
    Calls Try.prog 77 #[.pointer (some ⟨b, 0, none⟩), .int .i64 i] w fun e w' => e = .returned (.int .i64 x) ∧ w = w' := kz_lost i h.kz hx
theorem kx_does (h : KX w0 w b K M S P) (hI : Vg.Kn.Inv k K) (hk : k ≤ 1000000) (hx : Vg.Kn.does K M kd t c a = (K', M', (d1, d2, d3), is)) :
    Calls Try.prog 80 #[.pointer (some ⟨b, 0, none⟩), .agg #[.int .i64 kd, .int .i64 t, .int .i64 c, .int .i64 a]] w fun e w' => e = .returned (.tuple #[.agg #[.int .i64 d1, .int .i64 d2, .int .i64 d3], .bool is]) ∧ KX w0 w' b K' M' S P := by
  refine (kz_does h.kz hI hk hx).mono ?_
  rintro e w' ⟨rfl, hz, hk⟩
  exact ⟨rfl, h.next hz hk⟩
end
end Go.Proofs.Ytiinhofmhoplfaa
