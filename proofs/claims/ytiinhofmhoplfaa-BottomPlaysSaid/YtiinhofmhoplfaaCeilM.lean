/- ceiling: Held, Level. -/
import Derived.Test.YtiinhofmhoplfaaCeilI
set_option linter.unusedSimpArgs false
set_option linter.unusedVariables false
set_option maxHeartbeats 2000000
set_option maxRecDepth 100000
namespace Vg
open Go
theorem owns_weaken' {B B' : Nat} {w : World} {e : TypeId} {size : Nat} {v : Value} {n : Nat} {xs : List Value} (h : w.ownsRow B e size v n xs) (hB : B' ≤ B) : w.ownsRow B' e size v n xs := by
  refine ⟨h.1, ?_⟩
  rcases h.2 with h0 | ⟨g, cap, cur, h1, hb, h2⟩
  · exact .inl h0
  · exact .inr ⟨g, cap, cur, h1, by omega, h2⟩
theorem blk_ownF {β : Type} {B b : Nat} {f : β → Obj} (hf : ∀ s, (f s).isCells = true) : OwnFrom B (fun (s : β) W => blk W b = some (f s)) := fun s A C row hs hg hr => by
  have hl := lt_of hs
  refine (hg.block b hl (fun e => ?_)).trans hs
  obtain ⟨_, o, ho, hcc⟩ := hr b e.symm
  have : some (f s) = some o := hs.symm.trans ho
  cases this
  rw [hf s] at hcc; cases hcc
end Vg
namespace Go.Proofs.Ytiinhofmhoplfaa
open Go.ChangeShapes Go.WideShapes Go.ChangeAt Go.RowKit Go.Shelf
attribute [local go_sem] Oper.semAt_some
theorem Try.info_int : (Try.prog.info? 3).map (fun i => (i.zero, i.size, i.bytes)) = some (some (.int .i64 0), 1, 8) := by kernel_rfl
abbrev nats (l : List Nat) : List Value := l.map fun i : Nat => Value.int .i64 i
theorem held_in (b B : Nat) (M : List Vg.Mx) (v : Value) (task : Int) (w : World) (h : CE w b B M v) (hM : M.length ≤ 1000) :
    CallsIn Fence.wide 4 Try.prog 38 #[.pointer (some ⟨b, 0, none⟩), .int .i64 task] w fun e w' => ∃ u, e = .returned u ∧ w'.ownsRow w.heap.size 3 1 u (Vg.Tb.of M task M.length).length (nats (Vg.Tb.of M task M.length)) ∧ Below w.heap.size w w' := by
  have hl1 := h.lt
  have hl2 := h.own
  have hro : Fence.wide.round = none := rfl
  have hn1 : 1 ≤ 4 := by omega
  obtain ⟨i0, hi, hz0, hz1, hz2⟩ := info_parts Try.info_int
  have hSS : ∀ k, (k = b ∨ v.ownBlock = some k ∨ k = w.heap.size + 1 ∨ k = w.heap.size + 1 + 1) → k < w.heap.size + 3 ∧ k ≠ w.heap.size := by
    rintro k (rfl | hk | rfl | rfl)
    · omega
    · have := (hl2 k hk).2; omega
    · omega
    · omega
  have HSS := Lib.hid hSS
  clear hSS
  have H_h := Lib.hid h; clear h
  refine callsIn_of_wp_marks Try.func38 rfl trivial ?_ rfl
  simp only [Try.ntmps38, List.size_toArray, List.length_cons, List.length_nil, Nat.reduceAdd, Nat.reduceSub, Array.replicate_succ, Array.replicate_zero, List.push_toArray, List.append_toArray, List.nil_append, List.cons_append]
  gi_wp2_with (first | (refine ⟨trivial, ?_⟩; gi_at_call 98; refine (callsIn_wide.2 (ceil_of b task _)).mono ?_; rintro e w1 ⟨rfl, rfl⟩))
  have bO := Boxed.new w 22 (.slice none 0 0)
  have hB0 : Below w.heap.size w (((w.alloc (.cells #[.slice none 0 0] 22)).alloc (.cells #[.pointer (some ⟨b, 0, none⟩)] 52)).alloc (.cells #[.int .i64 task] 3)) := (((Below.refl _ w).alloc (Nat.le_refl _) _).alloc (by simp) _).alloc (by simp <;> omega) _
  refine wpIn_rangeFunc_ownG hro hn1 (gf := 130) (lb := #[.pointer (some ⟨w.heap.size + 1, 0, none⟩), .pointer (some ⟨w.heap.size + 1 + 1, 0, none⟩)]) rfl trivial (enters_of Try.func130 (by kernel_rfl) rfl)
    (of_stops (4 - 1) (by omega) (fun k => k = b ∨ v.ownBlock = some k ∨ k = w.heap.size + 1 ∨ k = w.heap.size + 1 + 1) (w.heap.size + 1) (w.heap.size + 1 + 1) b B M v task _ (.inl rfl) (fun j hj => .inr (.inl hj)) (.inr (.inr (.inl rfl))) (.inr (.inr (.inr rfl)))
      (by rintro k (rfl | hk | rfl | rfl)
          · simp; omega
          · have := (hl2 k hk).2; simp; omega
          · simp
          · simp)
      (by go_simp) (by go_simp) (H_h.out.grows (by (repeat' (first | (with_reducible exact Vg.Grows.refl _) | (with_reducible assumption) | (with_reducible refine Vg.Grows.alloc ?_ _) | (with_reducible refine Vg.Grows.plus ?_ _ _) | (with_reducible refine Vg.Grows.drewN ?_ _) | (with_reducible refine Vg.Grows.drew ?_) | (with_reducible refine Vg.Grows.setCell ?_ ?_ _) | (with_reducible refine Vg.Grows.put ?_ ?_ _) | omega | (simp; omega) | (simp; done)))))) Vg.Kept.trans
    (Vg.Kept.putObj (by rintro k (rfl | hk | rfl | rfl)
                        · simp; omega
                        · have := (hl2 k hk).2; simp; omega
                        · simp
                        · simp)) (Below.refl _ _) (fun _ => rfl)
    (fun pre W => (∃ u, Boxed W w.heap.size 22 u ∧ W.ownsRow (w.heap.size + 3) 3 1 u pre.length (nats pre) ∧ True) ∧ (w.heap.size + 3 ≤ W.heap.size ∧ Below w.heap.size w W))
    (fun _ _ _ => False)
    (OwnFrom.and (Own.from (holdsRow_own (w.heap.size + 3) w.heap.size 22 3 1 (fun pre : List Nat => pre.length) (fun pre => nats pre) (fun _ _ => True)) _) (OwnFrom.and (Vg.ownFrom_size _ _) (ownFrom_below (Nat.le_refl _) (by simp; omega))))
    (fun _ _ _ _ _ hs _ _ => hs)
    ⟨⟨_, (bO.alloc _).alloc _, World.ownsRow_nil _ _ _ _, trivial⟩, by simp, hB0⟩
    (fun x => { tmps := #[.pointer (some ⟨b, 0, none⟩), .int .i64 task, undef, undef, .slice none 0 0, .pointer (some ⟨w.heap.size, 0, none⟩), .int .i64 x, .pointer (some ⟨b, 0, none⟩), .int .i64 task, .func (.func 130) #[] #[.pointer (some ⟨w.heap.size + 1, 0, none⟩), .pointer (some ⟨w.heap.size + 1 + 1, 0, none⟩)], .int .i64 x, mxV M x, undef, undef, undef, undef, undef], defers := [] }) ?assign ?body ?done ?stop
  case assign =>
    intro l x W K hK
    gi_wp2
    exact hK
  case body =>
    rintro l pre x W ⟨⟨u, hv, hrow, -⟩, hsz, hB⟩ hlt
    have hc := hv.cell
    gi_wp2_with (gi_at_builtin; refine wpListIn_append_own _ rfl _ _ 22 rfl (w.heap.size + 3) 3 i0 (.int .i64 0) 1 8 Try.underlying22 hi hz0 hz1 hz2 rfl (by decide) _ _ _ rfl (hrow.alloc _) ⟨W.heap.size, 0, none⟩ 1 1 [.int .i64 x] rfl rfl (cell_one_new _ _ _) (by simp [Value.oneCell']) (by unfold maxLen; omega) (by omega) (by simp; omega) ?_; intro v' w1 hown' hgrow _; obtain ⟨g', cap', rfl⟩ := ownsRow_succ hown'; obtain ⟨hv1, hv2, hr2, hk2, hb2, hkk2, hs2⟩ := Vg.appended (n₀ := w.heap.size) (S := fun k => k = b ∨ v.ownBlock = some k ∨ k = w.heap.size + 1 ∨ k = w.heap.size + 1 + 1) hv (by decide) hrow hsz (Nat.le_refl _) (by omega) HSS.out hown' hgrow; have hc1 := hv1.cell; have hf1 := hv1.frozen)
    exact ⟨hk2.from _, hkk2, ⟨_, hv2, by simpa using hr2, trivial⟩, hs2, hB.trans hb2⟩
  case done =>
    rintro D ys W hD rfl ⟨⟨u, hv, hrow, -⟩, hsz, hB⟩ hK
    have hc := hv.cell
    gi_wp2
    refine ⟨by simp, .inl ⟨_, _, rfl, run_takeDeferred hK, ?_⟩⟩
    exact ⟨_, results_tmp rfl _ _ _, u, rfl, (Vg.owns_weaken' (ownsRow_putObj hrow _ hK rfl) (by omega)), hB.trans (belowK_b (w := w) (Nat.le_refl _) W D _ _ (by simp at hD; omega) hK rfl rfl)⟩
  case stop =>
    rintro D c pre W _ _ h _
    exact h.elim
theorem ce_held {w : World} {b B : Nat} {M : List Vg.Mx} {v : Value} (task : Int) (h : CE w b B M v) (hM : M.length ≤ 1000) :
    Calls Try.prog 38 #[.pointer (some ⟨b, 0, none⟩), .int .i64 task] w fun e w' => ∃ u, e = .returned u ∧ Vg.Que w' w.heap.size 3 1 u (Vg.Tb.of M task M.length).length (nats (Vg.Tb.of M task M.length)) ∧ Vg.Grows w w' := by
  refine ((callsIn_wide (n := 4)).1 (held_in b B M v task w h hM)).mono ?_
  rintro e w' ⟨u, rfl, ho, hb⟩
  exact ⟨u, rfl, Vg.Que.of_owns ho, Vg.Grows.of_below hb⟩
def mxd (M : List Vg.Mx) (i : Nat) : Vg.Mx := M[i]?.getD ⟨0, false, 0⟩
theorem mxV_d (M : List Vg.Mx) (i : Nat) : mxV M i = .agg #[.int .i64 (mxd M i).c, .bool (mxd M i).held, .int .i64 (mxd M i).who] := rfl
abbrev mxO (d : Vg.Mx) : Obj := .cells #[.int .i64 d.c, .bool d.held, .int .i64 d.who] 161
theorem level_in (b B : Nat) (M : List Vg.Mx) (v : Value) (task prio : Int) (w : World) (h : CE w b B M v) :
    CallsIn Fence.wide 4 Try.prog 40 #[.pointer (some ⟨b, 0, none⟩), .int .i64 task, .int .i64 prio] w fun e w' => e = .returned (.int .i64 (Vg.Tb.level M (Vg.Tb.of M task M.length) prio)) ∧ Below w.heap.size w w' := by
  have hl1 := h.lt
  have hl2 := h.own
  have hro : Fence.wide.round = none := rfl
  have hn1 : 1 ≤ 4 := by omega
  have hSS : ∀ k, (k = b ∨ v.ownBlock = some k ∨ k = w.heap.size + 1 ∨ k = w.heap.size + 1 + 1) → k < w.heap.size + 3 ∧ k ≠ w.heap.size := by
    rintro k (rfl | hk | rfl | rfl)
    · omega
    · have := (hl2 k hk).2; omega
    · omega
    · omega
  have HSS := Lib.hid hSS
  clear hSS
  have H_h := Lib.hid h; clear h
  refine callsIn_of_wp_marks Try.func40 rfl trivial ?_ rfl
  simp only [Try.ntmps40, List.size_toArray, List.length_cons, List.length_nil, Nat.reduceAdd, Nat.reduceSub, Array.replicate_succ, Array.replicate_zero, List.push_toArray, List.append_toArray, List.nil_append, List.cons_append]
  gi_wp2_with (first | (refine ⟨trivial, ?_⟩; gi_at_call 98; refine (callsIn_wide.2 (ceil_of b task _)).mono ?_; rintro e w1 ⟨rfl, rfl⟩))
  have bO := Boxed.new w 3 (.int .i64 prio)
  have hB0 : Below w.heap.size w (((w.alloc (.cells #[.int .i64 prio] 3)).alloc (.cells #[.pointer (some ⟨b, 0, none⟩)] 52)).alloc (.cells #[.int .i64 task] 3)) := (((Below.refl _ w).alloc (Nat.le_refl _) _).alloc (by simp) _).alloc (by simp <;> omega) _
  refine wpIn_rangeFunc_ownH hro hn1 (gf := 130) (lb := #[.pointer (some ⟨w.heap.size + 1, 0, none⟩), .pointer (some ⟨w.heap.size + 1 + 1, 0, none⟩)]) rfl trivial (enters_of Try.func130 (by kernel_rfl) rfl)
    (of_stops (4 - 1) (by omega) (fun k => k = b ∨ v.ownBlock = some k ∨ k = w.heap.size + 1 ∨ k = w.heap.size + 1 + 1) (w.heap.size + 1) (w.heap.size + 1 + 1) b B M v task _ (.inl rfl) (fun j hj => .inr (.inl hj)) (.inr (.inr (.inl rfl))) (.inr (.inr (.inr rfl)))
      (by rintro k (rfl | hk | rfl | rfl)
          · simp; omega
          · have := (hl2 k hk).2; simp; omega
          · simp
          · simp)
      (by go_simp) (by go_simp) (H_h.out.grows (by (repeat' (first | (with_reducible exact Vg.Grows.refl _) | (with_reducible assumption) | (with_reducible refine Vg.Grows.alloc ?_ _) | (with_reducible refine Vg.Grows.plus ?_ _ _) | (with_reducible refine Vg.Grows.drewN ?_ _) | (with_reducible refine Vg.Grows.drew ?_) | (with_reducible refine Vg.Grows.setCell ?_ ?_ _) | (with_reducible refine Vg.Grows.put ?_ ?_ _) | omega | (simp; omega) | (simp; done)))))) Vg.Kept.trans
    (Vg.Kept.putObj (by rintro k (rfl | hk | rfl | rfl)
                        · simp; omega
                        · have := (hl2 k hk).2; simp; omega
                        · simp
                        · simp)) (Below.refl _ _) (fun _ => rfl)
    (fun pre W => Boxed W w.heap.size 3 (.int .i64 (Vg.Tb.level M pre prio)) ∧ (w.heap.size + 3 ≤ W.heap.size ∧ Below w.heap.size w W))
    (fun _ _ _ => False)
    (OwnFrom.and (Own.from (boxed_own _ _ _) _) (OwnFrom.and (Vg.ownFrom_size _ _) (ownFrom_below (Nat.le_refl _) (by simp; omega))))
    (fun _ _ _ _ _ hs _ _ => hs)
    ⟨(bO.alloc _).alloc _, by simp, hB0⟩
    (fun x a' W => ∃ Bx, w.heap.size + 3 ≤ Bx ∧ Vg.blk W Bx = some (mxO (mxd M x)) ∧ a' = { tmps := #[.pointer (some ⟨b, 0, none⟩), .int .i64 task, .int .i64 prio, undef, undef, .pointer (some ⟨w.heap.size, 0, none⟩), .int .i64 0, undef, .pointer (some ⟨Bx, 0, none⟩), .pointer (some ⟨b, 0, none⟩), .int .i64 task, .func (.func 130) #[] #[.pointer (some ⟨w.heap.size + 1, 0, none⟩), .pointer (some ⟨w.heap.size + 1 + 1, 0, none⟩)], .int .i64 x, mxV M x, undef, undef, undef, undef, undef], defers := [] })
    (fun x a' _ X Y row hs hg hr => by obtain ⟨Bx, h1, h2, h3⟩ := hs; exact ⟨Bx, h1, Vg.blk_ownF (B := _) (f := fun (_ : Unit) => mxO (mxd M x)) (fun _ => rfl) () X Y row h2 hg hr, h3⟩)
    ?assign ?body ?done ?stop
  case assign =>
    rintro l pre x W K ⟨bS1, hsz, hB1⟩ hK
    have hmx := mxV_d M x
    have hK2 := hK _ _ ((KeepsOthers.alloc W (mxO (mxd M x))).from _) ⟨by simp, fun z hz => Below.heap_alloc _ _ _ (by have := HSS.out z hz; omega)⟩ ⟨bS1.alloc _, by simp; omega, hB1.alloc hB1.size _⟩ ⟨W.heap.size, hsz, Vg.alloc_heap_at rfl, rfl⟩
    clear hK
    simp only [hmx] at hK2 ⊢
    clear hmx
    generalize mxd M x = d at hK2 ⊢
    obtain ⟨dc, dh, dw⟩ := d
    gi_wp2
    exact hK2
  case body =>
    rintro l pre x a' W hl ⟨r, hr⟩ ⟨bS1, hsz, hB1⟩ ⟨Bx, hBx, bX, rfl⟩ hlt
    have cB := bS1.cell
    have fB := bS1.frozen
    have hlv : Vg.Tb.level M (pre ++ [x]) prio = max (Vg.Tb.level M pre prio) (mxd M x).c := Vg.Tb.level_snoc M pre x prio
    obtain ⟨p, hp⟩ : ∃ p, Vg.Tb.level M pre prio = p := ⟨_, rfl⟩
    rw [hp] at cB hlv bS1
    obtain ⟨dc, hdc⟩ : ∃ dc, (mxd M x).c = dc := ⟨_, rfl⟩
    have c0 := Vg.cells_of bX 0
    simp at c0
    rw [hdc] at c0 hlv
    have HB1 := Lib.hid hB1
    have HBS := Lib.hid bS1
    obtain ⟨q, hq⟩ : ∃ q, max p dc = q := ⟨_, rfl⟩
    rw [hq] at hlv
    clear hB1 bS1
    have hcase : (p < dc ∧ q = dc) ∨ (¬ p < dc ∧ q = p) := by
      by_cases h : p < dc
      · exact .inl ⟨h, by omega⟩
      · exact .inr ⟨h, by omega⟩
    clear hq
    rcases hcase with ⟨h, rfl⟩ | ⟨h, rfl⟩
    all_goals
      have H_hp := Lib.hid hp; clear hp; have H_hlv := Lib.hid hlv; clear hlv; have H_hdc := Lib.hid hdc; clear hdc; have H_hr := Lib.hid hr; clear hr; have H_bX := Lib.hid bX; clear bX
      gi_wp2
      exact ⟨(KeepsOthers.setCell _ _ _).from _, ⟨by rw [World.size_setCell]; exact Nat.le_refl _, fun z hz => Below.heap_setCell _ _ _ z (by have := HSS.out z hz; exact this.2)⟩, by rw [H_hlv.out]; exact HBS.out.set _, by rw [World.size_setCell]; exact hsz, HB1.out.trans ((Below.refl _ W).setCell (p := ⟨w.heap.size, 0, none⟩) (Nat.le_refl _) _)⟩
  case done =>
    rintro D ys W hD rfl ⟨bS1, hsz, hB⟩ hK
    have hc := bS1.cell
    gi_wp2
    refine ⟨by simp, .inl ⟨_, _, rfl, run_takeDeferred hK, ?_⟩⟩
    exact ⟨_, results_tmp rfl _ _ _, rfl, hB.trans (belowK_b (w := w) (Nat.le_refl _) W D _ _ (by simp at hD; omega) hK rfl rfl)⟩
  case stop =>
    rintro D c pre W _ _ h _
    exact h.elim
theorem ce_level {w : World} {b B : Nat} {M : List Vg.Mx} {v : Value} (task prio : Int) (h : CE w b B M v) :
    Calls Try.prog 40 #[.pointer (some ⟨b, 0, none⟩), .int .i64 task, .int .i64 prio] w fun e w' => e = .returned (.int .i64 (Vg.Tb.level M (Vg.Tb.of M task M.length) prio)) ∧ Vg.Grows w w' := by
  refine ((callsIn_wide (n := 4)).1 (level_in b B M v task prio w h)).mono ?_
  rintro e w' ⟨rfl, hb⟩
  exact ⟨rfl, Vg.Grows.of_below hb⟩
end Go.Proofs.Ytiinhofmhoplfaa
