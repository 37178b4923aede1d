/- TopLetters: plain law, the kern of one task, its bundle with a box of letters and the row of what was posted. -/
import Derived.Test.YtiinhofmhoplfaaKernX
import Derived.Test.YtiinhofmhoplfaaMboxA
set_option linter.unusedSimpArgs false
set_option linter.unusedVariables false
set_option maxHeartbeats 4000000
set_option maxRecDepth 100000
namespace Vg
open Go
/-- The one task of TopLetters, and its kern. -/
def Lt.t (room : Int) : Tk := ⟨0, 3, 0, 0, 0, 0, room, -1, 0, 0⟩
def Lt.K (room : Int) (J : List Jb) : List Kt := [⟨Lt.t room, J, 0, false⟩]
def Lt.M : List Mx := Kn.M0 [Lt.t 1]
theorem Lt.m0 (room : Int) : Kn.M0 [Lt.t room] = Lt.M := rfl
theorem Lt.k0 (room : Int) : Kn.K0 [Lt.t room] = Lt.K room [] := rfl
theorem Lt.odd (room : Int) : oddK (Lt.t room) = (decide (room < 1) || decide (16 < room)) := by
  show (decide ((3 : Int) < 0) || decide ((63 : Int) < 3) || decide (room < 1) || decide (16 < room) || (decide ((0 : Int) ≤ -1) && (decide ((16 : Int) ≤ -1) || decide ((0 : Int) < 0) || decide ((0 : Int) ≤ 0) || decide ((1099511627776 : Int) < 0)))) = _
  generalize decide (room < 1) = p
  generalize decide (16 < room) = q
  cases p <;> cases q <;> rfl
theorem Lt.check_ok {room : Int} (h1 : 1 ≤ room) (h2 : room ≤ 16) : Kn.check [Lt.t room] = 0 := by
  have h : oddK (Lt.t room) = false := by rw [Lt.odd]; simp; omega
  simp [Kn.check, h, Kn.why, dupK]
theorem Lt.check_no {room : Int} (h : room < 1 ∨ 16 < room) : Kn.check [Lt.t room] = 1 := by
  have h : oddK (Lt.t room) = true := by rw [Lt.odd]; simp; omega
  simp [Kn.check, h]
theorem Lt.waiting (room : Int) (J : List Jb) : Kn.waiting (Lt.K room J) 0 = J.length := rfl
theorem Lt.lost (room : Int) (J : List Jb) : Kn.lost (Lt.K room J) 0 = 0 := rfl
/-- The letters: P were posted, f fetched, d done; J wait. -/
structure Lt.Rel (P : List Int) (f d : Nat) (J : List Jb) : Prop where
  sum : d + J.length = f
  le : f ≤ P.length
  at_ : ∀ i (h : i < J.length) (h' : d + i < P.length), J[i].cost = P[d + i] ∧ J[i].at_ = ((d + i : Nat) : Int)
  ok : ∀ x ∈ P, 1 ≤ x ∧ x ≤ 1099511627776
theorem Lt.Rel.start : Lt.Rel [] 0 0 [] := ⟨rfl, Nat.le_refl _, fun i h => by simp at h, fun x hx => by simp at hx⟩
theorem Lt.Rel.post {P : List Int} {f d : Nat} {J : List Jb} (h : Lt.Rel P f d J) {x : Int} (hx : 1 ≤ x ∧ x ≤ 1099511627776) : Lt.Rel (P ++ [x]) f d J := by
  refine ⟨h.sum, by rw [List.length_append]; have := h.le; omega, fun i hi h' => ?_, fun y hy => ?_⟩
  · have h1 := h.sum
    have h2 := h.le
    rw [List.getElem_append_left (by omega)]
    exact h.at_ i hi (by omega)
  · rcases List.mem_append.1 hy with hy | hy
    · exact h.ok y hy
    · simp at hy; rw [hy]; exact hx
theorem Lt.Rel.fetch {P : List Int} {f d : Nat} {J : List Jb} (h : Lt.Rel P f d J) (hf : f < P.length) : Lt.Rel P (f + 1) d (J ++ [⟨P[f], f, 0⟩]) := by
  have h1 := h.sum
  refine ⟨by simp; omega, by omega, fun i hi h' => ?_, h.ok⟩
  by_cases hl : i < J.length
  · rw [List.getElem_append_left hl]; exact h.at_ i hl h'
  · have : i = J.length := by simp at hi; omega
    subst this
    simp [h1]
theorem Lt.Rel.head {P : List Int} {f d : Nat} {j : Jb} {l : List Jb} (h : Lt.Rel P f d (j :: l)) : ∃ hd : d < P.length, j.cost = P[d] ∧ j.at_ = (d : Int) ∧ d < f := by
  have h1 := h.sum
  have h2 := h.le
  simp only [List.length_cons] at h1
  have := h.at_ 0 (by simp) (by omega)
  exact ⟨by omega, by simpa using this.1, by simpa using this.2, by omega⟩
theorem Lt.Rel.went {P : List Int} {f d : Nat} {j : Jb} {l : List Jb} (h : Lt.Rel P f d (j :: l)) (w : Int) : Lt.Rel P f d (⟨j.cost, j.at_, w⟩ :: l) := by
  refine ⟨h.sum, h.le, fun i hi h' => ?_, h.ok⟩
  have := h.at_ i hi h'
  cases i with
  | zero => simpa using this
  | succ i => simpa using this
theorem Lt.Rel.done {P : List Int} {f d : Nat} {j : Jb} {l : List Jb} (h : Lt.Rel P f d (j :: l)) : Lt.Rel P f (d + 1) l := by
  have h1 := h.sum
  simp only [List.length_cons] at h1
  refine ⟨by omega, h.le, fun i hi h' => ?_, h.ok⟩
  have := h.at_ (i + 1) (by simpa using hi) (by omega)
  simpa [Nat.add_assoc, Nat.add_comm 1 i] using this
theorem Lt.able {k : Nat} {room : Int} {J : List Jb} (hI : Kn.Inv k (Lt.K room J)) : (J = [] ∧ Kn.best (Lt.K room J) Lt.M = -1) ∨ (J ≠ [] ∧ Kn.best (Lt.K room J) Lt.M = 0) := by
  rcases Kn.best_cases (M := Lt.M) hI with ⟨hb, hno⟩ | ⟨i, hi, hb, ha, _⟩
  · have := hno 0
    rw [Kn.ableK_in (by simp [Lt.K])] at this
    cases J with
    | nil => exact .inl ⟨rfl, hb⟩
    | cons j l => simp [Lt.K] at this
  · have hi0 : i = 0 := by simp [Lt.K] at hi; exact hi
    subst hi0
    rw [Kn.ableK_in hi] at ha
    cases J with
    | nil => simp [Lt.K] at ha
    | cons j l => exact .inr ⟨by simp, by simpa using hb⟩
theorem Lt.run_none {k : Nat} {room : Int} (hI : Kn.Inv k (Lt.K room [])) (n : Int) : Kn.run (Lt.K room []) Lt.M n = (Lt.K room [], Lt.M, (0, 0, 0), false, 7) := by
  rcases Lt.able hI with ⟨_, h⟩ | ⟨h, _⟩
  · exact Kn.run_none h
  · exact absurd rfl h
theorem Lt.run_some {k : Nat} {room : Int} {j : Jb} {l : List Jb} (hI : Kn.Inv k (Lt.K room (j :: l))) (c : Int) :
    (∃ q, q = Kn.far (Lt.K room (j :: l)) Lt.M c ∧ j.went + q = j.cost ∧ Kn.run (Lt.K room (j :: l)) Lt.M q = (Lt.K room l, Lt.M, (0, j.cost, j.at_), true, 0)) ∨
    (∃ q, q = Kn.far (Lt.K room (j :: l)) Lt.M c ∧ Kn.run (Lt.K room (j :: l)) Lt.M q = (Lt.K room (⟨j.cost, j.at_, j.went + q⟩ :: l), Lt.M, (0, 0, 0), false, 0)) := by
  have hb : Kn.best (Lt.K room (j :: l)) Lt.M = ((0 : Nat) : Int) := by
    rcases Lt.able hI with ⟨h, _⟩ | ⟨_, h⟩
    · cases h
    · simpa using h
  have hi : 0 < (Lt.K room (j :: l)).length := by simp [Lt.K]
  have hx : (Lt.K room (j :: l))[0] = ⟨Lt.t room, j :: l, 0, false⟩ := rfl
  have hok := (hI _ (List.getElem_mem hi)).js j (by rw [hx]; simp)
  have hl := Kn.leftJ_pos (t := Lt.t room) hok
  have hle := Kn.left_some (M := Lt.M) hb hi hx
  obtain ⟨q, hq⟩ : ∃ q, Kn.far (Lt.K room (j :: l)) Lt.M c = q := ⟨_, rfl⟩
  have hq' : q = min (max c 0) (Kn.leftJ (Lt.t room) j) := by rw [← hq, Kn.far, hle]
  have hr := Kn.run_some (n := q) hb hi hx
  unfold Kn.runAt at hr
  simp only [] at hr
  rw [if_neg (by omega)] at hr
  rw [hq]
  by_cases hd : j.went + q = j.cost
  · rw [if_pos hd] at hr
    exact .inl ⟨q, rfl, hd, hr⟩
  · rw [if_neg hd] at hr
    exact .inr ⟨q, rfl, hr⟩
theorem Lt.release {room : Int} {J : List Jb} {x a : Int} (hx : 1 ≤ x ∧ x ≤ 1099511627776) (ha : 0 ≤ a ∧ a ≤ 4503599627370496) (hr : (J.length : Int) < room) : Kn.release (Lt.K room J) 0 x a = (Lt.K room (J ++ [⟨x, a, 0⟩]), 0) := by
  have hi : 0 < (Lt.K room J).length := by simp [Lt.K]
  have h : Kn.release (Lt.K room J) ((0 : Nat) : Int) x a = _ := Kn.release_in hi
  refine Eq.trans (show Kn.release (Lt.K room J) 0 x a = Kn.release (Lt.K room J) ((0 : Nat) : Int) x a from rfl) ?_
  rw [h, if_neg (by omega), if_neg (by show ¬ (room ≤ (J.length : Int)); omega)]
  rfl
theorem Lt.inv0 {k : Nat} {room : Int} {J : List Jb} (h : Kn.Inv k (Lt.K room J)) : Kn.Inv 0 (Lt.K room J) := fun x hx => by
  have g := h x hx
  simp only [Lt.K, List.mem_singleton] at hx
  subst hx
  exact ⟨g.t, ⟨Int.le_refl _, Int.le_refl _⟩, g.len, g.js, by first | exact g.tl | exact g.4 | exact g.5⟩
/-- Every way of a run. -/
theorem Lt.runs {k : Nat} {room : Int} {J : List Jb} (hI : Kn.Inv k (Lt.K room J)) (c : Int) :
    ∃ (J' : List Jb) (d1 d2 d3 : Int) (is : Bool) (r : Int), Kn.run (Lt.K room J) Lt.M (Kn.far (Lt.K room J) Lt.M c) = (Lt.K room J', Lt.M, (d1, d2, d3), is, r) ∧
      ((r = 7 ∧ is = false ∧ J = [] ∧ J' = []) ∨ (r = 0 ∧ is = true ∧ ∃ j, J = j :: J' ∧ d1 = 0 ∧ d2 = j.cost ∧ d3 = j.at_) ∨ (r = 0 ∧ is = false ∧ ∃ j l wn, J = j :: l ∧ J' = ⟨j.cost, j.at_, wn⟩ :: l)) := by
  cases J with
  | nil => exact ⟨[], 0, 0, 0, false, 7, Lt.run_none hI _, .inl ⟨rfl, rfl, rfl, rfl⟩⟩
  | cons j l =>
    rcases Lt.run_some hI c with ⟨q, rfl, _, hr⟩ | ⟨q, rfl, hr⟩
    · exact ⟨l, _, _, _, _, _, hr, .inr (.inl ⟨rfl, rfl, j, rfl, rfl, rfl, rfl⟩)⟩
    · exact ⟨_, _, _, _, _, _, hr, .inr (.inr ⟨rfl, rfl, j, l, _, rfl, rfl⟩)⟩
end Vg
namespace Go.Proofs.Ytiinhofmhoplfaa
open Go.ChangeShapes Go.WideShapes Go.ChangeAt Go.RowKit
section
variable {w w' w0 : World} {b n k : Nat} {K K' : List Vg.Kt} {M M' : List Vg.Mx} {S S' : Nat → Prop} {P P' : World → Prop} {r x d1 d2 d3 m c : Int} {is : Bool} {wx W w3 : World} {o o1 : Obj}
theorem KY.l1 (hy : KY w0 wx W w3 b K M S) (o : Obj) : KZ w0 (w3.alloc o) b K M S ∧ Vg.Kept S wx (w3.alloc o) ∧ Vg.blk (w3.alloc o) w3.heap.size = some o := by
  have hg : Vg.Grows w3 (w3.alloc o) := (Vg.Grows.refl w3).alloc o
  have hz := hy.kz.mono (S' := S) fun k hk => .inl hk
  exact ⟨hz.grows hg, hy.kp.trans (Vg.kept_grows hg hz.lt), Vg.alloc_heap_at rfl⟩
theorem KY.l2 {d : Nat} (hy : KY w0 wx W w3 b K M S) (o : Obj) (hd : wx.heap.size ≤ d) (hw : w0.heap.size ≤ wx.heap.size) (h1 : Vg.blk w3 d = some o1) (hd2 : d < W.heap.size) (hS : ∀ k, S k → k < wx.heap.size) : KZ w0 (Vg.put w3 d o) b K M S ∧ Vg.Kept S wx (Vg.put w3 d o) ∧ Vg.blk (Vg.put w3 d o) d = some o := by
  have ht : Vg.Touch (fun k => k = d) w3 (Vg.put w3 d o) := Vg.Touch.put (t := fun k => k = d) (Vg.Touch.refl _ _) rfl o
  have hne : ∀ k, S k → d ≠ k := fun k hk hh => by have := hS k hk; omega
  refine ⟨(hy.kz.other ht (fun k hk => .inr (by omega)) (ht.gr hy.kz.gr fun k hk => by omega) fun k hk => ⟨.inl hk, ?_⟩).mono fun k hk => .inl hk, hy.kp.trans ⟨ht.size, fun k hk => Vg.put_heap_other (hne k hk)⟩, Vg.put_heap_same (Vg.lt_of h1)⟩
  rw [Vg.put_size]
  exact hy.kz.lt k hk
theorem KX.leaf1 (h : KX w0 wx b K M S P) (hy : KY w0 wx W w3 b K' M' S) (o : Obj) : KX w0 (w3.alloc o) b K' M' S P ∧ Vg.blk (w3.alloc o) w3.heap.size = some o :=
  ⟨h.next (hy.l1 o).1 (hy.l1 o).2.1, (hy.l1 o).2.2⟩
theorem KX.mid2 {y : Array Obj} {mm : Nat} (h : KX w0 wx b K M S P) (hy : KY w0 wx ((Vg.plus wx y mm).alloc o1) w3 b K' M' S) (o : Obj) : KX w0 (Vg.put w3 (wx.heap.size + Vg.sz y) o) b K' M' S P ∧ Vg.blk (Vg.put w3 (wx.heap.size + Vg.sz y) o) (wx.heap.size + Vg.sz y) = some o := by
  have := hy.l2 o (Nat.le_add_right _ _) h.gr.size hy.mid (by rw [World.size_alloc, Vg.plus_size]; omega) h.kz.lt
  exact ⟨h.next this.1 this.2.1, this.2.2⟩
theorem KX.pre2 {y : Array Obj} {mm : Nat} (h : KX w0 wx b K M S P) (hy : KY w0 wx (Vg.plus (wx.alloc o1) y mm) w3 b K' M' S) (o : Obj) : KX w0 (Vg.put w3 wx.heap.size o) b K' M' S P ∧ Vg.blk (Vg.put w3 wx.heap.size o) wx.heap.size = some o := by
  have := hy.l2 o (Nat.le_refl _) h.gr.size hy.pre (by rw [Vg.plus_size, World.size_alloc]; omega) h.kz.lt
  exact ⟨h.next this.1 this.2.1, this.2.2⟩
/-- What TopLetters keeps beside its kern: a box of letters, and the row of what was posted. -/
def LTs (mb mg : Nat) (va : Value) (k : Nat) : Prop := k = mb ∨ k = mg ∨ va.ownBlock = some k
structure LTp (w0 : World) (mb mg depth Z : Nat) (s : Vg.Bx) (va : Value) (L : List Int) (w : World) : Prop where
  bx : BX w mb mg depth s
  q : Vg.Que w Z 2 1 va L.length (Vg.ics L)
  ne : mb ≠ mg
  lo : w0.heap.size ≤ mb ∧ w0.heap.size ≤ mg ∧ mb < Z ∧ mg < Z ∧ w0.heap.size ≤ Z ∧ Z ≤ w.heap.size
abbrev LT (w0 w : World) (b : Nat) (K : List Vg.Kt) (M : List Vg.Mx) (mb mg depth Z : Nat) (s : Vg.Bx) (va : Value) (L : List Int) : Prop := KX w0 w b K M (LTs mb mg va) (LTp w0 mb mg depth Z s va L)
variable {mb mg depth Z : Nat} {s : Vg.Bx} {va v2 : Value} {L L2 : List Int}
theorem LTp.dep : ∀ w w', Vg.Kept (LTs mb mg va) w w' → LTp w0 mb mg depth Z s va L w → LTp w0 mb mg depth Z s va L w' := fun w w' hk h =>
  ⟨h.bx.kept (hk.block _ (.inl rfl)) (hk.block _ (.inr (.inl rfl))), h.q.kept fun k hv => hk.block k (.inr (.inr hv)), h.ne, h.lo.1, h.lo.2.1, h.lo.2.2.1, h.lo.2.2.2.1, h.lo.2.2.2.2.1, Nat.le_trans h.lo.2.2.2.2.2 hk.size⟩
theorem LTp.ge (h : LTp w0 mb mg depth Z s va L w) : ∀ k, LTs mb mg va k → w0.heap.size ≤ k := by
  have hl := h.lo
  rintro k (rfl | rfl | hk)
  · omega
  · omega
  · have := (h.q.lt k hk).1; omega
/-- The box alone has changed. -/
theorem LT.box {s' : Vg.Bx} (h : LT w0 w b K M mb mg depth Z s va L) (hb : BX w' mb mg depth s') (ht : Vg.Touch (fun k => k = mb ∨ k = mg) w w') : LT w0 w' b K M mb mg depth Z s' va L := by
  have hl := h.p.lo
  refine h.change ht (fun k hk => ?_) (fun k hk => by omega) (fun k hk => ⟨.inl hk, Nat.lt_of_lt_of_le (h.kz.lt k hk) ht.size⟩) ⟨hb, h.p.q.kept fun k hv => ht.block k (h.p.q.lt k hv).2 fun hh => by have := (h.p.q.lt k hv).1; omega, h.p.ne, hl.1, hl.2.1, hl.2.2.1, hl.2.2.2.1, hl.2.2.2.2.1, Nat.le_trans hl.2.2.2.2.2 ht.size⟩ LTp.dep
  rcases hk with hk | hk
  · exact .inl hk
  · exact .inr (.inl hk)
/-- The row alone has changed: an append. -/
theorem LT.app {W1 : World} {y : Array Obj} {mm z : Nat} (h : LT w0 w b K M mb mg depth Z s va L) (hg : Vg.Grows w w') (hs : Vg.Same (fun j => va.ownBlock = some j) w' W1) (hq : Vg.Que (Vg.plus W1 y mm) Z 2 1 v2 L2.length (Vg.ics L2)) (ho : v2.ownBlock = va.ownBlock ∨ v2.ownBlock = some z) (hz : w.heap.size ≤ z) :
    LT w0 (Vg.plus W1 y mm) b K M mb mg depth Z s v2 L2 := by
  have hl := h.p.lo
  have ht : Vg.Touch (fun j => va.ownBlock = some j) w (Vg.plus W1 y mm) := ((Vg.Touch.of_grows hg).trans (Vg.Touch.of_same hs)).trans (Vg.Touch.of_grows ((Vg.Grows.refl W1).plus y mm))
  have hno : ∀ k, k < Z → ¬ va.ownBlock = some k := fun k hk hh => by have := (h.p.q.lt k hh).1; omega
  have hbl := h.p.bx.lt
  have hgl := h.p.bx.ltg
  refine h.change ht (fun k hk => .inr (.inr hk)) (fun k hk => by have := (h.p.q.lt k hk).1; omega) (fun k hk => ?_) ⟨h.p.bx.touch ht (hno mb (by omega)) (hno mg (by omega)), hq, h.p.ne, hl.1, hl.2.1, hl.2.2.1, hl.2.2.2.1, hl.2.2.2.2.1, Nat.le_trans hl.2.2.2.2.2 ht.size⟩ LTp.dep
  rcases hk with rfl | rfl | hk
  · exact ⟨.inl (.inl rfl), Nat.lt_of_lt_of_le hbl ht.size⟩
  · exact ⟨.inl (.inr (.inl rfl)), Nat.lt_of_lt_of_le hgl ht.size⟩
  · refine ⟨?_, (hq.lt k hk).2⟩
    rcases ho with h1 | h1
    · exact .inl (.inr (.inr (h1.symm.trans hk)))
    · have := Option.some.inj (hk.symm.trans h1)
      exact .inr (by omega)
theorem KZ.base {W1 : World} (h : KZ W1 w b K M (fun _ => False)) (hg : Vg.Grows w0 W1) (hS : ∀ k, S k → k < W1.heap.size) : KZ w0 w b K M S := by
  obtain ⟨⟨xs, rv, cb, cv, h1, h2, h3⟩, h4, h5, h6⟩ := h
  exact ⟨⟨xs, rv, cb, cv, h1, h2, fun k hk hh => by have := (h1.own k hh).1; have := hS k hk; omega⟩, hg.trans h4, Nat.le_trans hg.size h5, fun k hk => Nat.lt_of_lt_of_le (hS k hk) h4.size⟩
theorem LT.start {W1 : World} {room : Int} (hb : BX W1 mb mg depth ⟨[], 0⟩) (hne : mb ≠ mg) (hg : Vg.Grows w0 W1) (h1 : w0.heap.size ≤ mb) (h2 : w0.heap.size ≤ mg) (h : KZ W1 w b K M (fun _ => False)) : LT w0 w b K M mb mg depth w.heap.size ⟨[], 0⟩ (.slice none 0 0) [] := by
  have hs : ∀ k, LTs mb mg (.slice none 0 0) k → k < W1.heap.size := by
    rintro k (rfl | rfl | hk)
    · exact hb.lt
    · exact hb.ltg
    · simp [Value.ownBlock] at hk
  have hz := h.gr.size
  have l1 := hb.lt
  have l2 := hb.ltg
  have l3 := hg.size
  exact ⟨h.base hg hs, ⟨hb.grows h.gr, by simpa using Vg.Que.nil _ _ _ _, hne, h1, h2, by omega, by omega, by omega, Nat.le_refl _⟩, LTp.dep⟩
theorem lt_post (x : Int) (h : LT w0 w b K M mb mg depth Z s va L) (hl : 0 ≤ s.lost ∧ s.lost ≤ 4611686018427387904) :
    Calls Try.prog 84 #[.pointer (some ⟨mb, 0, none⟩), .int .i64 x] w fun e w' => e = .returned (.int .i64 (s.post depth x).2) ∧ LT w0 w' b K M mb mg depth Z (s.post depth x).1 va L := by
  refine (bx_post x h.p.bx h.p.ne hl).mono ?_
  rintro e w' ⟨rfl, hb, ht⟩
  exact ⟨rfl, h.box hb ht⟩
theorem lt_fetch (h : LT w0 w b K M mb mg depth Z s va L) :
    Calls Try.prog 86 #[.pointer (some ⟨mb, 0, none⟩)] w fun e w' => e = .returned (.tuple #[.int .i64 s.fetch.2.1, .int .i64 s.fetch.2.2]) ∧ LT w0 w' b K M mb mg depth Z s.fetch.1 va L := by
  refine (bx_fetch h.p.bx h.p.ne).mono ?_
  rintro e w' ⟨rfl, hb, ht⟩
  exact ⟨rfl, h.box hb ht⟩
theorem lt_len (h : LT w0 w b K M mb mg depth Z s va L) : Calls Try.prog 85 #[.pointer (some ⟨mb, 0, none⟩)] w fun e w' => e = .returned (.int .i64 s.L.length) ∧ w = w' := bx_len h.p.bx
theorem lt_lost (h : LT w0 w b K M mb mg depth Z s va L) : Calls Try.prog 88 #[.pointer (some ⟨mb, 0, none⟩)] w fun e w' => e = .returned (.int .i64 s.lost) ∧ w = w' := bx_lost h.p.bx
end
end Go.Proofs.Ytiinhofmhoplfaa
