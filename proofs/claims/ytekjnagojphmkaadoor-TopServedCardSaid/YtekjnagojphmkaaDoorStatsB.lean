/- Stats: contracts of Add, Join, Mean and Of on both sides. -/
import Derived.Test.YtekjnagojphmkaaDoorStatsA
set_option linter.unusedSimpArgs false
set_option linter.unusedVariables false
set_option maxHeartbeats 400000
set_option maxRecDepth 20000
namespace Vg
open Go
def jcells : List Jb → List Value
  | [] => []
  | x :: l => .int .i64 x.t :: .int .i64 x.a :: .int .i64 x.r :: .int .i64 x.d :: .int .i64 x.l :: jcells l
theorem jcells_length : ∀ l : List Jb, (jcells l).length = l.length * 5
  | [] => rfl
  | x :: l => by simp [jcells, jcells_length l]; omega
theorem jcells_append : ∀ l m : List Jb, jcells (l ++ m) = jcells l ++ jcells m
  | [], m => rfl
  | x :: l, m => by simp [jcells, jcells_append l m]
theorem jcells_one : ∀ l : List Jb, ∀ u ∈ jcells l, u.oneCell' = true
  | [], u, h => by simp [jcells] at h
  | x :: l, u, h => by
    simp only [jcells, List.mem_cons] at h
    rcases h with rfl | rfl | rfl | rfl | rfl | h
    · rfl
    · rfl
    · rfl
    · rfl
    · rfl
    · exact jcells_one l u h
theorem jcells_get : ∀ (l : List Jb) (k : Nat) (h : k < l.length), (jcells l)[k * 5]? = some (.int .i64 l[k].t) ∧ (jcells l)[k * 5 + 1]? = some (.int .i64 l[k].a) ∧ (jcells l)[k * 5 + 2]? = some (.int .i64 l[k].r) ∧ (jcells l)[k * 5 + 3]? = some (.int .i64 l[k].d) ∧ (jcells l)[k * 5 + 4]? = some (.int .i64 l[k].l)
  | [], k, h => by simp at h
  | x :: l, 0, _ => by simp [jcells]
  | x :: l, k + 1, h => by
    have := jcells_get l k (by simpa using h)
    rw [show (k + 1) * 5 = k * 5 + 1 + 1 + 1 + 1 + 1 from by omega]
    simpa [jcells] using this
/-- The cells of one job of a list that reads. -/
theorem Reads.job {S : Nat} {w : World} {sa : Option Addr} {n c : Nat} {L : List Jb} (h : Reads S w (.slice sa n c) n (jcells L)) (k : Nat) (hk : k < L.length) :
    ∃ g off, sa = some ⟨g, off, none⟩ ∧ g < w.heap.size ∧ n ≤ c ∧ w.cell? ⟨g, off + k * 5, none⟩ = some (.int .i64 L[k].t) ∧ w.cell? ⟨g, off + k * 5 + 1, none⟩ = some (.int .i64 L[k].a) ∧ w.cell? ⟨g, off + k * 5 + 2, none⟩ = some (.int .i64 L[k].r) ∧
      w.cell? ⟨g, off + k * 5 + 3, none⟩ = some (.int .i64 L[k].d) ∧ w.cell? ⟨g, off + k * 5 + 4, none⟩ = some (.int .i64 L[k].l) := by
  obtain ⟨g, off, rfl, hg, hc, hm, hx⟩ := h.open (by rw [jcells_length]; omega)
  obtain ⟨g0, g1, g2, g3, g4⟩ := jcells_get L k hk
  have key : ∀ j v, k * 5 + j < (jcells L).length → (jcells L)[k * 5 + j]? = some v → w.cell? ⟨g, off + k * 5 + j, none⟩ = some v := fun j v hj hv => by
    have := hx (k * 5 + j) hj
    rw [← Nat.add_assoc] at this
    rw [this, ← hv, List.getElem?_eq_getElem]
  have hl := jcells_length L
  exact ⟨g, off, rfl, hg, hc, by simpa using key 0 _ (by omega) g0, key 1 _ (by omega) g1, key 2 _ (by omega) g2, key 3 _ (by omega) g3, key 4 _ (by omega) g4⟩
end Vg
namespace Go.Proofs.YtekjnagojphmkaaDoor
open Go.ChangeShapes Go.WideShapes Go.ChangeAt Go.RowKit
abbrev stC (x : Vg.St) : Obj := .cells #[.int .i64 x.j, .int .i64 x.m, .int .i64 x.w, .int .i64 x.s, .int .i64 x.l] 33
set_option maxHeartbeats 4000000 in
theorem stats_add (x : Vg.St) (y : Vg.Jb) (w : World) : Calls Tryd.prog 12 #[stV x, jbV y] w fun e w' => e = .returned (.tuple #[stV (x.add y).1, .int .i64 (x.add y).2]) ∧ Vg.Grows w w' := by
  by_cases h1 : x.OK
  · cases h2 : y.rb with
    | true =>
      have hck := Vg.St.ck_ok h1
      have hy := Vg.Jb.st_ok h2
      cases h3 : x.fit y.st with
      | true =>
        have e : x.add y = (x.jo y.st, 0) := by unfold Vg.St.add; rw [if_pos ⟨h1, h2⟩, if_pos h3]
        rw [e]
        have H_e := Lib.hid e; clear e; have H_hck := Lib.hid hck; clear hck; have H_h1 := Lib.hid h1; clear h1; have H_h2 := Lib.hid h2; clear h2; have H_h3 := Lib.hid h3; clear h3; have H_hy := Lib.hid hy; clear hy
        go_enter Tryd.func12, Tryd.ntmps12
        go_wp2_with (first | (go_at_call 38; (with_reducible refine (stats_check x _).mono ?_); rintro e w1 ⟨rfl, xa, na, rfl⟩; rw [H_hck.out]) | (go_at_call 39; (with_reducible refine (stats_right y _).mono ?_); rintro e w1 ⟨rfl, xb, nb, rfl⟩; rw [H_h2.out]))
        go_region_held3 (fun w' => Vg.Grows w w' ∧ w.heap.size + 2 < w'.heap.size ∧ w'.cell? ⟨w.heap.size, 0, none⟩ = some (.int .i64 x.j) ∧ w'.cell? ⟨w.heap.size, 1, none⟩ = some (.int .i64 x.m) ∧ w'.cell? ⟨w.heap.size, 2, none⟩ = some (.int .i64 x.w) ∧ w'.cell? ⟨w.heap.size, 3, none⟩ = some (.int .i64 x.s) ∧ w'.cell? ⟨w.heap.size, 4, none⟩ = some (.int .i64 x.l) ∧ w'.cell? ⟨w.heap.size + 1, 0, none⟩ = some (.int .i64 y.t) ∧ w'.cell? ⟨w.heap.size + 1, 1, none⟩ = some (.int .i64 y.a) ∧ w'.cell? ⟨w.heap.size + 1, 2, none⟩ = some (.int .i64 y.r) ∧ w'.cell? ⟨w.heap.size + 1, 3, none⟩ = some (.int .i64 y.d) ∧ w'.cell? ⟨w.heap.size + 1, 4, none⟩ = some (.int .i64 y.l) ∧ w'.cell? ⟨w.heap.size + 1 + 1, 0, none⟩ = some (.int .i64 0) ∧ w'.frozen? ⟨w.heap.size + 1 + 1, 0, none⟩ = false)
          ((go_split_ands; (try dsimp only); refine ⟨by (repeat' (first | (with_reducible exact Vg.Grows.refl _) | (with_reducible assumption) | (with_reducible refine Vg.Grows.alloc ?_ _) | (with_reducible refine Vg.Grows.plus ?_ _ _) | (with_reducible refine Vg.Grows.drewN ?_ _) | (with_reducible refine Vg.Grows.drew ?_) | (with_reducible refine Vg.Grows.setCell ?_ ?_ _) | (with_reducible refine Vg.Grows.put ?_ ?_ _) | omega | (simp; omega) | (simp; done))), ?_⟩; go_simp))
          (first | (go_at_call 41; (with_reducible refine (stats_of y _ H_h2.out).mono ?_); rintro e w1 ⟨rfl, xc, nc, rfl⟩) | (go_at_call 40; (with_reducible refine (stats_jo x y.st _ H_h1.out H_hy.out).mono ?_); rintro e w1 ⟨rfl, xd, nd, rfl⟩; rw [H_h3.out]))
        all_goals go_wp2
        all_goals go_returns
        all_goals exact ⟨rfl, by (repeat' (first | (with_reducible exact Vg.Grows.refl _) | (with_reducible assumption) | (with_reducible refine Vg.Grows.alloc ?_ _) | (with_reducible refine Vg.Grows.plus ?_ _ _) | (with_reducible refine Vg.Grows.drewN ?_ _) | (with_reducible refine Vg.Grows.drew ?_) | (with_reducible refine Vg.Grows.setCell ?_ ?_ _) | (with_reducible refine Vg.Grows.put ?_ ?_ _) | omega | (simp; omega) | (simp; done)))⟩
      | false =>
        have e : x.add y = (x, 10) := by unfold Vg.St.add; rw [if_pos ⟨h1, h2⟩, if_neg (by rw [h3]; simp)]
        rw [e]
        have H_e := Lib.hid e; clear e; have H_hck := Lib.hid hck; clear hck; have H_h1 := Lib.hid h1; clear h1; have H_h2 := Lib.hid h2; clear h2; have H_h3 := Lib.hid h3; clear h3; have H_hy := Lib.hid hy; clear hy
        go_enter Tryd.func12, Tryd.ntmps12
        go_wp2_with (first | (go_at_call 38; (with_reducible refine (stats_check x _).mono ?_); rintro e w1 ⟨rfl, xa, na, rfl⟩; rw [H_hck.out]) | (go_at_call 39; (with_reducible refine (stats_right y _).mono ?_); rintro e w1 ⟨rfl, xb, nb, rfl⟩; rw [H_h2.out]))
        go_region_held3 (fun w' => Vg.Grows w w' ∧ w.heap.size + 2 < w'.heap.size ∧ w'.cell? ⟨w.heap.size, 0, none⟩ = some (.int .i64 x.j) ∧ w'.cell? ⟨w.heap.size, 1, none⟩ = some (.int .i64 x.m) ∧ w'.cell? ⟨w.heap.size, 2, none⟩ = some (.int .i64 x.w) ∧ w'.cell? ⟨w.heap.size, 3, none⟩ = some (.int .i64 x.s) ∧ w'.cell? ⟨w.heap.size, 4, none⟩ = some (.int .i64 x.l) ∧ w'.cell? ⟨w.heap.size + 1, 0, none⟩ = some (.int .i64 y.t) ∧ w'.cell? ⟨w.heap.size + 1, 1, none⟩ = some (.int .i64 y.a) ∧ w'.cell? ⟨w.heap.size + 1, 2, none⟩ = some (.int .i64 y.r) ∧ w'.cell? ⟨w.heap.size + 1, 3, none⟩ = some (.int .i64 y.d) ∧ w'.cell? ⟨w.heap.size + 1, 4, none⟩ = some (.int .i64 y.l) ∧ w'.cell? ⟨w.heap.size + 1 + 1, 0, none⟩ = some (.int .i64 0) ∧ w'.frozen? ⟨w.heap.size + 1 + 1, 0, none⟩ = false)
          ((go_split_ands; (try dsimp only); refine ⟨by (repeat' (first | (with_reducible exact Vg.Grows.refl _) | (with_reducible assumption) | (with_reducible refine Vg.Grows.alloc ?_ _) | (with_reducible refine Vg.Grows.plus ?_ _ _) | (with_reducible refine Vg.Grows.drewN ?_ _) | (with_reducible refine Vg.Grows.drew ?_) | (with_reducible refine Vg.Grows.setCell ?_ ?_ _) | (with_reducible refine Vg.Grows.put ?_ ?_ _) | omega | (simp; omega) | (simp; done))), ?_⟩; go_simp))
          (first | (go_at_call 41; (with_reducible refine (stats_of y _ H_h2.out).mono ?_); rintro e w1 ⟨rfl, xc, nc, rfl⟩) | (go_at_call 40; (with_reducible refine (stats_jo x y.st _ H_h1.out H_hy.out).mono ?_); rintro e w1 ⟨rfl, xd, nd, rfl⟩; rw [H_h3.out]))
        all_goals go_wp2
        all_goals go_returns
        all_goals exact ⟨rfl, by (repeat' (first | (with_reducible exact Vg.Grows.refl _) | (with_reducible assumption) | (with_reducible refine Vg.Grows.alloc ?_ _) | (with_reducible refine Vg.Grows.plus ?_ _ _) | (with_reducible refine Vg.Grows.drewN ?_ _) | (with_reducible refine Vg.Grows.drew ?_) | (with_reducible refine Vg.Grows.setCell ?_ ?_ _) | (with_reducible refine Vg.Grows.put ?_ ?_ _) | omega | (simp; omega) | (simp; done)))⟩
    | false =>
      have hck := Vg.St.ck_ok h1
      have e : x.add y = (⟨0, 0, 0, 0, 0⟩, 2) := by unfold Vg.St.add; rw [if_neg (by rw [h2]; simp)]; rfl
      rw [e]
      have H_e := Lib.hid e; clear e; have H_hck := Lib.hid hck; clear hck; have H_h1 := Lib.hid h1; clear h1; have H_h2 := Lib.hid h2; clear h2
      go_enter Tryd.func12, Tryd.ntmps12
      go_wp2_with (first | (go_at_call 38; (with_reducible refine (stats_check x _).mono ?_); rintro e w1 ⟨rfl, xa, na, rfl⟩; rw [H_hck.out]) | (go_at_call 39; (with_reducible refine (stats_right y _).mono ?_); rintro e w1 ⟨rfl, xb, nb, rfl⟩; rw [H_h2.out]))
      go_returns
      exact ⟨rfl, by (repeat' (first | (with_reducible exact Vg.Grows.refl _) | (with_reducible assumption) | (with_reducible refine Vg.Grows.alloc ?_ _) | (with_reducible refine Vg.Grows.plus ?_ _ _) | (with_reducible refine Vg.Grows.drewN ?_ _) | (with_reducible refine Vg.Grows.drew ?_) | (with_reducible refine Vg.Grows.setCell ?_ ?_ _) | (with_reducible refine Vg.Grows.put ?_ ?_ _) | omega | (simp; omega) | (simp; done)))⟩
  · have hck := Vg.St.ck_no h1
    have e : x.add y = (⟨0, 0, 0, 0, 0⟩, 2) := by unfold Vg.St.add; rw [if_neg (fun h => h1 h.1)]; rfl
    rw [e]
    have H_e := Lib.hid e; clear e; have H_hck := Lib.hid hck; clear hck; have H_h1 := Lib.hid h1; clear h1
    go_enter Tryd.func12, Tryd.ntmps12
    go_wp2_with ((go_at_call 38; (with_reducible refine (stats_check x _).mono ?_); rintro e w1 ⟨rfl, xa, na, rfl⟩; rw [H_hck.out]))
    go_returns
    exact ⟨rfl, by (repeat' (first | (with_reducible exact Vg.Grows.refl _) | (with_reducible assumption) | (with_reducible refine Vg.Grows.alloc ?_ _) | (with_reducible refine Vg.Grows.plus ?_ _ _) | (with_reducible refine Vg.Grows.drewN ?_ _) | (with_reducible refine Vg.Grows.drew ?_) | (with_reducible refine Vg.Grows.setCell ?_ ?_ _) | (with_reducible refine Vg.Grows.put ?_ ?_ _) | omega | (simp; omega) | (simp; done)))⟩
end Go.Proofs.YtekjnagojphmkaaDoor
