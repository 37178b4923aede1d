/- TopServed, in plain words. No program here. -/
import Derived.Test.YtekjnagojphmkaaDoorIrqH
import Derived.Test.YtekjnagojphmkaaDoorStatsB
set_option linter.unusedSimpArgs false
set_option linter.unusedVariables false
set_option maxHeartbeats 2000000
namespace Vg
open Go
def isum : List Int → Int
  | [] => 0
  | x :: l => x + isum l
theorem isum_set : ∀ (l : List Int) (i : Nat) (v x : Int), l[i]? = some v → isum (l.set i x) = isum l - v + x
  | [], i, v, x, h => by simp at h
  | y :: l, 0, v, x, h => by simp at h; subst h; simp [isum]; omega
  | y :: l, i + 1, v, x, h => by
    have := isum_set l i v x (by simpa using h)
    simp [isum, this]; omega
/-- A line's lot: what Raise took and lost, when it was begun, how many were served. -/
structure Lr where
  y : Ln
  r : Int
  w : List Int
  b : Int
  v : Int
theorem isum_vr : ∀ (X : List Lr), (∀ x ∈ X, x.v ≤ x.r) → isum (X.map Lr.v) ≤ isum (X.map Lr.r)
  | [], _ => Int.le_refl _
  | x :: X, h => by
    have h1 := h x (by simp)
    have h2 := isum_vr X fun y hy => h y (by simp [hy])
    simp only [List.map_cons, isum]; omega
theorem isum_v0 : ∀ (X : List Lr), (∀ x ∈ X, 0 ≤ x.v) → 0 ≤ isum (X.map Lr.v)
  | [], _ => Int.le_refl _
  | x :: X, h => by
    have h1 := h x (by simp)
    have h2 := isum_v0 X fun y hy => h y (by simp [hy])
    simp only [List.map_cons, isum]; omega
theorem isum_take : ∀ (l : List Int) (i : Nat) (x : Int), l[i]? = some x → isum (l.take (i + 1)) = isum (l.take i) + x
  | [], i, x, h => by simp at h
  | y :: l, 0, x, h => by simp at h; subst h; simp [isum]
  | y :: l, i + 1, x, h => by
    have := isum_take l i x (by simpa using h)
    simp only [List.take_succ_cons, isum, this]; omega
structure Sp where
  c : Ic
  S : List Bg
  last : Int
  X : List Lr
  st : St
  now : Int
def Sp.s (P : Sp) : Iq := ⟨P.c, P.X.map Lr.y, P.S, P.last⟩
def b01 (p : Prop) [Decidable p] : Int := if p then 1 else 0
theorem b01_y {p : Prop} [Decidable p] (h : p) : b01 p = 1 := if_pos h
theorem b01_n {p : Prop} [Decidable p] (h : ¬ p) : b01 p = 0 := if_neg h
theorem b01_bd {p : Prop} [Decidable p] : 0 ≤ b01 p ∧ b01 p ≤ 1 := by unfold b01; split <;> omega
def Sp.ks (S : List Bg) : List Nat := S.map (·.k)
structure LI (pe : Nat) (S : List Bg) (now : Int) (i : Nat) (x : Lr) : Prop where
  wl : (x.w.length : Int) = x.y.srv + b01 (pe.testBit i = true)
  rl : (x.w.length : Int) + x.y.lost = x.r
  sv : x.y.srv = x.v + b01 (i ∈ Sp.ks S)
  tp : pe.testBit i = true → x.w.getLast? = some x.y.top
  el : ∀ e ∈ x.w, 1 ≤ e ∧ e ≤ 1000
  v0 : 0 ≤ x.v
  l0 : 0 ≤ x.y.lost
  b0 : 0 ≤ x.b ∧ x.b ≤ now
  stk : ∀ z ∈ S, z.k = i → 1 ≤ z.left ∧ ∃ e, x.w[x.v.toNat]? = some e ∧ z.left ≤ e ∧ e - z.left ≤ now - x.b
theorem LI.vr {pe : Nat} {S : List Bg} {now : Int} {i : Nat} {x : Lr} (h : LI pe S now i x) : x.v ≤ x.r := by
  have h1 := h.wl
  have h2 := h.rl
  have h3 := h.sv
  have h4 := h.l0
  have h5 := b01_bd (p := pe.testBit i = true)
  have h6 := b01_bd (p := i ∈ Sp.ks S)
  omega
theorem LI.later {pe : Nat} {S : List Bg} {now now' : Int} {i : Nat} {x : Lr} (h : LI pe S now i x) (hn : now ≤ now') : LI pe S now' i x :=
  ⟨h.wl, h.rl, h.sv, h.tp, h.el, h.v0, h.l0, ⟨h.b0.1, by have := h.b0.2; omega⟩, fun z hz hk => by
    obtain ⟨h1, e, h2, h3, h4⟩ := h.stk z hz hk
    exact ⟨h1, e, h2, h3, by omega⟩⟩
structure Sp.I (N q : Nat) (P : Sp) : Prop where
  len : P.X.length = N
  pe64 : P.c.pe < 18446744073709551616
  n64 : N ≤ 64
  cst : P.c.st = Sp.ks P.S
  nd : (Sp.ks P.S).Nodup
  pin : ∀ i, P.c.pe.testBit i = true → i < N
  kin : ∀ z ∈ P.S, z.k < N
  line : ∀ i x, P.X[i]? = some x → LI P.c.pe P.S P.now i x
  sj : P.st.j = isum (P.X.map Lr.v)
  sm : P.st.m = 0
  sok : P.st.OK
  ss : P.st.s ≤ P.st.j * 20000
  rq : isum (P.X.map Lr.r) ≤ q
  n0 : 0 ≤ P.now
  la : P.last ≤ P.now
theorem get_set {α : Type} {l : List α} {i j : Nat} {x z : α} (hl : i < l.length) (hh : (l.set i x)[j]? = some z) : (j = i ∧ z = x) ∨ (j ≠ i ∧ l[j]? = some z) := by
  rw [List.getElem?_set] at hh
  by_cases hji : i = j
  · subst hji
    rw [if_pos rfl, if_pos hl] at hh
    exact .inl ⟨rfl, (Option.some.inj hh).symm⟩
  · rw [if_neg hji] at hh
    exact .inr ⟨fun e => hji e.symm, hh⟩
theorem map_get {α β : Type} {l : List α} {i : Nat} {x : α} {f : α → β} (h : l[i]? = some x) : (l.map f)[i]? = some (f x) := by rw [List.getElem?_map, h]; rfl
section
variable {N q : Nat} {P : Sp}
theorem Sp.I.mem (h : P.I N q) {x : Lr} (hx : x ∈ P.X) : ∃ i, LI P.c.pe P.S P.now i x := by
  obtain ⟨i, hi⟩ := List.mem_iff_getElem?.1 hx
  exact ⟨i, h.line i x hi⟩
theorem Sp.I.jq (h : P.I N q) : 0 ≤ P.st.j ∧ P.st.j ≤ q := by
  have h1 := isum_vr P.X fun x hx => by obtain ⟨i, hi⟩ := h.mem hx; exact hi.vr
  have h3 := h.sj
  have h4 := h.rq
  have h5 := isum_v0 P.X fun x hx => by obtain ⟨i, hi⟩ := h.mem hx; exact hi.v0
  omega
theorem Sp.I.at (h : P.I N q) {i : Nat} (hi : i < N) : ∃ x, P.X[i]? = some x := ⟨_, List.getElem?_eq_getElem (by rw [h.len]; exact hi)⟩
/-- Nothing but masks, and which lines are let by, has changed. -/
theorem Sp.I.calm {now : Int} {s' : Iq} (h : P.I N q) (hc : Iq.Calm now P.s s') (hl : s'.last ≤ P.now) : ∃ P' : Sp, P'.I N q ∧ P'.s = s' ∧ P'.st = P.st ∧ P'.now = P.now ∧ P'.X.map Lr.r = P.X.map Lr.r ∧ P'.X.map Lr.w = P.X.map Lr.w ∧ P'.X.map Lr.b = P.X.map Lr.b ∧ P'.X.map Lr.v = P.X.map Lr.v := by
  obtain ⟨c', ls', S', la'⟩ := s'
  have hS : S' = P.S := hc.S
  have hpe : c'.pe = P.c.pe := hc.pe
  have hst : c'.st = P.c.st := hc.st
  subst hS
  obtain ⟨X', hX'⟩ : ∃ X', List.zipWith (fun (x : Lr) y => ({ x with y := y } : Lr)) P.X ls' = X' := ⟨_, rfl⟩
  have hlen : P.X.length = ls'.length := by have := hc.ls.1; simpa [Sp.s] using this
  have hget : ∀ (i : Nat) (x' : Lr), X'[i]? = some x' → ∃ x : Lr, P.X[i]? = some x ∧ Told now x.y x'.y ∧ x' = { x with y := x'.y } := fun i x' hx' => by
    rw [← hX', List.getElem?_zipWith] at hx'
    rcases Nat.lt_or_ge i P.X.length with hi | hi
    · have hi2 : i < ls'.length := by omega
      rw [List.getElem?_eq_getElem hi, List.getElem?_eq_getElem hi2] at hx'
      have hx' := (Option.some.inj hx').symm
      refine ⟨P.X[i], List.getElem?_eq_getElem hi, ?_, ?_⟩
      · have h9 := hc.ls.2 i (by simpa [Sp.s] using hi) hi2
        rw [hx']
        simpa [Sp.s] using h9
      · rw [hx']
    · rw [List.getElem?_eq_none hi] at hx'
      simp at hx'
  have hmap : ∀ {β : Type} (f : Lr → β), (∀ (x : Lr) y, f { x with y := y } = f x) → X'.map f = P.X.map f := fun f hf => by
    rw [← hX']
    apply List.ext_getElem
    · simp [hlen]
    · intro i h1 h2
      simp [hf]
  refine ⟨⟨c', P.S, la', X', P.st, P.now⟩, ⟨by show X'.length = N; rw [← hX', List.length_zipWith, ← hlen, Nat.min_self]; exact h.len, by show c'.pe < _; rw [hpe]; exact h.pe64, h.n64, by show c'.st = _; rw [hst]; exact h.cst, h.nd, fun i hi => h.pin i (by rw [← hpe]; exact hi), h.kin, fun i x' hx' => ?_, ?_, h.sm, h.sok, h.ss, ?_, h.n0, hl⟩, ?_, rfl, rfl, hmap _ fun _ _ => rfl, hmap _ fun _ _ => rfl, hmap _ fun _ _ => rfl, hmap _ fun _ _ => rfl⟩
  · obtain ⟨x, hx, ht, he⟩ := hget i x' hx'
    obtain ⟨e1, e2, e3, e4, e5, e6⟩ := ht.srv
    have hL := h.line i x hx
    rw [he]
    show LI c'.pe P.S P.now i _
    rw [hpe]
    exact ⟨by rw [e1]; exact hL.wl, by rw [e4]; exact hL.rl, by rw [e1]; exact hL.sv, fun hh => by rw [e2]; exact hL.tp hh, hL.el, hL.v0, by rw [e4]; exact hL.l0, hL.b0, hL.stk⟩
  · show P.st.j = isum (X'.map _)
    rw [hmap _ fun _ _ => rfl]; exact h.sj
  · show isum (X'.map _) ≤ _
    rw [hmap _ fun _ _ => rfl]; exact h.rq
  · show (⟨c', X'.map Lr.y, P.S, la'⟩ : Iq) = _
    congr 1
    rw [← hX']
    apply List.ext_getElem
    · simp [hlen]
    · intro i h1 h2
      simp
theorem Sp.I.wait (h : P.I N q) {n : Int} (hn : 0 ≤ n) : Sp.I N q { P with now := P.now + n } :=
  ⟨h.len, h.pe64, h.n64, h.cst, h.nd, h.pin, h.kin, fun i x hx => (h.line i x hx).later (by show P.now ≤ P.now + n; omega), h.sj, h.sm, h.sok, h.ss, h.rq, by show 0 ≤ P.now + n; have := h.n0; omega, by show P.last ≤ P.now + n; have := h.la; omega⟩
theorem Sp.I.more (h : P.I N q) : P.I N (q + 1) := { h with rq := by have := h.rq; omega }
/-- A line that waits still is raised: it is lost. -/
theorem Sp.I.lose {i : Nat} {x : Lr} (h : P.I N q) (hx : P.X[i]? = some x) : Sp.I N (q + 1) { P with X := P.X.set i { x with y := { x.y with lost := x.y.lost + 1 }, r := x.r + 1 } } := by
  have hi := (List.getElem?_eq_some_iff.1 hx).1
  refine ⟨by show (P.X.set _ _).length = N; rw [List.length_set]; exact h.len, h.pe64, h.n64, h.cst, h.nd, h.pin, h.kin, fun j z hz => ?_, ?_, h.sm, h.sok, h.ss, ?_, h.n0, h.la⟩
  · rcases get_set hi hz with ⟨rfl, rfl⟩ | ⟨_, hz2⟩
    · have hL := h.line j x hx
      exact ⟨hL.wl, by have := hL.rl; simp only; omega, hL.sv, hL.tp, hL.el, hL.v0, by have := hL.l0; simp only; omega, hL.b0, hL.stk⟩
    · exact h.line j z hz2
  · show P.st.j = isum ((P.X.set _ _).map _)
    rw [List.map_set, isum_set _ _ x.v _ (map_get hx)]
    have := h.sj; simp only; omega
  · show isum ((P.X.set _ _).map _) ≤ _
    rw [List.map_set, isum_set _ _ x.r _ (map_get hx)]
    have := h.rq; simp only; omega
/-- A line is raised. -/
theorem Sp.I.rise {i : Nat} {x : Lr} {top : Int} (h : P.I N q) (hx : P.X[i]? = some x) (hp : P.c.pe.testBit i = false) (ht : 1 ≤ top ∧ top ≤ 1000) :
    Sp.I N (q + 1) { P with c := P.c.raise i, X := P.X.set i { x with y := { x.y with top := top, bot := 0 }, r := x.r + 1, w := x.w ++ [top] } } := by
  have hi := (List.getElem?_eq_some_iff.1 hx).1
  have hiN : i < N := by rw [← h.len]; exact hi
  have htb : ∀ j, (P.c.raise i).pe.testBit j = (P.c.pe.testBit j || decide (j = i)) := fun j => or_tb _ _ _
  refine ⟨by show (P.X.set _ _).length = N; rw [List.length_set]; exact h.len, or_lt h.pe64 (by have := h.n64; omega), h.n64, h.cst, h.nd, fun j hj => ?_, h.kin, fun j z hz => ?_, ?_, h.sm, h.sok, h.ss, ?_, h.n0, h.la⟩
  · have hj : (P.c.raise i).pe.testBit j = true := hj
    rw [htb] at hj
    by_cases hji : j = i
    · omega
    · simp [hji] at hj; exact h.pin j hj
  · show LI (P.c.raise i).pe P.S P.now j z
    rcases get_set hi hz with ⟨rfl, rfl⟩ | ⟨hji, hz2⟩
    · have hL := h.line j x hx
      have hbit : (P.c.raise j).pe.testBit j = true := by rw [htb]; simp
      have h1 := hL.wl
      rw [b01_n (by rw [hp]; simp)] at h1
      refine ⟨?_, ?_, hL.sv, fun _ => by simp, fun e he => ?_, hL.v0, hL.l0, hL.b0, fun z hz hk => ?_⟩
      · rw [b01_y hbit, List.length_append]; simp only [List.length_cons, List.length_nil]; omega
      · rw [List.length_append]; have := hL.rl; simp only [List.length_cons, List.length_nil]; omega
      · rcases List.mem_append.1 he with h9 | h9
        · exact hL.el e h9
        · simp at h9; rw [h9]; exact ht
      · obtain ⟨a1, e, a2, a3⟩ := hL.stk z hz hk
        refine ⟨a1, e, ?_, a3⟩
        rw [List.getElem?_append_left (List.getElem?_eq_some_iff.1 a2).1]; exact a2
    · have hL := h.line j z hz2
      have hbit : (P.c.raise i).pe.testBit j = P.c.pe.testBit j := by rw [htb]; simp [hji]
      exact ⟨by rw [hbit]; exact hL.wl, hL.rl, hL.sv, fun hh => hL.tp (by rw [← hbit]; exact hh), hL.el, hL.v0, hL.l0, hL.b0, hL.stk⟩
  · show P.st.j = isum ((P.X.set _ _).map _)
    rw [List.map_set, isum_set _ _ x.v _ (map_get hx)]
    have := h.sj; simp only; omega
  · show isum ((P.X.set _ _).map _) ≤ _
    rw [List.map_set, isum_set _ _ x.r _ (map_get hx)]
    have := h.rq; simp only; omega
/-- A line is begun to be served. -/
theorem Sp.I.begin {i : Nat} {x : Lr} {y' : Ln} {la : Int} (h : P.I N q) (hx : P.X[i]? = some x) (hp : P.c.pe.testBit i = true) (hk : i ∉ P.c.st) (he : Entered P.now x.y y') (hla : la ≤ P.now) :
    Sp.I N q { P with c := P.c.ack i, S := P.S ++ [⟨i, x.y.top, x.y.bot⟩], last := la, X := P.X.set i { x with y := { y' with srv := x.y.srv + 1 }, b := P.now } } := by
  have hi := (List.getElem?_eq_some_iff.1 hx).1
  have hiN : i < N := by rw [← h.len]; exact hi
  have hi64 : i < 64 := by have := h.n64; omega
  have htb : ∀ j, (P.c.ack i).pe.testBit j = (P.c.pe.testBit j && decide (j ≠ i)) := fun j => clr_tb h.pe64 hi64
  have hks : Sp.ks (P.S ++ [⟨i, x.y.top, x.y.bot⟩]) = Sp.ks P.S ++ [i] := by simp [Sp.ks]
  have hkn : i ∉ Sp.ks P.S := by rw [← h.cst]; exact hk
  obtain ⟨e1, e2, e3, rfl⟩ := he
  refine ⟨by show (P.X.set _ _).length = N; rw [List.length_set]; exact h.len, clr_lt h.pe64, h.n64, ?_, ?_, fun j hj => ?_, fun z hz => ?_, fun j z hz => ?_, ?_, h.sm, h.sok, h.ss, ?_, h.n0, hla⟩
  · show P.c.st ++ [i] = Sp.ks (P.S ++ [⟨i, x.y.top, x.y.bot⟩])
    rw [hks, h.cst]
  · show (Sp.ks (P.S ++ [⟨i, x.y.top, x.y.bot⟩])).Nodup
    rw [hks, List.nodup_append]
    refine ⟨h.nd, by simp, fun a ha b hb => ?_⟩
    simp at hb
    rw [hb]
    exact fun hh => hkn (by rw [← hh]; exact ha)
  · have hj : (P.c.ack i).pe.testBit j = true := hj
    rw [htb] at hj
    simp at hj
    exact h.pin j hj.1
  · rcases List.mem_append.1 hz with h9 | h9
    · exact h.kin z h9
    · simp at h9; rw [h9]; exact hiN
  · show LI (P.c.ack i).pe (P.S ++ [⟨i, x.y.top, x.y.bot⟩]) P.now j z
    rcases get_set hi hz with ⟨rfl, rfl⟩ | ⟨hji, hz2⟩
    · have hL := h.line j x hx
      have hbit : (P.c.ack j).pe.testBit j = false := by rw [htb]; simp
      have h1 := hL.wl
      rw [b01_y hp] at h1
      have h2 := hL.sv
      rw [b01_n hkn] at h2
      have hv0 := hL.v0
      have hlast := hL.tp hp
      refine ⟨?_, hL.rl, ?_, fun hh => absurd hh (by rw [hbit]; simp), hL.el, hL.v0, hL.l0, ⟨h.n0, Int.le_refl _⟩, fun z hz hk => ?_⟩
      · rw [b01_n (by rw [hbit]; simp)]; simp only; omega
      · rw [b01_y (by rw [hks]; simp)]; simp only; omega
      · rcases List.mem_append.1 hz with h9 | h9
        · exact absurd (List.mem_map.2 ⟨z, h9, hk⟩) hkn
        · simp at h9
          subst h9
          have hne : x.w ≠ [] := fun hh => by rw [hh] at hlast; simp at hlast
          have hlen : x.w.length = x.v.toNat + 1 := by omega
          have hg : x.w[x.v.toNat]? = some x.y.top := by
            rw [← hlast, List.getLast?_eq_getElem?]
            congr 1; omega
          have hm := List.mem_iff_getElem?.2 ⟨_, hg⟩
          exact ⟨(hL.el _ hm).1, x.y.top, hg, Int.le_refl _, by simp only; omega⟩
    · have hL := h.line j z hz2
      have hbit : (P.c.ack i).pe.testBit j = P.c.pe.testBit j := by rw [htb]; simp [hji]
      have hmem : (j ∈ Sp.ks (P.S ++ [⟨i, x.y.top, x.y.bot⟩])) ↔ j ∈ Sp.ks P.S := by rw [hks]; simp [hji]
      refine ⟨by rw [hbit]; exact hL.wl, hL.rl, ?_, fun hh => hL.tp (by rw [← hbit]; exact hh), hL.el, hL.v0, hL.l0, hL.b0, fun z' hz' hk => ?_⟩
      · have h2 := hL.sv
        by_cases hm : j ∈ Sp.ks P.S
        · rw [b01_y (hmem.2 hm)]; rw [b01_y hm] at h2; exact h2
        · rw [b01_n (fun hh => hm (hmem.1 hh))]; rw [b01_n hm] at h2; exact h2
      · rcases List.mem_append.1 hz' with h9 | h9
        · exact hL.stk z' h9 hk
        · simp at h9; rw [h9] at hk; exact absurd hk.symm hji
  · show P.st.j = isum ((P.X.set _ _).map _)
    rw [List.map_set, isum_set _ _ x.v _ (map_get hx)]
    have := h.sj; simp only; omega
  · show isum ((P.X.set _ _).map _) ≤ _
    rw [List.map_set, isum_set _ _ x.r _ (map_get hx)]
    have := h.rq; simp only; omega
/-- The last one goes on. -/
theorem Sp.I.go {L : List Bg} {z : Bg} {n : Int} (h : P.I N q) (hS : P.S = L ++ [z]) (h0 : 0 < n) (h1 : n < z.left) : Sp.I N q { P with S := L ++ [{ z with left := z.left - n }], now := P.now + n } := by
  have hks : Sp.ks (L ++ [{ z with left := z.left - n }]) = Sp.ks P.S := by rw [hS]; simp [Sp.ks]
  refine ⟨h.len, h.pe64, h.n64, ?_, ?_, h.pin, fun y hy => ?_, fun i x hx => ?_, h.sj, h.sm, h.sok, h.ss, h.rq, ?_, ?_⟩
  · show P.c.st = Sp.ks (L ++ _); rw [hks]; exact h.cst
  · show (Sp.ks (L ++ [{ z with left := z.left - n }])).Nodup; rw [hks]; exact h.nd
  · rcases List.mem_append.1 hy with h9 | h9
    · exact h.kin y (by rw [hS]; simp [h9])
    · simp at h9; rw [h9]; exact h.kin z (by rw [hS]; simp)
  · have hL := h.line i x hx
    show LI P.c.pe (L ++ [{ z with left := z.left - n }]) (P.now + n) i x
    refine ⟨hL.wl, hL.rl, ?_, hL.tp, hL.el, hL.v0, hL.l0, ⟨hL.b0.1, by have := hL.b0.2; omega⟩, fun y hy hk => ?_⟩
    · have := hL.sv; rw [← hks] at this; exact this
    · rcases List.mem_append.1 hy with h9 | h9
      · obtain ⟨a1, e, a2, a3, a4⟩ := hL.stk y (by rw [hS]; simp [h9]) hk
        exact ⟨a1, e, a2, a3, by omega⟩
      · simp at h9
        subst h9
        obtain ⟨a1, e, a2, a3, a4⟩ := hL.stk z (by rw [hS]; simp) hk
        exact ⟨by simp only; omega, e, a2, by simp only; omega, by simp only; omega⟩
  · show 0 ≤ P.now + n; have := h.n0; omega
  · show P.last ≤ P.now + n; have := h.la; omega
/-- The last one is done. -/
theorem Sp.I.done {L : List Bg} {z : Bg} {x : Lr} (h : P.I N q) (hS : P.S = L ++ [z]) (hx : P.X[z.k]? = some x) (hn : P.now + z.left ≤ 20000) (hq : q ≤ 1000000) :
    1 ≤ z.left ∧ (∃ e, x.w[x.v.toNat]? = some e ∧ 0 ≤ x.v ∧ x.v < x.w.length ∧ e ≤ P.now + z.left - x.b) ∧ 0 ≤ x.b ∧ x.b ≤ P.now ∧
    ∃ st', P.st.add ⟨0, x.b, x.b, P.now + z.left, 1099511627776⟩ = (st', 0) ∧ P.now + z.left - x.b ≤ st'.w ∧
      Sp.I N q { P with c := P.c.fin, S := L, X := P.X.set z.k { x with v := x.v + 1 }, st := st', now := P.now + z.left } := by
  have hzS : z ∈ P.S := by rw [hS]; simp
  have hi := (List.getElem?_eq_some_iff.1 hx).1
  have hL := h.line z.k x hx
  obtain ⟨a1, e, a2, a3, a4⟩ := hL.stk z hzS rfl
  have hvl := (List.getElem?_eq_some_iff.1 a2).1
  have hv0 := hL.v0
  have hb0 := hL.b0
  obtain ⟨j0, jq⟩ := h.jq
  have hss := h.ss
  have hbd := h.sok.bd
  have hrb : Jb.rb ⟨0, x.b, x.b, P.now + z.left, 1099511627776⟩ = true := Jb.rb_true.2 ⟨hb0.1, Int.le_refl _, by show x.b ≤ P.now + z.left; omega, by show P.now + z.left ≤ _; omega, by show (0 : Int) ≤ 1099511627776; omega, by show (1099511627776 : Int) ≤ _; omega⟩
  have hst : Jb.st ⟨0, x.b, x.b, P.now + z.left, 1099511627776⟩ = ⟨1, 0, P.now + z.left - x.b, P.now + z.left - x.b, 0⟩ := by
    unfold Jb.st
    rw [if_neg (by simp only; omega)]
    simp
  have hfit : P.st.fit ⟨1, 0, P.now + z.left - x.b, P.now + z.left - x.b, 0⟩ = true := by
    unfold St.fit
    simp only [Bool.and_eq_true, decide_eq_true_eq]
    exact ⟨by omega, by omega⟩
  have hadd : P.st.add ⟨0, x.b, x.b, P.now + z.left, 1099511627776⟩ = (P.st.jo ⟨1, 0, P.now + z.left - x.b, P.now + z.left - x.b, 0⟩, 0) := by
    unfold St.add
    rw [if_pos ⟨h.sok, hrb⟩, hst, if_pos hfit]
  have hok : (P.st.jo ⟨1, 0, P.now + z.left - x.b, P.now + z.left - x.b, 0⟩).OK := by
    have h9 := Jb.st_ok hrb
    rw [hst] at h9
    exact (St.jo_ok h.sok h9).2 hfit
  have hks : Sp.ks P.S = Sp.ks L ++ [z.k] := by rw [hS]; simp [Sp.ks]
  have hnd := h.nd
  rw [hks, List.nodup_append] at hnd
  have hkL : z.k ∉ Sp.ks L := fun hh => hnd.2.2 z.k hh z.k (by simp) rfl
  refine ⟨a1, ⟨e, a2, hv0, by omega, by omega⟩, hb0.1, hb0.2, _, hadd, by unfold St.jo; simp only; omega, ⟨by show (P.X.set _ _).length = N; rw [List.length_set]; exact h.len, h.pe64, h.n64, ?_, hnd.1, h.pin, fun y hy => h.kin y (by rw [hS]; simp [hy]), fun i y hy => ?_, ?_, ?_, hok, ?_, ?_, by show 0 ≤ P.now + z.left; have := h.n0; omega, by show P.last ≤ P.now + z.left; have := h.la; omega⟩⟩
  · show P.c.st.dropLast = Sp.ks L
    rw [h.cst, hks]; simp
  · show LI P.c.pe L (P.now + z.left) i y
    rcases get_set hi hy with ⟨rfl, rfl⟩ | ⟨hji, hy2⟩
    · have h2 := hL.sv
      rw [b01_y (by rw [hks]; simp)] at h2
      refine ⟨hL.wl, hL.rl, ?_, hL.tp, hL.el, by simp only; omega, hL.l0, ⟨hb0.1, by simp only; omega⟩, fun z' hz' hk => absurd (List.mem_map.2 ⟨z', hz', hk⟩) hkL⟩
      rw [b01_n hkL]; simp only; omega
    · have hL2 := (h.line i y hy2).later (show P.now ≤ P.now + z.left by omega)
      have hmem : (i ∈ Sp.ks P.S) ↔ i ∈ Sp.ks L := by rw [hks]; simp [hji]
      refine ⟨hL2.wl, hL2.rl, ?_, hL2.tp, hL2.el, hL2.v0, hL2.l0, hL2.b0, fun z' hz' hk => hL2.stk z' (by rw [hS]; simp [hz']) hk⟩
      have h2 := hL2.sv
      by_cases hm : i ∈ Sp.ks L
      · rw [b01_y hm]; rw [b01_y (hmem.2 hm)] at h2; exact h2
      · rw [b01_n hm]; rw [b01_n (fun hh => hm (hmem.1 hh))] at h2; exact h2
  · show P.st.j + 1 = isum ((P.X.set _ _).map _)
    rw [List.map_set, isum_set _ _ x.v _ (map_get hx)]
    have := h.sj; simp only; omega
  · show P.st.m + 0 = 0
    have := h.sm; omega
  · show P.st.s + (P.now + z.left - x.b) ≤ (P.st.j + 1) * 20000
    omega
  · show isum ((P.X.set _ _).map _) ≤ _
    rw [List.map_set, isum_set _ _ x.r _ (map_get hx)]
    have := h.rq; simp only; omega
/-- What the last round looks at. -/
theorem Sp.I.fin (h : P.I N q) {i : Nat} {x : Lr} (hx : P.X[i]? = some x) : 0 ≤ x.y.srv - x.v ∧ x.y.srv - x.v ≤ 1 ∧ 0 ≤ (x.w.length : Int) - x.y.srv ∧ (x.w.length : Int) - x.y.srv ≤ 1 ∧ (x.w.length : Int) + x.y.lost = x.r := by
  have hL := h.line i x hx
  have h1 := hL.wl
  have h2 := hL.sv
  have h5 := b01_bd (p := P.c.pe.testBit i = true)
  have h6 := b01_bd (p := i ∈ Sp.ks P.S)
  have h7 := hL.rl
  omega
end
end Vg
