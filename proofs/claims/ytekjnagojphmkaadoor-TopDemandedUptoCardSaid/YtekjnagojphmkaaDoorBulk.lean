/- What the second form's bound says of a slice that came in: its length. -/
import Derived.Test.YtekjnagojphmkaaDoorRows
import Derived.Deep.Slices
namespace Vg
open Go Go.Deep
theorem bulk_one {H : Type} (d : DataW H) : 1 ≤ Go.Proofs.YtekjnagojphmkaaDoor.Rows.uptoBulk d := by
  cases d with
  | lit l => cases l <;> simp [Go.Proofs.YtekjnagojphmkaaDoor.Rows.uptoBulk]
  | nil => simp [Go.Proofs.YtekjnagojphmkaaDoor.Rows.uptoBulk]
  | ptr d => simp [Go.Proofs.YtekjnagojphmkaaDoor.Rows.uptoBulk]
  | slice elems spare => simp [Go.Proofs.YtekjnagojphmkaaDoor.Rows.uptoBulk]
  | agg parts => simp [Go.Proofs.YtekjnagojphmkaaDoor.Rows.uptoBulk]
  | iface t d => simp [Go.Proofs.YtekjnagojphmkaaDoor.Rows.uptoBulk]
  | map entries => simp [Go.Proofs.YtekjnagojphmkaaDoor.Rows.uptoBulk]
  | held h => simp [Go.Proofs.YtekjnagojphmkaaDoor.Rows.uptoBulk]
theorem bulk_len {H : Type} : ∀ l : List (DataW H), l.length ≤ Go.Proofs.YtekjnagojphmkaaDoor.Rows.uptoBulkAll l
  | [] => by simp
  | d :: r => by
    have h1 := bulk_one d
    have h2 := bulk_len r
    simp only [Go.Proofs.YtekjnagojphmkaaDoor.Rows.uptoBulkAll, List.length_cons]
    omega
theorem len_bulk {H : Type} {enc : TypeId × Value → H} {P : Program} {w : World} {base : Nat} {spare : Nat → Bool} {held : Bool} {t e : TypeId} {a : Option Addr} {len cap : Nat} {d : DataW H} {p : List MemPlace}
    (hs : P.underlying t = some (.slice e)) (h : DataW.Trod enc P w base spare held t (.slice a len cap) d p) : len ≤ Go.Proofs.YtekjnagojphmkaaDoor.Rows.uptoBulk d := by
  obtain ⟨fuel, hf⟩ := h
  rcases open_slice hs hf with ⟨h0, _⟩ | ⟨a', len', cap', m, n, D, Pl, hv, _, _, _, _, hx, _⟩
  · simp [Value.cells] at h0
    omega
  · simp [Value.cells] at hv
    obtain ⟨_, rfl, _⟩ := hv
    have hd := (Prod.mk.injEq _ _ _ _ ▸ hx : d = _ ∧ p = _).1
    rw [hd]
    simp only [Go.Proofs.YtekjnagojphmkaaDoor.Rows.uptoBulk]
    have := bulk_len ((List.range len).map D)
    simp only [List.length_map, List.length_range] at this
    omega
end Vg
