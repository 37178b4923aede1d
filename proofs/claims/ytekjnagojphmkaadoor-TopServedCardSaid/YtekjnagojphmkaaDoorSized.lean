/- What the form's own reach says of a slice that came in: its length, by its element's bytes. -/
import Derived.SizedLaws
import Derived.Deep.Slices
import Derived.Test.YtekjnagojphmkaaDoorRows
namespace Vg
open Go Go.Deep
theorem len_sized {H : Type} {enc : TypeId × Value → H} {P : Program} {w : World} {base : Nat} {spare : Nat → Bool} {held : Bool} {t e : TypeId} {a : Option Addr} {len cap : Nat} {d : DataW H} {p : List MemPlace} {ts : List TypeId} {ds : List (DataW H)} {j : Nat}
    (hs : P.underlying t = some (.slice e)) (h : DataW.Trod enc P w base spare held t (.slice a len cap) d p) (hz : (DataW.weightsEach P ts ds).all (· ≤ reachBytes) = true) (ht : ts[j]? = some t) (hd : ds[j]? = some d) : len * P.bytesOf e ≤ reachBytes := by
  obtain ⟨fuel, hf⟩ := h
  rcases open_slice hs hf with ⟨h0, _⟩ | ⟨a', len', cap', m, n, D, Pl, hv, _, _, _, _, hx, _⟩
  · simp [Value.cells] at h0
    rw [h0.2.1]; omega
  · simp [Value.cells] at hv
    obtain ⟨_, rfl, _⟩ := hv
    have hd' := (Prod.mk.injEq _ _ _ _ ▸ hx : d = _ ∧ p = _).1
    rw [hd'] at hd
    have := sized_slice hz ht hd hs
    simp only [List.length_map, List.length_range] at this
    exact Nat.le_trans (Nat.mul_le_mul_right _ (Nat.le_add_right _ _)) this
end Vg
