/- The law 'KvBatch' returns true for all arguments: what its proof stands on, part 8. -/
import Derived.Test.YtkfjlbdedjoojaaZKvBatch7
import Derived.SizedLaws
namespace Go.Proofs.Ytkfjlbdedjoojaa.Wt
open Go Go.Proofs.Ytkfjlbdedjoojaa.Am
set_option linter.unusedVariables false
set_option linter.unusedSimpArgs false
theorem sized_len {H : Type} {enc : TypeId × Value → H} {P : Program} {W : World} {held : Bool} {fuel : Nat} {t e : TypeId} {A : Option Addr} {len cap : Nat} {x : DataW H × List MemPlace} {ts : List TypeId} {ds : List (DataW H)} {j : Nat} (ht : P.underlying t = some (.slice e)) (h : DataW.trod enc P W 0 (fun _ => true) held fuel t [.slice A len cap] = some x) (hz : (DataW.weightsEach P ts ds).all (· ≤ reachBytes) = true) (h1 : ts[j]? = some t) (h2 : ds[j]? = some x.1) : len * P.bytesOf e ≤ reachBytes := by
  rcases Go.Deep.open_slice ht h with ⟨e1, _⟩ | ⟨a, l2, c2, m, n, D, Pl, e1, _, _, _, _, rfl, _⟩
  · cases e1; rw [Nat.zero_mul]; exact Nat.zero_le _
  · cases e1
    have := sized_slice hz h1 h2 ht
    rw [List.length_map, List.length_range] at this
    exact Nat.le_trans (Nat.mul_le_mul_right _ (Nat.le_add_right _ _)) this
theorem comp_ex (k : Nat) (bl : BL) : ∃ r, CompR r k bl := ⟨fun j => (bl[j - k]?).bind Prod.snd, fun i p hp => by simp [hp]⟩
theorem lay_len {α : Type} {L : Lay α} {m : Nat} {h : H} {l : List α} {u : Value} {A : Option Addr} {len cap k : Nat} {bl : BL} {W : World} (hl : laySl L m h l [u]) (rel : ∀ r, CompR r k bl → (∀ p ∈ bl, BlkOK W r p) ∧ VL r [u] [.slice A len cap]) : l.length = len := by
  obtain ⟨r, hr⟩ := comp_ex k bl
  have hv := (rel r hr).2
  obtain ⟨V, hV, S⟩ := hl
  cases hV
  cases S with
  | nil => have q := hv.2 0 _ _ rfl rfl; cases q <;> rfl
  | emp a c => have q := hv.2 0 _ _ rfl rfl; cases q <;> rfl
  | row b c l cells hg hl he => have q := hv.2 0 _ _ rfl rfl; cases q <;> rfl
end Go.Proofs.Ytkfjlbdedjoojaa.Wt
