/-
  Both networks in one memory.
-/
import Derived.Test.YtcipfpebjeakfaaRefK
namespace Go.Proofs.Ytcipfpebjeakfaa
open Go Go.RowKit

/-- The network in state S beside the reference's in state T. -/
structure BothAt (w0 W : World) (p q : Nat) (L : Lay) (R : RLay) (S T : NetS) : Prop where
  net : LawAt w0 W p L S
  ref : RefAt W q R T
  rold : ∀ b, b < w0.heap.size → R.tag b = .oth
  apart : ∀ b, L.tag b = .oth ∨ R.tag b = .oth

section
variable {w0 W W' : World} {p q : Nat} {L L' : Lay} {R : RLay} {S S' T T' : NetS}
theorem BothAt.then (h : BothAt w0 W p q L R S T) (hE : Ext W W') : BothAt w0 W' p q L R S T := ⟨h.net.then hE, h.ref.ext hE, h.rold, h.apart⟩
theorem BothAt.left (h : BothAt w0 W p q L R S T) (hn : NetAt W' p L' S') (ht : LayTo W.heap.size W W' L L') : BothAt w0 W' p q L' R S' T :=
  ⟨h.net.step hn ht, h.ref.keep ht.touch fun b hf => by
    rcases hf with hf | hf
    · exact h.ref.fresh b hf
    · exact (h.apart b).resolve_left hf.1, h.rold, fun b => by
    rcases Nat.lt_or_ge b W.heap.size with hb | hb
    · by_cases e : L.tag b = .oth
      · exact .inl (ht.tag b hb e)
      · exact .inr ((h.apart b).resolve_left e)
    · exact .inr (h.ref.fresh b hb)⟩
theorem BothAt.right (h : BothAt w0 W p q L R S T) (hr : RefPost W.heap.size W q R T' W') : ∃ R', BothAt w0 W' p q L R' S T' := by
  obtain ⟨R', h1, h2⟩ := hr
  have hsz := h.net.ext.size
  have lo : ∀ b, (W.heap.size ≤ b ∨ R.tag b = .net ∨ ∃ r, R.tag b = .row r) → L.tag b = .oth := fun b hf => by
    rcases hf with hf | hf | ⟨r, hf⟩
    · exact h.net.net.fresh b hf
    · exact (h.apart b).resolve_right (by rw [hf]; simp)
    · exact (h.apart b).resolve_right (by rw [hf]; simp)
  refine ⟨R', ⟨h.net.net.keep h2.touch lo, h.net.ext.trans h2.touch fun b hb hf => ?_, h.net.old⟩, h1, fun b hb => by rw [h2.tag b (by omega)]; exact h.rold b hb, fun b => ?_⟩
  · rcases hf with hf | hf | ⟨r, hf⟩
    · omega
    · rw [h.rold b hb] at hf; cases hf
    · rw [h.rold b hb] at hf; cases hf
  · rcases Nat.lt_or_ge b W.heap.size with hb | hb
    · rw [h2.tag b hb]; exact h.apart b
    · exact .inl (h.net.net.fresh b hb)
end
end Go.Proofs.Ytcipfpebjeakfaa
