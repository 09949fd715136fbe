/-
  The argument []Op, opened; the frame of the laws' proofs.
-/
import Derived.Test.YtcipfpebjeakfaaNetV
import Derived.ProofKit
import Derived.OpenShut
import Derived.ChangeOld
import Derived.Deep.Slices
namespace Go.Proofs.Ytcipfpebjeakfaa
open Go Go.RowKit Go.ChangeShapes Go.WideShapes Go.ChangeAt Go.Deep

instance instInhOpV : Inhabited OpV := ⟨⟨0, 0, 0, false, false, ⟨#[]⟩⟩⟩

theorem Try.cells33 : Try.prog.cellsOf 33 = 6 := by kernel_rfl
theorem Try.cells5 : Try.prog.cellsOf 5 = 1 := by kernel_rfl
theorem Try.cells4 : Try.prog.cellsOf 4 = 1 := by kernel_rfl
theorem Try.cells9 : Try.prog.cellsOf 9 = 1 := by kernel_rfl

theorem Ext.below {w w' : World} (h : Ext w w') : Below w.heap.size w w' := ⟨h.os, h.tape, h.output, h.size, fun k hk => h.block k hk (fun h => h)⟩

theorem u8_nat {n : Int} (h : (Lit.int .u8 n).wf = true) : ∃ k : Nat, n = k ∧ k < 256 := by
  have : 0 ≤ n ∧ n ≤ 255 := bounds_u8 h
  exact ⟨n.toNat, by omega, by omega⟩

theorem open_op {H : Type} {enc : TypeId × Value → H} {w : World} {base : Nat} {spare : Nat → Bool} {held : Bool} {n : Nat} {cs : List Value} {x : DataW H × List MemPlace}
    (h : DataW.trod enc Try.prog w base spare held n 33 cs = some x) : ∃ o : OpV, o.ok ∧ cs = o.cells := by
  obtain ⟨xs, k, hk, hxy, hl, hxl, hf⟩ := DataW.trod_struct Try.underlying33 h
  rw [Try.cells33] at hl
  match xs, hxl, cs, hl with
  | [y0, y1, y2, y3, y4, y5], _, [v0, v1, v2, v3, v4, v5], _ =>
    have g0 := hf 0 _ rfl
    have g1 := hf 1 _ rfl
    have g2 := hf 2 _ rfl
    have g3 := hf 3 _ rfl
    have g4 := hf 4 _ rfl
    have g5 := hf 5 _ rfl
    simp [Try.cells5, Try.cells4, Try.cells9] at g0 g1 g2 g3 g4 g5
    obtain ⟨n0, e0, _, w0⟩ := DataW.trod_int Try.underlying5 g0
    obtain ⟨n1, e1, _, w1⟩ := DataW.trod_int Try.underlying5 g1
    obtain ⟨n2, e2, _, w2⟩ := DataW.trod_int Try.underlying5 g2
    obtain ⟨b3, e3, _⟩ := DataW.trod_bool Try.underlying4 g3
    obtain ⟨b4, e4, _⟩ := DataW.trod_bool Try.underlying4 g4
    obtain ⟨s5, e5, _, _⟩ := DataW.trod_string Try.underlying9 g5
    obtain ⟨k0, rfl, h0⟩ := u8_nat w0
    obtain ⟨k1, rfl, h1⟩ := u8_nat w1
    obtain ⟨k2, rfl, h2⟩ := u8_nat w2
    simp only [List.cons.injEq, and_true] at e0 e1 e2 e3 e4 e5
    subst e0 e1 e2 e3 e4 e5
    exact ⟨⟨k0, k1, k2, b3, b4, s5⟩, ⟨h0, h1, h2⟩, rfl⟩

theorem open_ops {H : Type} {enc : TypeId × Value → H} {w : World} {a : Option Addr} {len cap : Nat} {d : DataW H} {ps : List MemPlace}
    (h : DataW.Trod enc Try.prog w 0 (fun _ => true) true 22 (.slice a len cap) d ps) : ∃ l, ROps w (.slice a len cap) l ∧ ∀ o ∈ l, o.ok := by
  obtain ⟨fuel, hf⟩ := h
  rcases open_slice Try.underlying22 hf with ⟨hcs, _⟩ | ⟨a0, len0, cap0, m, n, D, Pl, hcs, _, hl, hm, hmm, _, hx⟩
  · simp [Value.cells] at hcs
    obtain ⟨rfl, rfl, rfl⟩ := hcs
    exact ⟨[], ⟨none, 0, rfl, Nat.le_refl _, Nat.zero_le _, fun h => by simp at h, fun a ha => by cases ha⟩, by simp⟩
  · simp [Value.cells] at hcs
    obtain ⟨rfl, rfl, rfl⟩ := hcs
    simp only [if_true] at hmm
    subst hmm
    rw [Try.cells33] at hx
    obtain ⟨f, hfo⟩ := choose_lt (p := fun i (o : OpV) => o.ok ∧ ∀ (j : Nat) (u : Value), o.cells[j]? = some u → w.cell? (a0.add (i * 6 + j)) = some u) (fun i (hi : i < m) => by
      obtain ⟨cs', h1, h2⟩ := hx i hi
      obtain ⟨o, ho, rfl⟩ := open_op h2
      refine ⟨o, ho, fun j u hj => ?_⟩
      obtain ⟨_, hlen, hcell⟩ := World.cells?_some h1
      have hj6 : j < 6 := by
        have := (List.getElem?_eq_some_iff.1 hj).1
        simpa [OpV.cells] using this
      rw [← add_twice, hcell j hj6]
      exact hj)
    refine ⟨(List.range len).map f, ⟨some a0, m, by simp, by simpa using hl, hm, fun _ => by simp, fun a ha i o ho j u hj => ?_⟩, fun o ho => ?_⟩
    · injection ha with ha
      subst ha
      have hi : i < len := by
        have := (List.getElem?_eq_some_iff.1 ho).1
        simpa using this
      simp [hi] at ho
      subst ho
      exact (hfo i (by omega)).2 j u hj
    · obtain ⟨i, hi, rfl⟩ := List.mem_map.1 ho
      exact (hfo i (by have := List.mem_range.1 hi; omega)).1
theorem Try.own : ownKnob Try.prog.godebug = none := by kernel_rfl
theorem Try.laidOut : laidOutB Try.prog = true := by kernel_rfl
end Go.Proofs.Ytcipfpebjeakfaa
