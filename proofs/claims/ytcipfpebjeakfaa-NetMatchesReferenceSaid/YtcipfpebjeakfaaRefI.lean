/-
  The reference's New: makes, and a network half made.
-/
import Derived.Test.YtcipfpebjeakfaaRefG
import Derived.Deep.OwnRows
namespace Go.Proofs.Ytcipfpebjeakfaa
open Go Go.RowKit

section
variable {P : Program} {o : Oper} {a : Act} {w : World} {K : Act → World → Prop} {Q : Exit → Act → World → Prop} {t E : TypeId} {i : TypeInfo} {z : Value}
theorem execOp_makeSlice {ρ : Operand → Value} {x y : Operand} (ho : o.op = .makeSlice t x y) : execOp ρ o = (do pure (.value (← Instr.makeSlice t (ρ x) (ρ y)))) := by
  obtain ⟨dst, op, type, pos, after, guard⟩ := o; cases ho; rfl
/-- A slice of n zeros of one cell. -/
theorem op_make1 {x y : Operand} {n bytes : Nat} (ho : o.op = .makeSlice t x y) (hx : a.eval x = .int .i64 n) (hy : a.eval y = .int .i64 n) (ht : P.underlying t = some (.slice E))
    (hi : (P.info? E).map (fun i => (i.zero, i.size, i.bytes)) = some (some z, 1, bytes)) (hzc : z.cells = #[z]) (h8 : n ≤ 8) (hb : bytes ≤ 1000)
    (h : ∀ v' w', RowN w' E 1 v' n (fun _ _ => z) → (∀ b, rowBlock v' = some b → w.heap.size ≤ b) → Ext w w' → K (a.put o.dst v') w') : o.wp P a w K Q := by
  have hb2 : Blk (w.alloc (.cells (madeCells #[z] n) E)) w.heap.size E (madeCells #[z] n) := obj_new w _
  have hget : ∀ j, j < n → (madeCells #[z] n)[j]? = some z := fun j hj => by
    rw [← Array.getElem?_toList, toList_madeCells_one, List.getElem?_replicate, if_pos hj]
  have hbn : bytes * n ≤ 1000 * 8 := Nat.mul_le_mul hb h8
  refine op_run (Instr.makeSlice t (.int .i64 n) (.int .i64 n)) (.slice (some ⟨w.heap.size, 0, none⟩) n n) (w.alloc (.cells (madeCells #[z] n) E)) (by rw [execOp_makeSlice ho, hx, hy])
    (run_make_row' t E z bytes ht hi hzc .i64 .i64 n (by omega) (by omega) w)
    (h _ _ ⟨List.replicate n z, ⟨_, _, _, rfl, by simp, Nat.le_refl _, by unfold maxLen; omega, (fun e => by cases e), fun _ => ⟨_, 0, _, rfl, hb2, by rw [size_madeCells]; omega, fun j u hu => ?_⟩⟩, by simp, fun k j hk hj => ?_⟩ (fun b hb => ?_) (Ext.alloc w _))
  · rw [List.getElem?_replicate] at hu
    split at hu
    · rename_i hj
      rw [Nat.zero_add, hget j hj]
      exact hu
    · cases hu
  · have hj0 : j = 0 := by omega
    subst hj0
    rw [List.getElem?_replicate, if_pos (by omega)]
  · simp only [rowBlock] at hb
    split at hb
    · cases hb
    · injection hb with hb; omega
end

theorem Try.mk3 : (Try.prog.info? 3).map (fun i => (i.zero, i.size, i.bytes)) = some (some (.int .i64 0), 1, 8) := by kernel_rfl
theorem Try.mk4 : (Try.prog.info? 4).map (fun i => (i.zero, i.size, i.bytes)) = some (some (.bool false), 1, 1) := by kernel_rfl
theorem Try.mk39 : (Try.prog.info? 39).map (fun i => (i.zero, i.size, i.bytes)) = some (some (.slice none 0 0), 1, 24) := by kernel_rfl
theorem Try.mk85 : (Try.prog.info? 85).map (fun i => (i.zero, i.size, i.bytes)) = some (some (.slice none 0 0), 1, 24) := by kernel_rfl
theorem Try.mk74 : (Try.prog.info? 74).map (fun i => (i.zero, i.size, i.bytes)) = some (some (.agg #[.slice none 0 0, .slice none 0 0, .slice none 0 0, .slice none 0 0]), 4, 96) := by kernel_rfl
theorem Try.mk75 : (Try.prog.info? 75).map (fun i => (i.zero, i.size, i.bytes)) = some (some (.slice none 0 0), 1, 24) := by kernel_rfl
theorem Try.mk76 : (Try.prog.info? 76).map (fun i => (i.zero, i.size, i.bytes)) = some (some (.slice none 0 0), 1, 24) := by kernel_rfl
end Go.Proofs.Ytcipfpebjeakfaa
