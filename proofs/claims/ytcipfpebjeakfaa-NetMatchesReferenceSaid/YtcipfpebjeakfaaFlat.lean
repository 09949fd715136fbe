/-
  A row at a known address, of elements of one cell: index, store, clear, cut.
-/
import Derived.Test.YtcipfpebjeakfaaRowsAt
namespace Go.Proofs.Ytcipfpebjeakfaa
open Go Go.RowKit

/-- From cell k of block g on lie the cells ys, within a room of c cells. -/
def Flat (w : World) (E : TypeId) (g k c : Nat) (ys : List Value) : Prop :=
  ∃ cs, Blk w g E cs ∧ k + c ≤ cs.size ∧ ys.length ≤ c ∧ ∀ j u, ys[j]? = some u → cs[k + j]? = some u

section
variable {P : Program} {a : Act} {w w' : World} {K : Act → World → Prop} {Q : Exit → Act → World → Prop} {o : Oper} {E t : TypeId} {g k c n : Nat} {ys : List Value} {F : Nat → Prop}

theorem Flat.cell (h : Flat w E g k c ys) {j : Nat} {u : Value} (hu : ys[j]? = some u) : w.cell? ⟨g, k + j, none⟩ = some u := by
  obtain ⟨cs, hb, _, _, h1⟩ := h
  exact hb.cell (h1 j u hu)
theorem Flat.keep (h : Flat w E g k c ys) (ht : Touch F w w') (hn : ¬ F g) : Flat w' E g k c ys := by
  obtain ⟨cs, hb, h1⟩ := h
  exact ⟨cs, ht.obj hb hn, h1⟩
theorem Flat.row (h : Flat w E g k c ys) (hm : c ≤ maxLen) : Row w E 1 (.slice (some ⟨g, k, none⟩) ys.length c) ys := by
  obtain ⟨cs, hb, h1, h2, h3⟩ := h
  exact ⟨_, _, _, rfl, by simp, h2, hm, (fun e => by cases e), fun _ => ⟨g, k, cs, rfl, hb, by omega, h3⟩⟩
theorem Flat.take (h : Flat w E g k c ys) (m : Nat) : Flat w E g k c (ys.take m) := by
  obtain ⟨cs, hb, h1, h2, h3⟩ := h
  refine ⟨cs, hb, h1, by rw [List.length_take]; omega, fun j u hu => h3 j u ?_⟩
  rw [List.getElem?_take] at hu
  split at hu
  · exact hu
  · cases hu
theorem Row.flat {v : Value} (h : Row w E 1 v ys) (hn : ys ≠ []) : ∃ g k c, v = .slice (some ⟨g, k, none⟩) ys.length c ∧ Flat w E g k c ys ∧ c ≤ maxLen ∧ rowBlock v = some g := by
  obtain ⟨ad, n, c, rfl, h1, h2, h3, h4, h5⟩ := h
  have h0 : 0 < ys.length := List.length_pos_iff.2 hn
  simp only [Nat.mul_one] at h1
  obtain ⟨g, i, cs, rfl, hb, h6, h7⟩ := h5 (by omega)
  refine ⟨g, i, c, by rw [h1], ⟨cs, hb, by omega, by omega, h7⟩, h3, ?_⟩
  have : c ≠ 0 := by omega
  simp [rowBlock, this]

theorem op_index_flat {x y : Operand} {i : Nat} (ho : o.op = .indexAddr t x y) (hx : a.eval x = .slice (some ⟨g, k, none⟩) n c) (hy : a.eval y = .int .i64 i) (ht : P.underlying t = some (.slice E)) (hs : (P.info? E).map (·.size) = some 1)
    (hi : i < n) (h : K (a.put o.dst (.pointer (some ⟨g, k + i, none⟩))) w) : o.wp P a w K Q := by
  refine op_run _ (.pointer (some ⟨g, k + i, none⟩)) w (by rw [execOp_indexAddr ho, hx, hy]) ?_ h
  cases hinfo : P.info? E with
  | none => rw [hinfo] at hs; cases hs
  | some ti =>
    rw [hinfo] at hs
    simp only [Option.map_some, Option.some.injEq] at hs
    have hadd : (⟨g, k, none⟩ : Addr).add i = ⟨g, k + i, none⟩ := by unfold Addr.add; split <;> simp_all
    have hb1 : (0 : Int) ≤ (i : Int) ∧ (i : Int) < (n : Int) := ⟨by omega, by omega⟩
    simp [Instr.indexAt, asIntOf, run_underlying ht, sizeOf, typeInfo, hinfo, hs, hb1, hadd, hi]

theorem op_store_flat {x y : Operand} {i : Nat} {u : Value} (ho : o.op = .store t x y) (hx : a.eval x = .pointer (some ⟨g, k + i, none⟩)) (hy : a.eval y = u) (hs : (P.info? t).map (·.size) = some 1) (h1 : u.oneCell' = true)
    (hf : Flat w E g k c ys) (hi : i < ys.length) (h : ∀ w', Flat w' E g k c (ys.set i u) → Touch (· = g) w w' → K (a.put o.dst undef) w') : o.wp P a w K Q := by
  obtain ⟨cs, hb, h2, h3, h4⟩ := hf
  refine op_store1 ho hx hy hs h1 hb (by omega) fun w' hb' ht hz => h w' ⟨_, hb', by simpa using h2, by simpa using h3, fun j v hv => ?_⟩ ht
  by_cases e : j = i
  · subst e
    rw [List.getElem?_set_self (by omega)] at hv
    rw [Array.getElem?_setIfInBounds_self_of_lt (by omega)]
    exact hv
  · rw [List.getElem?_set_ne (fun h => e h.symm)] at hv
    rw [Array.getElem?_setIfInBounds_ne (by omega)]
    exact h4 j v hv

theorem op_slice_lo {x lo : Operand} {i : Nat} (ho : o.op = .slice t x (some lo) none none) (hx : a.eval x = .slice (some ⟨g, k, none⟩) n c) (hlo : a.eval lo = .int .i64 i) (ht : P.underlying t = some (.slice E))
    (hs : (P.info? E).map (·.size) = some 1) (hi : i ≤ n) (hn : n ≤ c) (h : ∀ ad, (i < n → ad = some ⟨g, k + i, none⟩) → K (a.put o.dst (.slice ad (n - i) (c - i))) w) : o.wp P a w K Q := by
  refine op_run (Instr.sliceAt t (.slice (some ⟨g, k, none⟩) n c) (some (.int .i64 i)) none none) (.slice (if c = i then some ⟨g, k, none⟩ else some ⟨g, k + i, none⟩) (n - i) (c - i)) w (by rw [execOp_slice ho, hx]; simp only [Option.map_some, Option.map_none]; rw [hlo]) ?_ (h _ fun hlt => if_neg (by omega))
  cases hinfo : P.info? E with
  | none => rw [hinfo] at hs; cases hs
  | some ti =>
    rw [hinfo] at hs
    simp only [Option.map_some, Option.some.injEq] at hs
    have hb1 : (0 : Int) ≤ (i : Int) ∧ (i : Int) ≤ (n : Int) := ⟨by omega, by omega⟩
    have hadd : (⟨g, k, none⟩ : Addr).add i = ⟨g, k + i, none⟩ := by unfold Addr.add; split <;> simp_all
    simp [Instr.sliceAt, Instr.slice, Instr.sliceBounds, Instr.sliceBound, asIntOf, run_underlying ht, sizeOf, typeInfo, hinfo, hs, hb1, hi, hadd]

theorem op_slice_hi {x hi' : Operand} {i : Nat} (ho : o.op = .slice t x none (some hi') none) (hx : a.eval x = .slice (some ⟨g, k, none⟩) n c) (hhi : a.eval hi' = .int .i64 i) (ht : P.underlying t = some (.slice E))
    (hs : (P.info? E).map (·.size) = some 1) (hi : i ≤ c) (h : K (a.put o.dst (.slice (some ⟨g, k, none⟩) i c)) w) : o.wp P a w K Q := by
  refine op_run (Instr.sliceAt t (.slice (some ⟨g, k, none⟩) n c) none (some (.int .i64 i)) none) (.slice (some ⟨g, k, none⟩) i c) w (by rw [execOp_slice ho, hx]; simp only [Option.map_some, Option.map_none]; rw [hhi]) ?_ h
  cases hinfo : P.info? E with
  | none => rw [hinfo] at hs; cases hs
  | some ti =>
    rw [hinfo] at hs
    simp only [Option.map_some, Option.some.injEq] at hs
    have hb1 : (0 : Int) ≤ (i : Int) ∧ (i : Int) ≤ (c : Int) := ⟨by omega, by omega⟩
    have hadd : (⟨g, k, none⟩ : Addr).add 0 = ⟨g, k, none⟩ := by unfold Addr.add; split <;> simp_all
    simp [Instr.sliceAt, Instr.slice, Instr.sliceBounds, Instr.sliceBound, asIntOf, run_underlying ht, sizeOf, typeInfo, hinfo, hb1, hi, hadd]

theorem op_clear_flat {x : Operand} {i m c' : Nat} {z : Value} {ad : Option Addr} (ho : o.op = .call { callee := .builtin .clear, args := #[x], argTypes := #[t] }) (hx : a.eval x = .slice ad m c') (had : 0 < m → ad = some ⟨g, k + i, none⟩)
    (ht : P.underlying t = some (.slice E)) (hz : (P.info? E).bind (·.zero) = some z) (hzc : z.cells = #[z]) (h1 : z.oneCell' = true) (hf : Flat w E g k c ys) (hi : i + m = ys.length)
    (h : ∀ w', Flat w' E g k c (ys.take i) → Touch (· = g) w w' → K (a.put o.dst (.tuple #[])) w') : o.wp P a w K Q := by
  have hev : execOp a.eval o = (do pure (.value (← Builtin.clear_ #[t] o.type #[.slice ad m c']))) := by
    rw [execOp_builtin1 ho, ← hx]
    simp only [List.map_toArray, List.map_cons, List.map_nil]
    rfl
  rcases Nat.eq_zero_or_pos m with h0 | h0
  · subst h0
    refine op_run _ (.tuple #[]) w hev ?_ (h w (hf.take _) (Touch.refl _ w))
    cases ad <;> simp [Builtin.clear_, run_underlying ht]
  · have := had h0
    subst this
    obtain ⟨cs, hb, h2, h3, h4⟩ := hf
    obtain ⟨w', hr, hb', ht', hz'⟩ := run_storeCells_blk (P := P) (k + i) (List.replicate m z) 0 cs w hb (by simp; omega) (fun v hv => by rw [List.eq_of_mem_replicate hv]; exact h1)
    refine op_run _ (.tuple #[]) w' hev ?_ (h w' ⟨_, hb', by rw [overw_size]; exact h2, by rw [List.length_take]; omega, fun j u hu => ?_⟩ ht')
    · have hzc' : (Builtin.zeroCells z.cells m).toList = List.replicate m z := by
        rw [hzc]
        simp [Builtin.zeroCells]
        apply List.ext_getElem
        · simp
        · intro i h1 h2
          simp [Nat.mod_one]
      obtain ⟨m', rfl⟩ : ∃ m', m = m' + 1 := ⟨m - 1, by omega⟩
      simp [Builtin.clear_, run_underlying ht, run_zero hz, hzc', hr]
    · have hj : j < i := by
        have := (List.getElem?_eq_some_iff.1 hu).1
        rw [List.length_take] at this; omega
      rw [overw_get _ _ _ _ (by simp; omega), if_neg (by omega)]
      rw [List.getElem?_take, if_pos hj] at hu
      exact h4 j u hu
end
end Go.Proofs.Ytcipfpebjeakfaa
