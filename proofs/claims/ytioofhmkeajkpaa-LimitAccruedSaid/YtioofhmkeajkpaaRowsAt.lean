/-
  Rows at work: their length, their elements, their tails.
-/
import Derived.Test.YtioofhmkeajkpaaSteps
namespace Go.Proofs.Ytioofhmkeajkpaa
open Go Go.RowKit

section
variable {P : Program} {o : Oper} {a : Act} {w : World} {K : Act → World → Prop} {Q : Exit → Act → World → Prop} {t E : TypeId} {size : Nat} {v : Value} {xs : List Value}

theorem Row.alloc (h : Row w E size v xs) (o : Obj) : Row (w.alloc o) E size v xs := h.keep (Ext.alloc w o) (fun _ _ h => h)
theorem Row.drew (h : Row w E size v xs) : Row w.drew E size v xs := h.keep (F := fun _ => False) ((Touch.refl _ w).drew) (fun _ _ h => h)

theorem Row.len (h : Row w E size v xs) (hsz : 0 < size) {n : Nat} (hn : xs.length = n * size) : ∃ ad c, v = .slice ad n c ∧ n ≤ c ∧ c ≤ maxLen := by
  obtain ⟨ad, n', c, rfl, h1, h2, h3, h4, h5⟩ := h
  have : n' = n := by
    rw [hn] at h1
    exact (Nat.eq_of_mul_eq_mul_right hsz h1).symm
  subst this
  exact ⟨ad, c, rfl, h2, h3⟩

theorem op_len_row {x : Operand} (ho : o.op = .call { callee := .builtin .len, args := #[x], argTypes := #[t] }) (hx : a.eval x = v) (ht : P.underlying t = some (.slice E))
    (hrow : Row w E size v xs) (hsz : 0 < size) {n : Nat} (hn : xs.length = n * size) (h : K (a.put o.dst (.int .i64 n)) w) : o.wp P a w K Q := by
  obtain ⟨ad, c, rfl, _, _⟩ := hrow.len hsz hn
  refine op_run (Builtin.len_ #[t] o.type #[.slice ad n c]) _ w ?_ ?_ h
  · rw [execOp_builtin1 ho, ← hx]
    simp only [List.map_toArray, List.map_cons, List.map_nil]
    rfl
  · simp [Builtin.len_, run_underlying ht, goInt]

/-- Element i of a row lies from k on in block g. -/
structure ElemAt (w : World) (E : TypeId) (size : Nat) (v : Value) (xs : List Value) (i g k : Nat) (cs : Array Value) : Prop where
  row : rowBlock v = some g
  blk : Blk w g E cs
  fits : k + size ≤ cs.size
  at_ : ∀ j, j < size → cs[k + j]? = xs[i * size + j]?

theorem ElemAt.cell {i g k : Nat} {cs : Array Value} (h : ElemAt w E size v xs i g k cs) {j : Nat} {u : Value} (hj : j < size) (hu : xs[i * size + j]? = some u) : w.cell? ⟨g, k + j, none⟩ = some u :=
  h.blk.cell (by rw [h.at_ j hj]; exact hu)

theorem execOp_indexAddr {ρ : Operand → Value} {x y : Operand} (ho : o.op = .indexAddr t x y) : execOp ρ o = (do pure (.value (← Instr.indexAt t (ρ x) (ρ y)))) := by
  obtain ⟨dst, op, type, pos, after, guard⟩ := o; cases ho; rfl
theorem execOp_slice {ρ : Operand → Value} {x : Operand} {lo hi mx : Option Operand} (ho : o.op = .slice t x lo hi mx) : execOp ρ o = (do pure (.value (← Instr.sliceAt t (ρ x) (lo.map ρ) (hi.map ρ) (mx.map ρ)))) := by
  obtain ⟨dst, op, type, pos, after, guard⟩ := o; cases ho; rfl

theorem op_index_row {x y : Operand} {i : Nat} (ho : o.op = .indexAddr t x y) (hx : a.eval x = v) (hy : a.eval y = .int .i64 i) (ht : P.underlying t = some (.slice E)) (hs : (P.info? E).map (·.size) = some size)
    (hrow : Row w E size v xs) (hi : (i + 1) * size ≤ xs.length) (hsz : 0 < size)
    (h : ∀ g k cs, ElemAt w E size v xs i g k cs → K (a.put o.dst (.pointer (some ⟨g, k, none⟩))) w) : o.wp P a w K Q := by
  obtain ⟨ad, n, c, rfl, h1, h2, h3, h4, h5⟩ := hrow
  have hin : i < n := by
    rw [h1] at hi
    have := Nat.le_of_mul_le_mul_right hi hsz
    omega
  obtain ⟨g, k, cs, rfl, hb, h6, h7⟩ := h5 (by omega)
  have hmul : (i + 1) * size ≤ c * size := Nat.mul_le_mul_right _ (by omega)
  rw [Nat.add_mul] at hmul
  refine op_run _ (.pointer (some ⟨g, k + i * size, none⟩)) w (by rw [execOp_indexAddr ho, hx, hy]) ?_ (h g (k + i * size) cs ⟨?_, hb, by omega, fun j hj => ?_⟩)
  · cases hinfo : P.info? E with
    | none => rw [hinfo] at hs; cases hs
    | some ti =>
      rw [hinfo] at hs
      simp only [Option.map_some, Option.some.injEq] at hs
      have hadd : (⟨g, k, none⟩ : Addr).add (i * size) = ⟨g, k + i * size, none⟩ := by unfold Addr.add; split <;> simp_all
      have hb1 : (0 : Int) ≤ (i : Int) ∧ (i : Int) < (n : Int) := ⟨by omega, by omega⟩
      simp [Instr.indexAt, asIntOf, run_underlying ht, sizeOf, typeInfo, hinfo, hs, hb1, hadd, hin]
  · have : c ≠ 0 := by omega
    simp [rowBlock, this]
  · have hj2 : i * size + j < xs.length := by rw [Nat.add_mul] at hi; omega
    rw [Nat.add_assoc, h7 (i * size + j) _ (List.getElem?_eq_getElem hj2), List.getElem?_eq_getElem hj2]

theorem run_slice_row {k : Nat} (ht : P.underlying t = some (.slice E)) (hs : (P.info? E).map (·.size) = some size) (hrow : Row w E size v xs) (hk : k * size ≤ xs.length) (hsz : 0 < size) :
    ∃ v', (Instr.sliceAt t v (some (.int .i64 k)) none none).run P w = .ok v' w ∧ Row w E size v' (xs.drop (k * size)) ∧ ∀ b, rowBlock v' = some b → rowBlock v = some b := by
  obtain ⟨ad, n, c, rfl, h1, h2, h3, h4, h5⟩ := hrow
  have hkn : k ≤ n := by rw [h1] at hk; exact Nat.le_of_mul_le_mul_right hk hsz
  cases hinfo : P.info? E with
  | none => rw [hinfo] at hs; cases hs
  | some ti =>
    rw [hinfo] at hs
    simp only [Option.map_some, Option.some.injEq] at hs
    refine ⟨.slice (if c = k then ad else ad.map (·.add (k * size))) (n - k) (c - k), ?_, ?_, ?_⟩
    · have hb1 : (0 : Int) ≤ (k : Int) ∧ (k : Int) ≤ (n : Int) := ⟨by omega, by omega⟩
      simp [Instr.sliceAt, Instr.slice, Instr.sliceBounds, Instr.sliceBound, asIntOf, run_underlying ht, sizeOf, typeInfo, hinfo, hs, hb1, hkn]
    · refine ⟨_, _, _, rfl, by rw [List.length_drop, h1, Nat.sub_mul], by omega, by omega, ?_, fun hc => ?_⟩
      · intro hn
        by_cases e : c = k
        · omega
        · rw [if_neg e] at hn
          cases ad with
          | none => have := h4 rfl; omega
          | some _ => cases hn
      · have e : c ≠ k := by omega
        obtain ⟨g, i, cs, rfl, hb, h6, h7⟩ := h5 (by omega)
        refine ⟨g, i + k * size, cs, ?_, hb, ?_, fun j u hu => ?_⟩
        · rw [if_neg e]
          have hadd : (⟨g, i, none⟩ : Addr).add (k * size) = ⟨g, i + k * size, none⟩ := by unfold Addr.add; split <;> simp_all
          simp [hadd]
        · rw [Nat.sub_mul]
          have : k * size ≤ c * size := Nat.mul_le_mul_right _ (by omega)
          omega
        · rw [List.getElem?_drop] at hu
          rw [Nat.add_assoc]
          exact h7 _ u hu
    · intro b hb
      by_cases e : c = k
      · subst e
        simp only [if_true, Nat.sub_self] at hb
        cases ad <;> simp [rowBlock] at hb
      · rw [if_neg e] at hb
        cases ad with
        | none => simp [rowBlock] at hb
        | some ad =>
          simp only [Option.map_some, rowBlock] at hb
          rw [if_neg (by omega)] at hb
          have : c ≠ 0 := by omega
          simp only [rowBlock, if_neg this]
          rw [← hb]
          unfold Addr.add
          split <;> rfl

theorem op_slice_row {x lo : Operand} {k : Nat} (ho : o.op = .slice t x (some lo) none none) (hx : a.eval x = v) (hlo : a.eval lo = .int .i64 k) (ht : P.underlying t = some (.slice E)) (hs : (P.info? E).map (·.size) = some size)
    (hrow : Row w E size v xs) (hk : k * size ≤ xs.length) (hsz : 0 < size)
    (h : ∀ v', Row w E size v' (xs.drop (k * size)) → (∀ b, rowBlock v' = some b → rowBlock v = some b) → K (a.put o.dst v') w) : o.wp P a w K Q := by
  obtain ⟨v', hr, h1, h2⟩ := run_slice_row (k := k) ht hs hrow hk hsz
  refine op_run _ v' w (by rw [execOp_slice ho, hx]; simp only [Option.map_some, Option.map_none, hlo]) hr (h v' h1 h2)

theorem run_loadVarN {p : Addr} {vs : List Value} (ht : isAggB P t = some true) (hs : (P.info? t).map (·.size) = some vs.length) (hc : ∀ j v, vs[j]? = some v → w.cell? (p.add j) = some v) :
    (loadVar t p).run P w = .ok (.agg vs.toArray) w := by
  have := run_loadN ht hs hc
  simpa [Instr.loadAt, Instr.sureAddr] using this

/-- A struct result in its cell, and one more. -/
theorem results_cell_tmp {fn : Func} {x u : Tmp} {tmps : Array Value} {p : Addr} {vs : List Value} (hr : fn.results = #[.cell x t, .tmp u]) (hx : tmps.getD x undef = .pointer (some p))
    (ht : isAggB P t = some true) (hs : (P.info? t).map (·.size) = some vs.length) (hc : ∀ j v, vs[j]? = some v → w.cell? (p.add j) = some v) :
    (results fn tmps).run P w = .ok (.tuple #[.agg vs.toArray, tmps.getD u undef]) w := by
  simp only [Array.getD_eq_getD_getElem?] at hx
  simp [results, hr, hx, asAddr, run_loadVarN ht hs hc]

/-- A struct result in its cell. -/
theorem results_cell {fn : Func} {x : Tmp} {tmps : Array Value} {p : Addr} {vs : List Value} (hr : fn.results = #[.cell x t]) (hx : tmps.getD x undef = .pointer (some p))
    (ht : isAggB P t = some true) (hs : (P.info? t).map (·.size) = some vs.length) (hc : ∀ j v, vs[j]? = some v → w.cell? (p.add j) = some v) :
    (results fn tmps).run P w = .ok (.agg vs.toArray) w := by
  simp only [Array.getD_eq_getD_getElem?] at hx
  simp [results, hr, hx, asAddr, run_loadVarN ht hs hc]

theorem blk_cells {g : Nat} {T : TypeId} {vs : List Value} (h : Blk w g T vs.toArray) : ∀ j v, vs[j]? = some v → w.cell? ((⟨g, 0, none⟩ : Addr).add j) = some v := by
  intro j v hv
  have hadd : (⟨g, 0, none⟩ : Addr).add j = ⟨g, j, none⟩ := by unfold Addr.add; split <;> simp_all
  rw [hadd]
  exact h.cell (by simpa using hv)

/-- A call of a function value with one captured variable. -/
theorem op_call_fn {f y : Operand} {ats : Array TypeId} {fn : FuncId} {c u r : Value} (ho : o.op = .call { callee := .value f, args := #[y], argTypes := ats }) (hf : a.eval f = .func (.func fn) #[] #[c]) (hy : a.eval y = u)
    (hrun : ∀ (args : Array Value) (w : World), (callFunc fn args).run P w = .ok (.enter fn args) w) (hc : Calls P fn #[u, c] w fun e w' => e = .returned r ∧ w = w') (h : K (a.put o.dst r) w) : o.wp P a w K Q := by
  obtain ⟨dst, op, type, pos, after, guard⟩ := o
  cases ho
  unfold Oper.wp
  simp only [execOp, resolve, hf, Deferred.ofValue, Sem.run_bind, Sem.run_pure, Result.andThen_ok, invoke]
  have : (#[] ++ Array.map a.eval #[y] ++ #[c]) = #[u, c] := by simp [hy]
  rw [this, hrun, Oper.upon_enter]
  refine hc.mono fun e w' he => ?_
  obtain ⟨rfl, rfl⟩ := he
  exact h
end
end Go.Proofs.Ytioofhmkeajkpaa
