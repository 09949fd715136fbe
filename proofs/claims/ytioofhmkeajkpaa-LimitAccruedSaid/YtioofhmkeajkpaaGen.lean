/-
  Words for every seat of this kind: elements, rows by index, slices made, rows of the call's own, lists that are only read.
-/
import Derived.Test.YtioofhmkeajkpaaRowsAt
import Derived.Lib.Hide
import Derived.Test.YtioofhmkeajkpaaProg
namespace Go.Proofs.Ytioofhmkeajkpaa
open Go Go.RowKit
open Go.Maps (Keyed)

def upd2 {α : Type} (f : Nat → Nat → α) (i j : Nat) (v : α) : Nat → Nat → α := fun a b => if a = i ∧ b = j then v else f a b
theorem upd2_same {α : Type} (f : Nat → Nat → α) (i j : Nat) (v : α) : upd2 f i j v i j = v := by simp [upd2]
theorem upd2_ne {α : Type} (f : Nat → Nat → α) {i j a b : Nat} (v : α) (h : ¬ (a = i ∧ b = j)) : upd2 f i j v a b = f a b := by simp only [upd2, if_neg h]
/-- Element i of the slice v begins at cell k of block g. -/
structure Elem (v : Value) (size i g k : Nat) : Prop where
  eq : ∃ i0 n c, v = .slice (some ⟨g, i0, none⟩) n c ∧ k = i0 + i * size ∧ i < n ∧ n ≤ c
theorem Elem.block {v : Value} {size i g k : Nat} (h : Elem v size i g k) : rowBlock v = some g := by
  obtain ⟨i0, n, c, rfl, _, h1, h2⟩ := h.eq
  have : c ≠ 0 := by omega
  simp [rowBlock, this]
section
variable {P : Program} {ops : Array Oper} {o : Oper} {a : Act} {w w' W W' : World} {K : Act → World → Prop} {Q : Exit → Act → World → Prop} {t E : TypeId} {size : Nat} {v : Value} {xs : List Value} {F : Nat → Prop}
theorem Elem.run {i g k : Nat} (h : Elem v size i g k) (ht : P.underlying t = some (.slice E)) (hs : (P.info? E).map (·.size) = some size) (w : World) :
    (Instr.indexAt t v (.int .i64 i)).run P w = .ok (.pointer (some ⟨g, k, none⟩)) w := by
  obtain ⟨i0, n, c, rfl, rfl, h1, h2⟩ := h.eq
  cases hinfo : P.info? E with
  | none => rw [hinfo] at hs; cases hs
  | some ti =>
    rw [hinfo] at hs
    simp only [Option.map_some, Option.some.injEq] at hs
    have hadd : (⟨g, i0, none⟩ : Addr).add (i * size) = ⟨g, i0 + i * size, none⟩ := by unfold Addr.add; split <;> simp_all
    have hb1 : (0 : Int) ≤ (i : Int) ∧ (i : Int) < (n : Int) := ⟨by omega, by omega⟩
    simp [Instr.indexAt, asIntOf, run_underlying ht, sizeOf, typeInfo, hinfo, hs, hb1, hadd, h1]
theorem Row.elem (h : Row w E size v xs) {i : Nat} (hi : (i + 1) * size ≤ xs.length) (hsz : 0 < size) : ∃ g k, Elem v size i g k := by
  obtain ⟨ad, n, c, rfl, h1, h2, h3, h4, h5⟩ := h
  have hin : i < n := by
    rw [h1] at hi
    have := Nat.le_of_mul_le_mul_right hi hsz
    omega
  obtain ⟨g, i0, cs, rfl, hb, h6, h7⟩ := h5 (by omega)
  exact ⟨g, i0 + i * size, ⟨i0, n, c, rfl, rfl, hin, h2⟩⟩
theorem Elem.cell {i g k : Nat} (h : Elem v size i g k) (hr : Row w E size v xs) {j : Nat} {u : Value} (hu : xs[i * size + j]? = some u) : w.cell? ⟨g, k + j, none⟩ = some u := by
  obtain ⟨i0, n, c, rfl, rfl, h1, h2⟩ := h.eq
  have := hr.cells rfl _ _ hu
  have hadd : (⟨g, i0, none⟩ : Addr).add (i * size + j) = ⟨g, i0 + i * size + j, none⟩ := by unfold Addr.add; split <;> simp_all [Nat.add_assoc]
  rw [hadd] at this
  exact this
theorem op_elem {x y : Operand} {i g k : Nat} (ho : o.op = .indexAddr t x y) (hx : a.eval x = v) (hy : a.eval y = .int .i64 i) (ht : P.underlying t = some (.slice E)) (hs : (P.info? E).map (·.size) = some size)
    (he : Elem v size i g k) (h : K (a.put o.dst (.pointer (some ⟨g, k, none⟩))) w) : o.wp P a w K Q :=
  op_run _ (.pointer (some ⟨g, k, none⟩)) w (by rw [execOp_indexAddr ho, hx, hy]) (he.run ht hs w) h
theorem yldI_elem {x y : Operand} {j i g k : Nat} (ho : nth ops.toList j = some o) (hg : Region.wanted o (yielded ops a.tmps) = true) (hop : o.op = .indexAddr t x y) (hx : a.eval x = v) (hy : a.eval y = .int .i64 i)
    (ht : P.underlying t = some (.slice E)) (hs : (P.info? E).map (·.size) = some size) (he : Elem v size i g k) : YldI P ops j (.pointer (some ⟨g, k, none⟩)) a w :=
  yldI_of ho hg (by rw [execOp_indexAddr hop, hx, hy]; simp [he.run ht hs])
/-- v is a slice of n elements of 'size' cells; cell j of element i holds f i j. -/
def RowN (w : World) (E : TypeId) (size : Nat) (v : Value) (n : Nat) (f : Nat → Nat → Value) : Prop :=
  ∃ xs, Row w E size v xs ∧ xs.length = n * size ∧ ∀ i j, i < n → j < size → xs[i * size + j]? = some (f i j)
theorem RowN.keep {n : Nat} {f : Nat → Nat → Value} (h : RowN w E size v n f) (ht : Touch F w w') (hn : ∀ g, rowBlock v = some g → ¬ F g) : RowN w' E size v n f := by
  obtain ⟨xs, h1, h2⟩ := h
  exact ⟨xs, h1.keep ht hn, h2⟩
theorem RowN.elem {n : Nat} {f : Nat → Nat → Value} (h : RowN w E size v n f) {i : Nat} (hi : i < n) (hsz : 0 < size) : ∃ g k, Elem v size i g k := by
  obtain ⟨xs, h1, h2, _⟩ := h
  exact h1.elem (by rw [h2]; exact Nat.mul_le_mul_right _ hi) hsz
theorem RowN.cell {n : Nat} {f : Nat → Nat → Value} (h : RowN w E size v n f) {i g k : Nat} (he : Elem v size i g k) (hi : i < n) {j : Nat} (hj : j < size) : w.cell? ⟨g, k + j, none⟩ = some (f i j) := by
  obtain ⟨xs, h1, h2, h3⟩ := h
  exact he.cell h1 (h3 i j hi hj)
theorem RowN.len {n : Nat} {f : Nat → Nat → Value} (h : RowN w E size v n f) (hsz : 0 < size) : ∃ ad c, v = .slice ad n c ∧ n ≤ c := by
  obtain ⟨xs, h1, h2, h3⟩ := h
  obtain ⟨ad, c, rfl, h4, _⟩ := h1.len hsz h2
  exact ⟨ad, c, rfl, h4⟩
theorem RowN.congr {n : Nat} {f g : Nat → Nat → Value} (h : RowN w E size v n f) (e : ∀ i j, i < n → j < size → f i j = g i j) : RowN w E size v n g := by
  obtain ⟨xs, h1, h2, h3⟩ := h
  exact ⟨xs, h1, h2, fun i j hi hj => by rw [← e i j hi hj]; exact h3 i j hi hj⟩
theorem RowN.cells {n : Nat} {f : Nat → Nat → Value} (h : RowN w E size v n f) {i g k : Nat} (he : Elem v size i g k) (hi : i < n) {vs : List Value} (hv : vs.length = size) (hf : ∀ j u, vs[j]? = some u → f i j = u) :
    ∀ j u, vs[j]? = some u → w.cell? ((⟨g, k, none⟩ : Addr).add j) = some u := by
  intro j u hu
  have hj : j < size := by have := (List.getElem?_eq_some_iff.1 hu).1; omega
  have hadd : (⟨g, k, none⟩ : Addr).add j = ⟨g, k + j, none⟩ := by unfold Addr.add; split <;> simp_all
  rw [hadd, h.cell he hi hj, hf j u hu]
/-- One cell of an element is written. -/
theorem op_store_rowN {x y : Operand} {n i g k d : Nat} {f : Nat → Nat → Value} {u : Value} (ho : o.op = .store t x y) (hx : a.eval x = .pointer (some ⟨g, k + d, none⟩)) (hy : a.eval y = u) (hs : (P.info? t).map (·.size) = some 1) (h1 : u.oneCell' = true)
    (hr : RowN w E size v n f) (he : Elem v size i g k) (hi : i < n) (hd : d < size)
    (h : ∀ w', RowN w' E size v n (upd2 f i d u) → Touch (fun b => rowBlock v = some b) w w' → K (a.put o.dst undef) w') : o.wp P a w K Q := by
  obtain ⟨xs, hrow, hl, hf⟩ := hr
  have hrow' := hrow
  obtain ⟨ad, n', c, rfl, r1, r2, r3, r4, r5⟩ := hrow
  obtain ⟨i0, n2, c2, e1, rfl, hin, hnc⟩ := he.eq
  injection e1 with e1 e2 e3
  subst e1 e2 e3
  obtain ⟨g', i0', cs, e4, hb, hfit, hcs⟩ := r5 (by omega)
  injection e4 with e4
  injection e4 with e4 e5
  subst e4 e5
  have hmul : (i + 1) * size ≤ c * size := Nat.mul_le_mul_right _ (by omega)
  rw [Nat.add_mul] at hmul
  refine op_store1 ho hx hy hs h1 hb (by omega) fun w' hb' ht hz => h w' ⟨xs.set (i * size + d) u, ⟨_, _, _, rfl, by simpa using r1, r2, r3, r4, fun hc => ⟨g, i0, _, rfl, hb', by simpa using hfit, fun j z hz' => ?_⟩⟩, by simpa using hl, fun i' j' hi' hj' => ?_⟩ (ht.mono fun b _ e => by subst e; exact he.block)
  · by_cases e : j = i * size + d
    · subst e
      have hlt : i * size + d < xs.length := by
        have := (List.getElem?_eq_some_iff.1 hz').1
        simpa using this
      rw [List.getElem?_set_self hlt] at hz'
      rw [Nat.add_assoc, Array.getElem?_setIfInBounds_self_of_lt (by omega)]
      exact hz'
    · rw [List.getElem?_set_ne (fun h => e h.symm)] at hz'
      rw [Array.getElem?_setIfInBounds_ne (by omega)]
      exact hcs j z hz'
  · have hlt : i' * size + j' < xs.length := (List.getElem?_eq_some_iff.1 (hf i' j' hi' hj')).1
    by_cases e : i' = i ∧ j' = d
    · obtain ⟨rfl, rfl⟩ := e
      rw [upd2_same, List.getElem?_set_self hlt]
    · rw [upd2_ne _ _ e, List.getElem?_set_ne ?_]
      · exact hf i' j' hi' hj'
      · intro h
        have hs0 : 0 < size := by omega
        have h6 : (i * size + d) / size = i := by rw [Nat.mul_comm, Nat.mul_add_div hs0, Nat.div_eq_of_lt hd, Nat.add_zero]
        have h7 : (i' * size + j') / size = i' := by rw [Nat.mul_comm, Nat.mul_add_div hs0, Nat.div_eq_of_lt hj', Nat.add_zero]
        have h8 : i = i' := by rw [← h6, ← h7, h]
        subst h8
        omega
theorem row_one {w : World} {E : TypeId} {size : Nat} {v : Value} {xs : List Value} (h : Row w E size v xs) : v.oneCell' = true := by
  obtain ⟨ad, n, c, rfl, _⟩ := h; rfl
theorem Row.new (w : World) (E : TypeId) (cs : List Value) (_h0 : cs ≠ []) (h : cs.length ≤ 1000) : Row (w.alloc (.cells cs.toArray E)) E 1 (.slice (some ⟨w.heap.size, 0, none⟩) cs.length cs.length) cs := by
  have hb : Blk (w.alloc (.cells cs.toArray E)) w.heap.size E cs.toArray := obj_new w _
  exact ⟨_, _, _, rfl, by simp, Nat.le_refl _, by unfold maxLen; omega, (fun e => by cases e), fun _ => ⟨_, 0, _, rfl, hb, by simp, fun j u hu => by simpa using hu⟩⟩
/-- The cells that a row's elements are read from. -/
theorem Row.news (h : Row w E size v xs) : ∃ A m c, v = .slice A m c ∧ xs.length = m * size ∧ (∀ ad, A = some ad → ∀ j u, xs[j]? = some u → w.cell? (ad.add j) = some u) ∧ (A = none → m = 0) := by
  have h' := h
  obtain ⟨ad, n, c, rfl, h1, h2, h3, h4, h5⟩ := h'
  exact ⟨ad, n, c, rfl, h1, fun a ha => by subst ha; exact h.cells rfl, fun e => by have := h4 e; omega⟩
theorem Ext.new {w w' : World} {o : Obj} (h : Touch (· = w.heap.size) (w.alloc o) w') : Ext w w' := (Ext.alloc w o).trans h fun b hb e => by omega
theorem Blk.storeAll {w' : World} {g : Nat} {t : TypeId} {cs : Array Value} {vs : List Value} (h : Blk w' g t (overw cs 0 vs)) (hl : vs.length = cs.size) : Blk w' g t vs.toArray := by
  have : overw cs 0 vs = vs.toArray := by
    apply Array.ext_getElem?
    intro i
    rw [overw_get cs vs 0 i (by omega)]
    by_cases hi : i < vs.length
    · rw [if_pos ⟨Nat.zero_le _, by omega⟩]; simp
    · rw [if_neg (by omega)]
      rw [Array.getElem?_eq_none (by omega), Array.getElem?_eq_none (by simpa using Nat.le_of_not_lt hi)]
  rw [this] at h
  exact h
theorem Ext.below {w w' : World} (h : Ext w w') : Below w.heap.size w w' := ⟨h.os, h.tape, h.output, h.size, fun k hk => h.block k hk (fun h => h)⟩
end
theorem ext_none {W W' : World} {v : Value} (hv : rowBlock v = none) (h : Touch (fun b => rowBlock v = some b) W W') : Ext W W' := h.mono fun b _ e => by rw [hv] at e; cases e
section
variable {P : Program} {o : Oper} {a : Act} {w : World} {K : Act → World → Prop} {Q : Exit → Act → World → Prop} {t E : TypeId} {i : TypeInfo} {z : Value}
theorem execOp_buildSlice {ρ : Operand → Value} {n : Nat} {parts : Array (Nat × Operand)} (ho : o.op = .buildSlice t n parts) : execOp ρ o = (do pure (.value (← Instr.buildSlice t n (parts.map fun (i, x) => (i, ρ x))))) := by
  obtain ⟨dst, op, type, pos, after, guard⟩ := o; cases ho; rfl
/-- The frame written out by the walk. -/
theorem op_norm {dst : Option Tmp} {d : Tmp} {v : Value} (hd : dst = some d) (h : (Oper.mk (some d) (.assign (.const v)) 0 "" #[] none).wp Try.prog a w K (fun _ _ _ => False)) : K (a.put dst v) w := by
  subst hd; exact h
theorem op_done {dst : Option Tmp} {v : Value} (hd : dst = none) (h : K a w) : K (a.put dst v) w := by
  subst hd; exact h
/-- An empty slice of its own. -/
theorem op_build0 (ho : o.op = .buildSlice t 0 #[]) (ht : P.underlying t = some (.slice E)) (hi : P.info? E = some i)
    (h : ∀ v' w', Row w' E i.size v' [] → rowBlock v' = none → Ext w w' → K (a.put o.dst v') w') : o.wp P a w K Q := by
  refine op_run (Instr.buildSlice t 0 #[]) (.slice (some ⟨w.heap.size, 0, none⟩) 0 0) (w.alloc (.cells #[] E)) ?_ ?_ (h _ _ ?_ (by simp [rowBlock]) (Ext.alloc w _))
  · rw [execOp_buildSlice ho]; simp
  · have e0 : Array.range 0 = #[] := rfl
    simp [Instr.buildSlice, run_underlying ht, sizeOf, typeInfo, hi, Instr.fill, newRow, e0]
  · exact ⟨_, _, _, rfl, by simp, Nat.le_refl _, Nat.zero_le _, (fun h => by cases h), fun h => by omega⟩
/-- A slice of one element of one cell. -/
theorem op_build1 {x : Operand} {v : Value} (ho : o.op = .buildSlice t 1 #[(0, x)]) (hx : a.eval x = v) (ht : P.underlying t = some (.slice E)) (hi : P.info? E = some i) (hz : i.zero = some z) (hs : i.size = 1) (hzc : z.cells.size = 1) (h1 : v.oneCell' = true)
    (h : ∀ v' w', Row w' E 1 v' [v] → (∀ b, rowBlock v' = some b → w.heap.size ≤ b) → Ext w w' → K (a.put o.dst v') w') : o.wp P a w K Q := by
  have hcell : v.cells = #[v] := by cases v <;> first | rfl | (simp [Value.oneCell'] at h1; done)
  refine op_run (Instr.buildSlice t 1 #[(0, v)]) (.slice (some ⟨w.heap.size, 0, none⟩) 1 1) (w.alloc (.cells #[v] E)) ?_ ?_ (h _ _ (Row.new w E [v] (by simp) (by simp)) (fun b hb => by simp [rowBlock] at hb; omega) (Ext.alloc w _))
  · rw [execOp_buildSlice ho, ← hx]; simp
  · have e1 : Array.range 1 = #[0] := rfl
    simp [Instr.buildSlice, run_underlying ht, sizeOf, typeInfo, hi, hs, Instr.fill, newRow, hcell, zeroValue, hz, e1]
/-- A slice of one element of three cells. -/
theorem op_build3 {x : Operand} {a1 a2 a3 : Value} (ho : o.op = .buildSlice t 1 #[(0, x)]) (hx : a.eval x = .agg #[a1, a2, a3]) (ht : P.underlying t = some (.slice E)) (hi : P.info? E = some i) (hz : i.zero = some z) (hs : i.size = 3) (hzc : z.cells.size = 3)
    (h : ∀ v' w', Row w' E 3 v' [a1, a2, a3] → (∀ b, rowBlock v' = some b → w.heap.size ≤ b) → Ext w w' → K (a.put o.dst v') w') : o.wp P a w K Q := by
  have hb : Blk (w.alloc (.cells #[a1, a2, a3] E)) w.heap.size E #[a1, a2, a3] := obj_new w _
  refine op_run (Instr.buildSlice t 1 #[(0, .agg #[a1, a2, a3])]) (.slice (some ⟨w.heap.size, 0, none⟩) 1 1) (w.alloc (.cells #[a1, a2, a3] E)) ?_ ?_
    (h _ _ ⟨_, _, _, rfl, by simp, Nat.le_refl _, by unfold maxLen; omega, (fun e => by cases e), fun _ => ⟨_, 0, _, rfl, hb, by simp, fun j u hu => by simpa using hu⟩⟩ (fun b hb => by simp [rowBlock] at hb; omega) (Ext.alloc w _))
  · rw [execOp_buildSlice ho, ← hx]; simp
  · have e3 : Array.range 3 = #[0, 1, 2] := rfl
    have hc3 : (Value.agg #[a1, a2, a3]).cells = #[a1, a2, a3] := rfl
    simp [Instr.buildSlice, run_underlying ht, sizeOf, typeInfo, hi, hs, Instr.fill, newRow, zeroValue, hz, hc3, e3]
end

section
variable {P : Program} {o : Oper} {a : Act} {w : World} {t E : TypeId} {v : Value} {size : Nat}
theorem run_ld {x : Operand} {p : Addr} (hop : o.op = .load t x) (hx : a.eval x = .pointer (some p)) (ht : isAggB P t = some false) (hc : w.cell? p = some v) : (execOp a.eval o).run P w = .ok (.value v) w := by
  rw [execOp_load hop, hx]; simp [run_load1 ht hc]
theorem run_el {x y : Operand} {i g k : Nat} (hop : o.op = .indexAddr t x y) (hx : a.eval x = v) (hy : a.eval y = .int .i64 i)
    (ht : P.underlying t = some (.slice E)) (hs : (P.info? E).map (·.size) = some size) (he : Elem v size i g k) : (execOp a.eval o).run P w = .ok (.value (.pointer (some ⟨g, k, none⟩))) w := by
  rw [execOp_indexAddr hop, hx, hy]; simp [he.run ht hs]
end

section
variable {w W W' : World} {E : TypeId} {size : Nat} {v : Value} {xs : List Value}
/-- A row in memory that is not older than w. -/
structure OwnR (w W : World) (E : TypeId) (size : Nat) (v : Value) (xs : List Value) : Prop where
  row : Row W E size v xs
  new : ∀ b, rowBlock v = some b → w.heap.size ≤ b
  ext : Ext w W
theorem OwnR.then (h : OwnR w W E size v xs) (hE : Ext W W') : OwnR w W' E size v xs := ⟨h.row.keep hE fun _ _ h => h, h.new, h.ext.then_ext hE⟩

theorem op_append_own {P : Program} {o : Oper} {a : Act} {K : Act → World → Prop} {Q : Exit → Act → World → Prop} {x y : Operand} {t : TypeId} {i : TypeInfo} {z sv : Value} {bytes : Nat} {ys : List Value}
    (ho : o.op = .call { callee := .builtin .append, args := #[x, y], argTypes := #[t, t] }) (hx : a.eval x = v) (hy : a.eval y = sv) (ht : P.underlying t = some (.slice E)) (hi : P.info? E = some i) (hz : i.zero = some z)
    (hsize : i.size = size) (hby : i.bytes = bytes) (hzs : z.cells.size = size) (hsz : 0 < size) (hb : bytes ≤ 1000)
    (hv : OwnR w W E size v xs) (hs : Row W E size sv ys) (h1 : ∀ u ∈ ys, u.oneCell' = true) (hl : xs.length + ys.length ≤ 1000000)
    (h : ∀ v' W', OwnR w W' E size v' (xs ++ ys) → Touch (fun b => rowBlock v = some b) W W' → K (a.put o.dst v') W') : o.wp P a W K Q := by
  obtain ⟨A, m, c, hsv, hm, hn, hA⟩ := hs.news
  refine op_append ho hx hy ht hi hz hsize hby hzs hsz hv.row hsv hm hn hA h1 ?_ ?_ ?_
  · exact Nat.le_trans (Nat.mul_le_mul hl hb) (by omega)
  · unfold maxLen; omega
  · intro v' W' hr ht' hb'
    refine h v' W' ⟨hr, ?_, ?_⟩ ht'
    · intro b he
      rcases hb' with ⟨h1, _⟩ | ⟨h1, _⟩
      · exact hv.new b (by rw [← h1]; exact he)
      · rw [h1] at he
        injection he with he
        subst he
        exact hv.ext.size
    · exact hv.ext.trans ht' fun b hb he => by have := hv.new b he; omega
end
section
variable {P : Program} {o : Oper} {a : Act} {w : World} {K : Act → World → Prop} {Q : Exit → Act → World → Prop} {t : TypeId} {z : Value}
theorem op_alloc (ho : o.op = .alloc t) (hz : (P.info? t).bind (·.zero) = some z)
    (h : ∀ g w', Blk w' g t z.cells → w.heap.size ≤ g → Ext w w' → K (a.put o.dst (.pointer (some ⟨g, 0, none⟩))) w') : o.wp P a w K Q := by
  refine op_run (Instr.alloc t true (.tuple #[])) _ (w.alloc (.cells z.cells t)) ?_ ?_ (h _ _ (obj_new w _) (Nat.le_refl _) (Ext.alloc w _))
  · obtain ⟨dst, op, type, pos, after, guard⟩ := o; cases ho; rfl
  · cases hi : P.info? t with
    | none => rw [hi] at hz; cases hz
    | some i =>
      rw [hi] at hz
      simp only [Option.bind_some] at hz
      simp [Instr.alloc, zeroValue, typeInfo, hi, hz, newVar, newRow]
end

theorem run_len {P : Program} {o : Oper} {a : Act} {w : World} {t E : TypeId} {x : Operand} {v : Value} {xs : List Value} {size n : Nat} (hop : o.op = .call { callee := .builtin .len, args := #[x], argTypes := #[t] }) (hx : a.eval x = v) (ht : P.underlying t = some (.slice E)) (hrow : Row w E size v xs) (hsz : 0 < size) (hn : xs.length = n * size) :
    (execOp a.eval o).run P w = .ok (.value (.int .i64 n)) w := by
  obtain ⟨ad, c, rfl, _, _⟩ := hrow.len hsz hn
  have he : execOp a.eval o = (do pure (.value (← Builtin.len_ #[t] o.type #[.slice ad n c]))) := by
    rw [execOp_builtin1 hop, ← hx]
    simp only [List.map_toArray, List.map_cons, List.map_nil]
    rfl
  rw [he]
  simp [Builtin.len_, run_underlying ht, goInt]

theorem run_ldN {P : Program} {o : Oper} {a : Act} {w : World} {t : TypeId} {x : Operand} {p : Addr} {vs : List Value} (hop : o.op = .load t x) (hx : a.eval x = .pointer (some p)) (ht : isAggB P t = some true)
    (hs : (P.info? t).map (·.size) = some vs.length) (hc : ∀ j v, vs[j]? = some v → w.cell? (p.add j) = some v) : (execOp a.eval o).run P w = .ok (.value (.agg vs.toArray)) w := by
  rw [execOp_load hop, hx]; simp [run_loadN ht hs hc]
theorem OwnR.since {w w2 W : World} {E : TypeId} {size : Nat} {v : Value} {xs : List Value} (h : OwnR w2 W E size v xs) (hE : Ext w w2) : OwnR w W E size v xs := ⟨h.row, fun b hb => Nat.le_trans hE.size (h.new b hb), hE.then_ext h.ext⟩
section
variable {P : Program} {ops : Array Oper} {Q : Exit → Act → World → Prop} {t : RT} {S : List (Nat × Value)} {a : Act} {w : World}
/-- A read that is passed over, into a slot that holds nothing yet. -/
theorem cw_skip' {i : Nat} {o : Oper} (ho : nth ops.toList i = some o) (hg : Region.wanted o (yielded ops a.tmps) = false) (ha : a.put o.dst undef = a) (h : cwT P ops (Strict Q) t ((i, undef) :: S) a w) :
    cwT P ops (Strict Q) (.rd i t) S a w := cw_skip ho hg (by rw [ha]; exact h)
theorem cw_e1_skip' {i : Nat} {fl : List Nat} {o : Oper} (ho : nth ops.toList i = some o) (hg : Region.wanted o (yielded ops a.tmps) = false) (ha : a.put o.dst undef = a) (hf : floatsOk P ops fl S a w)
    (h : cwT P ops (Strict Q) t S a w) : cwT P ops (Strict Q) (.e1 i fl t) S a w := cw_e1_skip ho hg (by rw [ha]; exact hf) (by rw [ha]; exact h)
end
theorem op_makeMap {P : Program} {a : Act} {w : World} {K : Act → World → Prop} {Q : Exit → Act → World → Prop} {o : Oper} {t : TypeId} (ho : o.op = .makeMap t none)
    (h : K (a.put o.dst (.map (some w.heap.size))) (w.alloc (.map #[] 0))) : o.wp P a w K Q := by
  refine op_run (Instr.makeMap t none) _ _ ?_ (by rfl) h
  obtain ⟨dst, op, type, pos, after, guard⟩ := o; cases ho; rfl

theorem calls_val {P : Program} {f : FuncId} {args : Array Value} {w : World} {v : Value} {R : World → Prop} (h : Calls P f args w fun e w' => e = .returned v ∧ R w') :
    Calls P f args w fun e w' => ∃ r, e = .returned r ∧ (r = v ∧ R w') := h.mono fun _ _ h => ⟨_, h.1, rfl, h.2⟩
/-- A call of a function value: first arguments ahead, captured ones behind. -/
theorem op_call_val {P : Program} {o : Oper} {a : Act} {w : World} {K : Act → World → Prop} {Q : Exit → Act → World → Prop} {f : Operand} {xs : Array Operand} {ats : Array TypeId} {fn : FuncId} {first cap zs : Array Value} {R : Value → World → Prop}
    (ho : o.op = .call { callee := .value f, args := xs, argTypes := ats }) (hf : a.eval f = .func (.func fn) first cap) (hz : first ++ xs.map a.eval ++ cap = zs)
    (hrun : ∀ (args : Array Value) (w : World), (callFunc fn args).run P w = .ok (.enter fn args) w) (hc : Calls P fn zs w fun e w' => ∃ r, e = .returned r ∧ R r w') (h : ∀ r w', R r w' → K (a.put o.dst r) w') : o.wp P a w K Q := by
  obtain ⟨dst, op, type, pos, after, guard⟩ := o
  cases ho
  unfold Oper.wp
  simp only [execOp, resolve, hf, Deferred.ofValue, Sem.run_bind, Sem.run_pure, Result.andThen_ok, invoke]
  rw [hz, hrun, Oper.upon_enter]
  refine hc.mono fun e w' he => ?_
  obtain ⟨r, rfl, hr⟩ := he
  exact h r w' hr

/-! ### a slice of one element of several cells -/
theorem fold_overw : ∀ (vs : List Value) (k : Nat) (cs : Array Value), (vs.zipIdx k).foldl (fun cs (p : Value × Nat) => cs.setIfInBounds (0 + p.2) p.1) cs = overw cs k vs
  | [], _, _ => rfl
  | v :: vs, k, cs => by
    rw [List.zipIdx_cons, List.foldl_cons, fold_overw vs (k + 1)]
    simp [overw]
theorem overw_all {cs : Array Value} {vs : List Value} (h : vs.length = cs.size) : overw cs 0 vs = vs.toArray := by
  apply Array.ext_getElem?
  intro j
  rw [overw_get _ _ _ _ (by omega)]
  by_cases hj : j < vs.length
  · rw [if_pos ⟨by omega, by omega⟩]; simp
  · rw [if_neg (by omega), Array.getElem?_eq_none (by omega), List.getElem?_toArray, List.getElem?_eq_none (by omega)]
section
variable {P : Program} {o : Oper} {a : Act} {w : World} {K : Act → World → Prop} {Q : Exit → Act → World → Prop} {t E : TypeId} {i : TypeInfo} {z : Value}
theorem op_buildN {x : Operand} {vs : List Value} (ho : o.op = .buildSlice t 1 #[(0, x)]) (hx : a.eval x = .agg vs.toArray) (ht : P.underlying t = some (.slice E)) (hi : P.info? E = some i) (hz : i.zero = some z) (hs : i.size = vs.length) (hzc : z.cells.size = vs.length)
    (h0 : 0 < vs.length) (h1000 : vs.length ≤ 1000)
    (h : ∀ v' w', Row w' E vs.length v' vs → (∀ b, rowBlock v' = some b → w.heap.size ≤ b) → Ext w w' → K (a.put o.dst v') w') : o.wp P a w K Q := by
  have hb : Blk (w.alloc (.cells vs.toArray E)) w.heap.size E vs.toArray := obj_new w _
  refine op_run (Instr.buildSlice t 1 #[(0, .agg vs.toArray)]) (.slice (some ⟨w.heap.size, 0, none⟩) 1 1) (w.alloc (.cells vs.toArray E)) ?_ ?_
    (h _ _ ⟨_, _, _, rfl, by simp, Nat.le_refl _, by unfold maxLen; omega, (fun e => by cases e), fun _ => ⟨_, 0, _, rfl, hb, by simp, fun j u hu => by simpa using hu⟩⟩ (fun b hb => by simp [rowBlock] at hb; omega) (Ext.alloc w _))
  · rw [execOp_buildSlice ho, ← hx]; simp
  · have hc : (Value.agg vs.toArray).cells = vs.toArray := rfl
    have hl : ¬ (2 ^ 24 < vs.length) := by omega
    have hne : vs ≠ [] := fun e => by rw [e] at h0; simp at h0
    have hf : ∀ cs : Array Value, cs.size = vs.length → vs.toArray.zipIdx.foldl (fun cs (p : Value × Nat) => cs.setIfInBounds (0 + p.2) p.1) cs = vs.toArray := fun cs hcs => by
      rw [← Array.foldl_toList]
      simp only [Array.toList_zipIdx]
      rw [fold_overw, overw_all hcs.symm]
    have hf' := hf ((Array.range vs.length).map (z.cells[· % z.cells.size]!)) (by simp)
    rw [← Array.foldl_toList] at hf'
    simp only [Array.toList_zipIdx, Nat.zero_add] at hf'
    simp [Instr.buildSlice, run_underlying ht, sizeOf, typeInfo, hi, hs, hl, hne, Instr.fill, newRow, zeroValue, hz, hc]
    rw [hf']
end

/-! ### lists that are only read -/
/-- v is a slice of the elements l, 'size' cells each; its memory may only be read. -/
def RL {α : Type} (cells : α → List Value) (size : Nat) (w : World) (v : Value) (l : List α) : Prop :=
  ∃ (ad : Option Addr) (c : Nat), v = .slice ad l.length c ∧ l.length ≤ c ∧ c ≤ maxLen ∧ (0 < l.length → ad ≠ none) ∧
    ∀ a, ad = some a → ∀ (i : Nat) (o : α), l[i]? = some o → ∀ (j : Nat) (u : Value), (cells o)[j]? = some u → w.cell? (a.add (i * size + j)) = some u
def rlBlock : Value → Option Nat
  | .slice (some a) _ _ => some a.block
  | _ => none

section
variable {P : Program} {a : Act} {w w' : World} {K : Act → World → Prop} {Q : Exit → Act → World → Prop} {o : Oper} {v : Value} {F : Nat → Prop} {t : TypeId} {α : Type} {cells : α → List Value} {size : Nat} {l : List α}
theorem add_twice (a : Addr) (i j : Nat) : (a.add i).add j = a.add (i + j) := by
  unfold Addr.add
  by_cases hi : i = 0 <;> by_cases hj : j = 0 <;> simp [hi, hj, Nat.add_assoc]
theorem add_block (a : Addr) (k : Nat) : (a.add k).block = a.block := by unfold Addr.add; split <;> rfl
theorem RL.nil (w : World) : RL cells size w (.slice none 0 0) [] := ⟨none, 0, rfl, Nat.le_refl _, Nat.zero_le _, fun h => by simp at h, fun _ h => by cases h⟩
theorem RL.slice (h : RL cells size w v l) : ∃ ad c, v = .slice ad l.length c := by
  obtain ⟨ad, c, e, _⟩ := h
  exact ⟨ad, c, e⟩
theorem RL.one (h : RL cells size w v l) : v.oneCell' = true := by
  obtain ⟨ad, c, e, _⟩ := h
  rw [e]; rfl
theorem RL.keep (h : RL cells size w v l) (ht : Touch F w w') (hF : ∀ b, rlBlock v = some b → ¬ F b) : RL cells size w' v l := by
  obtain ⟨ad, c, rfl, h1, h2, h3, h4⟩ := h
  refine ⟨ad, c, rfl, h1, h2, h3, fun a ha i o hi j u hj => ht.cell (h4 a ha i o hi j u hj) ?_⟩
  rw [add_block]
  exact hF _ (by rw [ha]; rfl)
theorem RL.ext (h : RL cells size w v l) (hE : Ext w w') : RL cells size w' v l := h.keep hE (fun _ _ h => h)
theorem RL.drew (h : RL cells size w v l) : RL cells size w.drew v l := h.keep (F := fun _ => False) ((Touch.refl _ w).drew) (fun _ _ h => h)

theorem op_len_rl {x : Operand} {E : TypeId} (ho : o.op = .call { callee := .builtin .len, args := #[x], argTypes := #[t] }) (hx : a.eval x = v) (ht : P.underlying t = some (.slice E)) (hl : RL cells size w v l)
    (h : K (a.put o.dst (.int .i64 l.length)) w) : o.wp P a w K Q := by
  obtain ⟨ad, c, rfl, _⟩ := hl
  refine op_run (Builtin.len_ #[t] o.type #[.slice ad l.length c]) _ w ?_ ?_ h
  · rw [execOp_builtin1 ho, ← hx]
    simp only [List.map_toArray, List.map_cons, List.map_nil]
    rfl
  · simp [Builtin.len_, run_underlying ht, goInt]

theorem op_index_rl {x y : Operand} {E : TypeId} {i : Nat} (ho : o.op = .indexAddr t x y) (hx : a.eval x = v) (hy : a.eval y = .int .i64 i) (ht : P.underlying t = some (.slice E)) (hs : (P.info? E).map (·.size) = some size)
    (hl : RL cells size w v l) (hi : i < l.length)
    (h : ∀ p : Addr, (∀ (j : Nat) (u : Value), (cells (l[i]'hi))[j]? = some u → w.cell? (p.add j) = some u) → (∀ b, p.block = b → rlBlock v = some b) → K (a.put o.dst (.pointer (some p))) w) : o.wp P a w K Q := by
  obtain ⟨ad, c, rfl, h1, h2, h3, h4⟩ := hl
  obtain ⟨a0, rfl⟩ := Option.ne_none_iff_exists'.1 (h3 (by omega))
  have haa : ∀ j, (a0.add (i * size)).add j = a0.add (i * size + j) := fun j => add_twice a0 _ _
  refine op_run _ (.pointer (some (a0.add (i * size)))) w (by rw [execOp_indexAddr ho, hx, hy]) ?_ (h (a0.add (i * size)) (fun j u hj => by rw [haa]; exact h4 a0 rfl i _ (List.getElem?_eq_getElem hi) j u hj) (fun b hb => by rw [add_block] at hb; simp [rlBlock, hb]))
  cases hinfo : P.info? E with
  | none => rw [hinfo] at hs; cases hs
  | some ti =>
    rw [hinfo] at hs
    simp only [Option.map_some, Option.some.injEq] at hs
    have hb1 : (0 : Int) ≤ (i : Int) ∧ (i : Int) < (l.length : Int) := ⟨by omega, by omega⟩
    simp [Instr.indexAt, asIntOf, run_underlying ht, sizeOf, typeInfo, hinfo, hs, hb1, hi]
theorem RL.of_row {E : TypeId} {xs : List Value} (h : Row w E size v xs) (hsz : 0 < size) (hx : xs = l.flatMap cells) (hc : ∀ x, (cells x).length = size) : RL cells size w v l := by
  have hlen : ∀ l' : List α, (l'.flatMap cells).length = l'.length * size := by
    intro l'
    induction l' with
    | nil => simp
    | cons x l' ih => rw [List.flatMap_cons, List.length_append, ih, hc, List.length_cons, Nat.add_mul]; omega
  have hget : ∀ (l' : List α) (i j : Nat) (x : α) (u : Value), l'[i]? = some x → (cells x)[j]? = some u → (l'.flatMap cells)[i * size + j]? = some u := by
    intro l'
    induction l' with
    | nil => intro i j x u hi; simp at hi
    | cons y l' ih =>
      intro i j x u hi hj
      rw [List.flatMap_cons]
      cases i with
      | zero =>
        simp only [List.getElem?_cons_zero, Option.some.injEq] at hi
        subst hi
        have := (List.getElem?_eq_some_iff.1 hj).1
        rw [Nat.zero_mul, Nat.zero_add, List.getElem?_append_left this]
        exact hj
      | succ i =>
        rw [List.getElem?_cons_succ] at hi
        rw [List.getElem?_append_right (by rw [hc, Nat.add_mul]; omega), hc]
        have e : (i + 1) * size + j - size = i * size + j := by rw [Nat.add_mul]; omega
        rw [e]
        exact ih i j x u hi hj
  have hr := h
  obtain ⟨ad, n, c, rfl, h1, h2, h3, h4, h5⟩ := h
  have hn : n = l.length := by
    rw [hx, hlen] at h1
    exact (Nat.eq_of_mul_eq_mul_right hsz h1).symm
  subst hn
  refine ⟨ad, c, rfl, h2, h3, fun h0 hn => ?_, fun a ha i o hi j u hj => ?_⟩
  · have := h4 hn; omega
  · subst ha
    exact hr.cells rfl _ _ (by rw [hx]; exact hget l i j o u hi hj)
end
end Go.Proofs.Ytioofhmkeajkpaa
