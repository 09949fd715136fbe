/-
  Words for memory, and the operations of a walk as laws on blocks: loads, stores, new blocks, maps, append.
-/
import Derived.Test.YtioofhmkeajkpaaRt
import Derived.Maps.Keyed
import Derived.WalkSpells
import Derived.WalkLawsBesides
namespace Go.Proofs.Ytioofhmkeajkpaa
open Go Go.RowKit

/-! ### what a stretch of a run leaves as it was -/
/-- Only blocks of F, and new ones, have turned. -/
structure Touch (F : Nat → Prop) (w w' : World) : Prop where
  os : w'.os = w.os
  tape : w'.tape = w.tape
  output : w'.output = w.output
  size : w.heap.size ≤ w'.heap.size
  block : ∀ b, b < w.heap.size → ¬ F b → w'.heap[b]? = w.heap[b]?

abbrev Ext (w w' : World) : Prop := Touch (fun _ => False) w w'

section
variable {F G : Nat → Prop} {w w' w'' : World}
theorem Touch.refl (F : Nat → Prop) (w : World) : Touch F w w := ⟨rfl, rfl, rfl, Nat.le_refl _, fun _ _ _ => rfl⟩
theorem Touch.drew (h : Touch F w w') : Touch F w w'.drew := ⟨h.os, h.tape, h.output, h.size, h.block⟩
theorem Touch.mono (h : Touch F w w') (hg : ∀ b, b < w.heap.size → F b → G b) : Touch G w w' :=
  ⟨h.os, h.tape, h.output, h.size, fun b hb hn => h.block b hb (fun hf => hn (hg b hb hf))⟩
theorem Touch.trans (h : Touch F w w') (h' : Touch G w' w'') (hg : ∀ b, b < w.heap.size → G b → F b) : Touch F w w'' :=
  ⟨h'.os.trans h.os, h'.tape.trans h.tape, h'.output.trans h.output, Nat.le_trans h.size h'.size,
    fun b hb hn => (h'.block b (Nat.lt_of_lt_of_le hb h.size) (fun hf => hn (hg b hb hf))).trans (h.block b hb hn)⟩
theorem Touch.of_ext (h : Ext w w') : Touch F w w' := h.mono fun _ _ hf => hf.elim
theorem Touch.then_ext (h : Touch F w w') (h' : Ext w' w'') : Touch F w w'' := h.trans h' fun _ _ hf => hf.elim
theorem Touch.alloc (h : Touch F w w') (o : Obj) : Touch F w (w'.alloc o) :=
  ⟨h.os, h.tape, h.output, Nat.le_trans h.size (by simp), fun b hb hn => by
    rw [← h.block b hb hn]
    have hs := h.size
    simp only [World.alloc, Array.getElem?_push]
    rw [if_neg (by omega)]⟩
theorem Touch.cell (h : Touch F w w') {a : Addr} {v : Value} (hc : w.cell? a = some v) (hn : ¬ F a.block) : w'.cell? a = some v :=
  (World.cell?_of_block (h.block a.block (World.block_lt_of_cell? w a hc) hn)).trans hc
theorem Touch.frozen (h : Touch F w w') {a : Addr} {b : Bool} (ha : a.block < w.heap.size) (hc : w.frozen? a = b) (hn : ¬ F a.block) : w'.frozen? a = b :=
  (World.frozen?_of_block (h.block a.block ha hn)).trans hc
theorem Touch.obj (h : Touch F w w') {b : Nat} {o : Obj} (hc : w.heap[b]? = some o) (hn : ¬ F b) : w'.heap[b]? = some o := by
  rw [h.block b (Array.getElem?_eq_some_iff.1 hc).1 hn]; exact hc
theorem Ext.alloc (w : World) (o : Obj) : Ext w (w.alloc o) := (Touch.refl _ w).alloc o
theorem obj_lt {b : Nat} {o : Obj} (hc : w.heap[b]? = some o) : b < w.heap.size := (Array.getElem?_eq_some_iff.1 hc).1
theorem obj_new (w : World) (o : Obj) : (w.alloc o).heap[w.heap.size]? = some o := heap_alloc_new w o
theorem obj_alloc {b : Nat} {o : Obj} (hc : w.heap[b]? = some o) (o' : Obj) : (w.alloc o').heap[b]? = some o := (Ext.alloc w o').obj hc (fun h => h)
theorem cell_drew {a : Addr} {v : Value} (hc : w.cell? a = some v) : w.drew.cell? a = some v := hc
theorem cell_alloc {a : Addr} {v : Value} (hc : w.cell? a = some v) (o' : Obj) : (w.alloc o').cell? a = some v := (Ext.alloc w o').cell hc (fun h => h)
end

/-- Block g of w is a row of cells, none frozen. -/
abbrev Blk (w : World) (g : Nat) (t : TypeId) (cs : Array Value) : Prop := w.heap[g]? = some (.cells cs t (0, 0))

section
variable {w w' : World} {g : Nat} {t : TypeId} {cs : Array Value}
theorem Blk.cell (h : Blk w g t cs) {i : Nat} {v : Value} (hv : cs[i]? = some v) : w.cell? ⟨g, i, none⟩ = some v := by
  simp [World.cell?, h, hv]
theorem Blk.frozen (h : Blk w g t cs) (i : Nat) : w.frozen? ⟨g, i, none⟩ = false := by
  simp [World.frozen?, h]
theorem Blk.set (h : Blk w g t cs) (i : Nat) (u : Value) : Blk (w.setCell ⟨g, i, none⟩ u) g t (cs.setIfInBounds i u) := by
  show (w.setCell ⟨g, i, none⟩ u).heap[g]? = _
  have h' : w.heap[g]? = _ := h
  simp only [World.setCell, Array.getElem?_modify, h', if_true, Option.map_some]
  rfl
theorem touch_setCell (w : World) (g i : Nat) (u : Value) : Touch (· = g) w (w.setCell ⟨g, i, none⟩ u) :=
  ⟨rfl, rfl, rfl, by simp, fun b _ hn => by
    simp only [World.setCell, Array.getElem?_modify]
    rw [if_neg (fun e => hn e.symm)]⟩
end

def isAggB (P : Program) (t : TypeId) : Option Bool := (P.underlying t).map fun | .struct _ | .array _ _ => true | _ => false

section
variable {P : Program} {o : Oper} {a : Act} {w : World} {K : Act → World → Prop} {Q : Exit → Act → World → Prop}

theorem run_isAgg {t : TypeId} {b : Bool} (h : isAggB P t = some b) (w : World) : (isAgg t).run P w = .ok b w := by
  unfold isAggB at h
  cases hu : P.underlying t with
  | none => rw [hu] at h; cases h
  | some d =>
    rw [hu] at h
    simp only [Option.map_some, Option.some.injEq] at h
    subst h
    cases d <;> simp [isAgg, run_underlying hu]

/-- An operation that gives a value. -/
theorem op_run (s : Sem Value) (v : Value) (w' : World) (he : execOp a.eval o = (do pure (.value (← s)))) (hr : s.run P w = .ok v w') (h : K (a.put o.dst v) w') : o.wp P a w K Q := by
  unfold Oper.wp
  rw [he]
  simp only [Sem.run_bind, hr, Result.andThen_ok, Sem.run_pure, Oper.upon]
  exact h

/-- An operation that gives none. -/
theorem op_skip (s : Sem Unit) (w' : World) (he : execOp a.eval o = (do s; pure .skip)) (hr : s.run P w = .ok () w') (h : K (a.put o.dst undef) w') : o.wp P a w K Q := by
  unfold Oper.wp
  rw [he]
  simp only [Sem.run_bind, hr, Result.andThen_ok, Sem.run_pure, Oper.upon]
  exact h

/-! ### loads and stores -/
theorem execOp_load {ρ : Operand → Value} {t : TypeId} {x : Operand} (ho : o.op = .load t x) : execOp ρ o = (do pure (.value (← Instr.loadAt t (ρ x)))) := by
  obtain ⟨dst, op, type, pos, after, guard⟩ := o; cases ho; rfl
theorem execOp_store {ρ : Operand → Value} {t : TypeId} {x y : Operand} (ho : o.op = .store t x y) : execOp ρ o = (do Instr.storeAt t (ρ x) (ρ y); pure .skip) := by
  obtain ⟨dst, op, type, pos, after, guard⟩ := o; cases ho; rfl
theorem run_load1 {t : TypeId} {p : Addr} {v : Value} (ht : isAggB P t = some false) (hc : w.cell? p = some v) : (Instr.loadAt t (.pointer (some p))).run P w = .ok v w := by
  simp [Instr.loadAt, Instr.sureAddr, loadVar, run_isAgg ht, hc]

theorem run_loadN {t : TypeId} {p : Addr} {vs : List Value} (ht : isAggB P t = some true) (hs : (P.info? t).map (·.size) = some vs.length) (hc : ∀ j v, vs[j]? = some v → w.cell? (p.add j) = some v) :
    (Instr.loadAt t (.pointer (some p))).run P w = .ok (.agg vs.toArray) w := by
  cases hi : P.info? t with
  | none => rw [hi] at hs; cases hs
  | some i =>
    rw [hi] at hs
    simp only [Option.map_some, Option.some.injEq] at hs
    simp [Instr.loadAt, Instr.sureAddr, loadVar, run_isAgg ht, sizeOf, typeInfo, hi, hs, run_loadCells_list w p vs hc]

theorem op_load1 {t : TypeId} {x : Operand} {p : Addr} {v : Value} (ho : o.op = .load t x) (hx : a.eval x = .pointer (some p)) (ht : isAggB P t = some false) (hc : w.cell? p = some v)
    (h : K (a.put o.dst v) w) : o.wp P a w K Q :=
  op_run _ v w (by rw [execOp_load ho, hx]) (run_load1 ht hc) h

theorem op_loadN {t : TypeId} {x : Operand} {p : Addr} {vs : List Value} (ho : o.op = .load t x) (hx : a.eval x = .pointer (some p)) (ht : isAggB P t = some true)
    (hs : (P.info? t).map (·.size) = some vs.length) (hc : ∀ j v, vs[j]? = some v → w.cell? (p.add j) = some v)
    (h : K (a.put o.dst (.agg vs.toArray)) w) : o.wp P a w K Q :=
  op_run _ _ w (by rw [execOp_load ho, hx]) (run_loadN ht hs hc) h

theorem run_store1 {t : TypeId} {g i : Nat} {T : TypeId} {cs : Array Value} {v : Value} (hs : (P.info? t).map (·.size) = some 1) (h1 : v.oneCell' = true) (hb : Blk w g T cs) (hi : i < cs.size) :
    (Instr.storeAt t (.pointer (some ⟨g, i, none⟩)) v).run P w = .ok () (w.setCell ⟨g, i, none⟩ v) := by
  have hc : w.cell? ⟨g, i, none⟩ = some cs[i] := hb.cell (Array.getElem?_eq_getElem hi)
  have hf := hb.frozen i
  have hcell : v.cells = #[v] := by cases v <;> first | rfl | (simp [Value.oneCell'] at h1; done)
  cases hinfo : P.info? t with
  | none => rw [hinfo] at hs; cases hs
  | some ti =>
    rw [hinfo] at hs
    simp only [Option.map_some, Option.some.injEq] at hs
    simp [Instr.storeAt, Instr.sureAddr, storeVar, sizeOf, typeInfo, hinfo, hs, hcell, storeCells, run_store _ _ _ _ _ h1, Addr.add, hc, hf]

theorem op_store1 {t : TypeId} {x y : Operand} {g i : Nat} {T : TypeId} {cs : Array Value} {v : Value} (ho : o.op = .store t x y) (hx : a.eval x = .pointer (some ⟨g, i, none⟩)) (hy : a.eval y = v)
    (hs : (P.info? t).map (·.size) = some 1) (h1 : v.oneCell' = true) (hb : Blk w g T cs) (hi : i < cs.size)
    (h : ∀ w', Blk w' g T (cs.setIfInBounds i v) → Touch (· = g) w w' → w'.heap.size ≤ w.heap.size → K (a.put o.dst undef) w') : o.wp P a w K Q :=
  op_skip _ _ (by rw [execOp_store ho, hx, hy]) (run_store1 hs h1 hb hi) (h _ (hb.set i v) (touch_setCell w g i v) (by simp))

/-- The cells from i on, written over by a list. -/
def overw (cs : Array Value) (i : Nat) : List Value → Array Value
  | [] => cs
  | v :: vs => overw (cs.setIfInBounds i v) (i + 1) vs

theorem overw_size (cs : Array Value) : ∀ (vs : List Value) (i : Nat), (overw cs i vs).size = cs.size := by
  intro vs
  induction vs generalizing cs with
  | nil => intro i; rfl
  | cons v vs ih => intro i; simp [overw, ih]

theorem overw_get (cs : Array Value) : ∀ (vs : List Value) (i j : Nat), i + vs.length ≤ cs.size → (overw cs i vs)[j]? = if i ≤ j ∧ j < i + vs.length then vs[j - i]? else cs[j]? := by
  intro vs
  induction vs generalizing cs with
  | nil => intro i j _; simp [overw]; intro h1 h2; omega
  | cons v vs ih =>
    intro i j h
    simp only [List.length_cons] at h
    rw [overw, ih _ _ _ (by simp; omega)]
    by_cases h1 : i + 1 ≤ j ∧ j < i + 1 + vs.length
    · rw [if_pos h1, if_pos (by simp; omega)]
      have : j - i = (j - (i + 1)) + 1 := by omega
      rw [this, List.getElem?_cons_succ]
    · rw [if_neg h1]
      by_cases h2 : i = j
      · subst h2
        rw [if_pos (by simp)]
        have hi : i < cs.size := by omega
        simp [hi]
      · rw [if_neg (by simp only [List.length_cons]; omega), Array.getElem?_setIfInBounds_ne h2]

theorem run_storeCells_blk {T : TypeId} {g : Nat} (i0 : Nat) : ∀ (vs : List Value) (k : Nat) (cs : Array Value) (w : World), Blk w g T cs → i0 + k + vs.length ≤ cs.size → (∀ v ∈ vs, v.oneCell' = true) →
    ∃ w', (storeCells ⟨g, i0, none⟩ vs k).run P w = .ok () w' ∧ Blk w' g T (overw cs (i0 + k) vs) ∧ Touch (· = g) w w' ∧ w'.heap.size = w.heap.size
  | [], k, cs, w, hb, _, _ => ⟨w, rfl, hb, Touch.refl _ w, rfl⟩
  | v :: vs, k, cs, w, hb, hl, h1 => by
    simp only [List.length_cons] at hl
    have hadd : (⟨g, i0, none⟩ : Addr).add k = ⟨g, i0 + k, none⟩ := by unfold Addr.add; split <;> simp_all
    have hc : w.cell? ⟨g, i0 + k, none⟩ = some (cs[i0 + k]'(by omega)) := hb.cell (Array.getElem?_eq_getElem (by omega))
    have hf := hb.frozen (i0 + k)
    obtain ⟨w', hr, hb', ht, hz⟩ := run_storeCells_blk i0 vs (k + 1) (cs.setIfInBounds (i0 + k) v) (w.setCell ⟨g, i0 + k, none⟩ v) (hb.set _ v) (by simp; omega) (fun u hu => h1 u (by simp [hu]))
    refine ⟨w', ?_, ?_, ?_, ?_⟩
    · simp [storeCells, hadd, run_store _ _ _ _ _ (h1 v (by simp)), hc, hf, hr]
    · simpa [overw, Nat.add_assoc] using hb'
    · exact (touch_setCell w g (i0 + k) v).trans ht (fun _ _ h => h)
    · simpa using hz

theorem op_storeN {t : TypeId} {x y : Operand} {g i : Nat} {T : TypeId} {cs : Array Value} {vs : List Value} (ho : o.op = .store t x y) (hx : a.eval x = .pointer (some ⟨g, i, none⟩)) (hy : a.eval y = .agg vs.toArray)
    (hs : (P.info? t).map (·.size) = some vs.length) (h1 : ∀ v ∈ vs, v.oneCell' = true) (hb : Blk w g T cs) (hi : i + vs.length ≤ cs.size)
    (h : ∀ w', Blk w' g T (overw cs i vs) → Touch (· = g) w w' → w'.heap.size ≤ w.heap.size → K (a.put o.dst undef) w') : o.wp P a w K Q := by
  obtain ⟨w', hr, hb', ht, hz⟩ := run_storeCells_blk (P := P) i vs 0 cs w hb (by simpa using hi) h1
  refine op_skip _ w' (by rw [execOp_store ho, hx, hy]) ?_ (h w' hb' ht (Nat.le_of_eq hz))
  cases hinfo : P.info? t with
  | none => rw [hinfo] at hs; cases hs
  | some ti =>
    rw [hinfo] at hs
    simp only [Option.map_some, Option.some.injEq] at hs
    simp [Instr.storeAt, Instr.sureAddr, storeVar, sizeOf, typeInfo, hinfo, hs, Value.cells, hr]
end

/-! ### rows: slices whose memory may be written -/
/-- v is a slice of elements of 'size' cells of type E whose cells are xs; its block, if it has one, is a row that may be written. -/
def Row (w : World) (E : TypeId) (size : Nat) (v : Value) (xs : List Value) : Prop :=
  ∃ (ad : Option Addr) (n c : Nat), v = .slice ad n c ∧ xs.length = n * size ∧ n ≤ c ∧ c ≤ maxLen ∧ (ad = none → c = 0) ∧
    (0 < c → ∃ g i cs, ad = some ⟨g, i, none⟩ ∧ Blk w g E cs ∧ i + c * size ≤ cs.size ∧ ∀ j u, xs[j]? = some u → cs[i + j]? = some u)

/-- The block of a slice that has room. -/
def rowBlock : Value → Option Nat
  | .slice (some a) _ c => if c = 0 then none else some a.block
  | _ => none

section
variable {w w' : World} {E : TypeId} {size : Nat} {v : Value} {xs : List Value} {F : Nat → Prop}
theorem Row.nil (w : World) (E : TypeId) (size : Nat) : Row w E size (.slice none 0 0) [] := ⟨none, 0, 0, rfl, by simp, Nat.le_refl _, Nat.zero_le _, fun _ => rfl, fun h => by omega⟩
theorem Row.keep (h : Row w E size v xs) (ht : Touch F w w') (hn : ∀ g, rowBlock v = some g → ¬ F g) : Row w' E size v xs := by
  obtain ⟨ad, n, c, rfl, h1, h2, h3, h4, h5⟩ := h
  refine ⟨ad, n, c, rfl, h1, h2, h3, h4, fun hc => ?_⟩
  obtain ⟨g, i, cs, rfl, hb, h6, h7⟩ := h5 hc
  exact ⟨g, i, cs, rfl, ht.obj hb (hn g (by simp [rowBlock]; omega)), h6, h7⟩
theorem Row.lt (h : Row w E size v xs) {g : Nat} (hg : rowBlock v = some g) : g < w.heap.size := by
  obtain ⟨ad, n, c, rfl, h1, h2, h3, h4, h5⟩ := h
  cases ad with
  | none => simp [rowBlock] at hg
  | some ad =>
    simp only [rowBlock] at hg
    split at hg
    · cases hg
    · obtain ⟨g', i, cs, he, hb, _⟩ := h5 (by omega)
      simp only [Option.some.injEq] at hg he
      subst he; subst hg
      exact obj_lt hb
/-- The cells of a row, read. -/
theorem Row.cells (h : Row w E size v xs) {ad : Addr} {n c : Nat} (hv : v = .slice (some ad) n c) : ∀ j u, xs[j]? = some u → w.cell? (ad.add j) = some u := by
  intro j u hu
  obtain ⟨ad', n', c', rfl, h1, h2, h3, h4, h5⟩ := h
  simp only [Value.slice.injEq] at hv
  obtain ⟨rfl, rfl, rfl⟩ := hv
  have hj : j < xs.length := (List.getElem?_eq_some_iff.1 hu).1
  have hc : 0 < c' := by
    rcases Nat.eq_zero_or_pos c' with h0 | h0
    · subst h0; have h0 : n' = 0 := by omega
      subst h0
      have : xs.length = 0 := by simpa using h1
      omega
    · exact h0
  obtain ⟨g, i, cs, he, hb, h6, h7⟩ := h5 hc
  simp only [Option.some.injEq] at he
  subst he
  have hadd : (⟨g, i, none⟩ : Addr).add j = ⟨g, i + j, none⟩ := by unfold Addr.add; split <;> simp_all
  rw [hadd]
  exact hb.cell (h7 j u hu)
theorem Row.length (h : Row w E size v xs) {ad : Option Addr} {n c : Nat} (hv : v = .slice ad n c) : xs.length = n * size := by
  obtain ⟨ad', n', c', rfl, h1, h2, h3, h4, h5⟩ := h
  simp only [Value.slice.injEq] at hv
  obtain ⟨rfl, rfl, rfl⟩ := hv
  exact h1
end

section
variable {P : Program} {o : Oper} {a : Act} {w : World} {K : Act → World → Prop} {Q : Exit → Act → World → Prop}

/-- append, onto a row: what comes back is a row; only the row's own block, or a new one, has turned. -/
theorem run_append_row {t ty E : TypeId} {i : TypeInfo} {z : Value} {size bytes : Nat} (ht : P.underlying t = some (.slice E)) (hi : P.info? E = some i) (hz : i.zero = some z)
    (hsize : i.size = size) (hby : i.bytes = bytes) (hzs : z.cells.size = size) (hsz : 0 < size)
    {v : Value} {xs : List Value} (hrow : Row w E size v xs)
    {sv : Value} {A : Option Addr} {m c0 : Nat} {news : List Value} (hsv : sv = .slice A m c0) (hl : news.length = m * size) (hnews : ∀ ad, A = some ad → ∀ j u, news[j]? = some u → w.cell? (ad.add j) = some u)
    (hA : A = none → m = 0) (h1 : ∀ u ∈ news, u.oneCell' = true)
    (hbytes : (xs.length + news.length) * bytes ≤ 140737488355328) (hlen : xs.length + news.length ≤ maxLen) :
    ∃ v' w', (Builtin.append_ #[t, t] ty #[v, sv]).run P w = .ok v' w' ∧ Row w' E size v' (xs ++ news) ∧ Touch (fun b => rowBlock v = some b) w w' ∧
      (rowBlock v' = rowBlock v ∧ w'.heap.size = w.heap.size ∨ (rowBlock v' = some w.heap.size ∧ w'.heap.size = w.heap.size + 1 ∧ Ext w w')) := by
  subst hsize; subst hby; subst hsv
  have hrow' := hrow
  obtain ⟨ad, n, c, rfl, hxl, hnc, hcm, hnone, hblk⟩ := hrow
  have hn1 : n ≤ xs.length := by rw [hxl]; exact Nat.le_mul_of_pos_right n hsz
  have hm1 : m ≤ news.length := by rw [hl]; exact Nat.le_mul_of_pos_right m hsz
  have fnew : ∀ w1 : World, w1.heap = w.heap → (Builtin.firstCells i.size m (.slice A m c0)).run P w1 = .ok news.toArray w1 := by
    intro w1 hw1
    cases A with
    | none =>
      have h0 := hA rfl
      subst h0
      have : news = [] := List.eq_nil_of_length_eq_zero (by simpa using hl)
      subst this
      exact run_firstCells_none w1 _ _ _ _
    | some ad => exact run_firstCells_some w1 _ _ _ _ _ news hl (fun j u hu => by
        have := hnews ad rfl j u hu
        unfold World.cell? at *; rw [hw1]; exact this)
  have fold : ∀ w1 : World, w1.heap = w.heap → (Builtin.firstCells i.size n (.slice ad n c)).run P w1 = .ok xs.toArray w1 := by
    intro w1 hw1
    cases ad with
    | none =>
      have h0 := hnone rfl
      have : n = 0 := by omega
      subst this
      have : xs = [] := List.eq_nil_of_length_eq_zero (by simpa using hxl)
      subst this
      exact run_firstCells_none w1 _ _ _ _
    | some ad => exact run_firstCells_some w1 _ _ _ _ _ xs hxl (fun j u hu => by
        have := hrow'.cells rfl j u hu
        unfold World.cell? at *; rw [hw1]; exact this)
  have hlen2 : (xs ++ news).length = (n + m) * i.size := by rw [List.length_append, hxl, hl, Nat.add_mul]
  have h63 : ¬ (9223372036854775807 < ((n : Int) + (m : Int))) := by unfold maxLen at hlen; omega
  by_cases hroom : n + m ≤ c
  · by_cases hc0 : c = 0
    · subst hc0
      have hn0 : n = 0 := by omega
      have hm0 : m = 0 := by omega
      subst hn0; subst hm0
      have hx0 : xs = [] := List.eq_nil_of_length_eq_zero (by simpa using hxl)
      have hs0 : news = [] := List.eq_nil_of_length_eq_zero (by simpa using hl)
      subst hx0; subst hs0
      refine ⟨.slice ad 0 0, w, ?_, by simpa using hrow', Touch.refl _ w, .inl ⟨rfl, rfl⟩⟩
      have hf := fnew w rfl
      cases ad <;> simp [Builtin.append_, run_underlying ht, sizeOf, typeInfo, hi, Builtin.lenOf, hf, storeCells]
    · obtain ⟨g, k, cs, rfl, hb, hfit, hcs⟩ := hblk (by omega)
      have hmul : (n + m) * i.size ≤ c * i.size := Nat.mul_le_mul_right _ hroom
      rw [Nat.add_mul] at hmul
      obtain ⟨w', hr, hb', htc, hz'⟩ := run_storeCells_blk (P := P) (k + n * i.size) news 0 cs w hb (by rw [hl]; omega) h1
      have hadd : (⟨g, k, none⟩ : Addr).add (n * i.size) = ⟨g, k + n * i.size, none⟩ := by unfold Addr.add; split <;> simp_all
      have hrb : rowBlock (.slice (some ⟨g, k, none⟩) n c) = some g := by simp [rowBlock, hc0]
      refine ⟨.slice (some ⟨g, k, none⟩) (n + m) c, w', ?_, ⟨_, _, _, rfl, hlen2, hroom, hcm, (fun h => by cases h), fun _ => ⟨g, k, _, rfl, hb', by rw [overw_size]; exact hfit, fun j u hu => ?_⟩⟩, ?_, .inl ⟨by simp [rowBlock, hc0], hz'⟩⟩
      · have hf := fnew w rfl
        simp [Builtin.append_, run_underlying ht, sizeOf, typeInfo, hi, Builtin.lenOf, hroom, hf, hadd, hr]
      · have hj : j < (xs ++ news).length := (List.getElem?_eq_some_iff.1 hu).1
        rw [Nat.add_zero, overw_get _ _ _ _ (by rw [hl]; omega)]
        rw [List.getElem?_append] at hu
        split at hu
        · rw [if_neg (by omega)]; exact hcs j u hu
        · rw [if_pos (by rw [List.length_append] at hj; omega)]
          rw [← hu]; congr 1; omega
      · exact htc.mono fun b _ hbg => by subst hbg; exact hrb
  · have hge := grownCap_ge w (n + m) c E
    have hcm' : grownCap w (n + m) c E ≤ maxLen := grownCap_le_maxLen w (n + m) c E (by omega)
    have hmulb : (n + m) * i.bytes ≤ 140737488355328 := Nat.le_trans (Nat.mul_le_mul_right _ (by omega)) hbytes
    have hfit := growslice_fits (need := n + m) (old := c) (bytes := i.bytes) (by omega) hmulb
    have hfit' : ¬ (281474976710656 < Builtin.nextslicecap (n + m) c * i.bytes) := by omega
    have hnl : ¬ (n + m ≤ c) := hroom
    refine ⟨.slice (some ⟨w.heap.size, 0, none⟩) (n + m) (grownCap w (n + m) c E),
      w.drew.alloc (.cells (xs.toArray ++ (news.toArray ++ Builtin.zeroCells z.cells (grownCap w (n + m) c E - (n + m)))) E), ?_, ⟨_, _, _, rfl, hlen2, hge, hcm', (fun h => by cases h), fun _ => ⟨w.heap.size, 0, _, rfl, heap_alloc_new w.drew _, ?_, ?_⟩⟩, ?_, .inr ⟨?_, by simp, ?_⟩⟩
    · have hf := fnew w.drew rfl
      have hfo := fold w.drew rfl
      simp [Builtin.append_, run_underlying ht, sizeOf, typeInfo, zeroValue, hi, hz, Builtin.lenOf, hnl, h63, hfit', hf, hfo, Question.forced, newRow, grownCap]
      try rfl
    · simp only [Array.size_append, List.size_toArray, size_zeroCells, hzs, hxl, hl, ← Nat.add_mul]
      rw [Nat.zero_add]
      refine Nat.le_of_eq ?_
      congr 1
      omega
    · intro j u hu
      have hj : j < (xs ++ news).length := (List.getElem?_eq_some_iff.1 hu).1
      rw [Nat.zero_add, ← Array.getElem?_toList]
      simp only [Array.toList_append]
      rw [← List.append_assoc, List.getElem?_append_left (by simpa using hj)]
      exact hu
    · exact Touch.of_ext ((Touch.refl _ w).drew.alloc _)
    · have : grownCap w (n + m) c E ≠ 0 := by omega
      simp [rowBlock, this]
    · exact (Touch.refl _ w).drew.alloc _
end
end Go.Proofs.Ytioofhmkeajkpaa
