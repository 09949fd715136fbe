/-
  The network of the reference in memory: rows of rows; and what a store does to them.
-/
import Derived.Test.YtcipfpebjeakfaaNetX
namespace Go.Proofs.Ytcipfpebjeakfaa
open Go Go.RowKit

/-- Element i of the slice v begins at cell k of block g. -/
structure Elem (v : Value) (size i g k : Nat) : Prop where
  eq : ∃ i0 n c, v = .slice (some ⟨g, i0, none⟩) n c ∧ k = i0 + i * size ∧ i < n ∧ n ≤ c
theorem Elem.block {v : Value} {size i g k : Nat} (h : Elem v size i g k) : rowBlock v = some g := by
  obtain ⟨i0, n, c, rfl, _, h1, h2⟩ := h.eq
  have : c ≠ 0 := by omega
  simp [rowBlock, this]

section
variable {P : Program} {ops : Array Oper} {o : Oper} {a : Act} {w w' : World} {K : Act → World → Prop} {Q : Exit → Act → World → Prop} {t E : TypeId} {size : Nat} {v : Value} {xs : List Value} {F : Nat → Prop}

theorem Elem.run {i g k : Nat} (h : Elem v size i g k) (ht : P.underlying t = some (.slice E)) (hs : (P.info? E).map (·.size) = some size) (w : World) :
    (Instr.indexAt t v (.int .i64 i)).run P w = .ok (.pointer (some ⟨g, k, none⟩)) w := by
  obtain ⟨i0, n, c, rfl, rfl, h1, h2⟩ := h.eq
  cases hinfo : P.info? E with
  | none => rw [hinfo] at hs; cases hs
  | some ti =>
    rw [hinfo] at hs
    simp only [Option.map_some, Option.some.injEq] at hs
    have hadd : (⟨g, i0, none⟩ : Addr).add (i * size) = ⟨g, i0 + i * size, none⟩ := by unfold Addr.add; split <;> simp_all
    have hb1 : (0 : Int) ≤ (i : Int) ∧ (i : Int) < (n : Int) := ⟨by omega, by omega⟩
    simp [Instr.indexAt, asIntOf, run_underlying ht, sizeOf, typeInfo, hinfo, hs, hb1, hadd, h1]
theorem Row.elem (h : Row w E size v xs) {i : Nat} (hi : (i + 1) * size ≤ xs.length) (hsz : 0 < size) : ∃ g k, Elem v size i g k := by
  obtain ⟨ad, n, c, rfl, h1, h2, h3, h4, h5⟩ := h
  have hin : i < n := by
    rw [h1] at hi
    have := Nat.le_of_mul_le_mul_right hi hsz
    omega
  obtain ⟨g, i0, cs, rfl, hb, h6, h7⟩ := h5 (by omega)
  exact ⟨g, i0 + i * size, ⟨i0, n, c, rfl, rfl, hin, h2⟩⟩
theorem Elem.cell {i g k : Nat} (h : Elem v size i g k) (hr : Row w E size v xs) {j : Nat} {u : Value} (hu : xs[i * size + j]? = some u) : w.cell? ⟨g, k + j, none⟩ = some u := by
  obtain ⟨i0, n, c, rfl, rfl, h1, h2⟩ := h.eq
  have := hr.cells rfl _ _ hu
  have hadd : (⟨g, i0, none⟩ : Addr).add (i * size + j) = ⟨g, i0 + i * size + j, none⟩ := by unfold Addr.add; split <;> simp_all [Nat.add_assoc]
  rw [hadd] at this
  exact this

theorem op_elem {x y : Operand} {i g k : Nat} (ho : o.op = .indexAddr t x y) (hx : a.eval x = v) (hy : a.eval y = .int .i64 i) (ht : P.underlying t = some (.slice E)) (hs : (P.info? E).map (·.size) = some size)
    (he : Elem v size i g k) (h : K (a.put o.dst (.pointer (some ⟨g, k, none⟩))) w) : o.wp P a w K Q :=
  op_run _ (.pointer (some ⟨g, k, none⟩)) w (by rw [execOp_indexAddr ho, hx, hy]) (he.run ht hs w) h
theorem yldI_elem {x y : Operand} {j i g k : Nat} (ho : nth ops.toList j = some o) (hg : Region.wanted o (yielded ops a.tmps) = true) (hop : o.op = .indexAddr t x y) (hx : a.eval x = v) (hy : a.eval y = .int .i64 i)
    (ht : P.underlying t = some (.slice E)) (hs : (P.info? E).map (·.size) = some size) (he : Elem v size i g k) : YldI P ops j (.pointer (some ⟨g, k, none⟩)) a w :=
  yldI_of ho hg (by rw [execOp_indexAddr hop, hx, hy]; simp [he.run ht hs])

/-! ### rows by index -/
/-- v is a slice of n elements of 'size' cells; cell j of element i holds f i j. -/
def RowN (w : World) (E : TypeId) (size : Nat) (v : Value) (n : Nat) (f : Nat → Nat → Value) : Prop :=
  ∃ xs, Row w E size v xs ∧ xs.length = n * size ∧ ∀ i j, i < n → j < size → xs[i * size + j]? = some (f i j)
theorem RowN.keep {n : Nat} {f : Nat → Nat → Value} (h : RowN w E size v n f) (ht : Touch F w w') (hn : ∀ g, rowBlock v = some g → ¬ F g) : RowN w' E size v n f := by
  obtain ⟨xs, h1, h2⟩ := h
  exact ⟨xs, h1.keep ht hn, h2⟩
theorem RowN.elem {n : Nat} {f : Nat → Nat → Value} (h : RowN w E size v n f) {i : Nat} (hi : i < n) (hsz : 0 < size) : ∃ g k, Elem v size i g k := by
  obtain ⟨xs, h1, h2, _⟩ := h
  exact h1.elem (by rw [h2]; exact Nat.mul_le_mul_right _ hi) hsz
theorem RowN.cell {n : Nat} {f : Nat → Nat → Value} (h : RowN w E size v n f) {i g k : Nat} (he : Elem v size i g k) (hi : i < n) {j : Nat} (hj : j < size) : w.cell? ⟨g, k + j, none⟩ = some (f i j) := by
  obtain ⟨xs, h1, h2, h3⟩ := h
  exact he.cell h1 (h3 i j hi hj)
theorem RowN.len {n : Nat} {f : Nat → Nat → Value} (h : RowN w E size v n f) (hsz : 0 < size) : ∃ ad c, v = .slice ad n c ∧ n ≤ c := by
  obtain ⟨xs, h1, h2, h3⟩ := h
  obtain ⟨ad, c, rfl, h4, _⟩ := h1.len hsz h2
  exact ⟨ad, c, rfl, h4⟩
theorem RowN.congr {n : Nat} {f g : Nat → Nat → Value} (h : RowN w E size v n f) (e : ∀ i j, i < n → j < size → f i j = g i j) : RowN w E size v n g := by
  obtain ⟨xs, h1, h2, h3⟩ := h
  exact ⟨xs, h1, h2, fun i j hi hj => by rw [← e i j hi hj]; exact h3 i j hi hj⟩
theorem RowN.cells {n : Nat} {f : Nat → Nat → Value} (h : RowN w E size v n f) {i g k : Nat} (he : Elem v size i g k) (hi : i < n) {vs : List Value} (hv : vs.length = size) (hf : ∀ j u, vs[j]? = some u → f i j = u) :
    ∀ j u, vs[j]? = some u → w.cell? ((⟨g, k, none⟩ : Addr).add j) = some u := by
  intro j u hu
  have hj : j < size := by have := (List.getElem?_eq_some_iff.1 hu).1; omega
  have hadd : (⟨g, k, none⟩ : Addr).add j = ⟨g, k + j, none⟩ := by unfold Addr.add; split <;> simp_all
  rw [hadd, h.cell he hi hj, hf j u hu]

/-- One cell of an element is written. -/
theorem op_store_rowN {x y : Operand} {n i g k d : Nat} {f : Nat → Nat → Value} {u : Value} (ho : o.op = .store t x y) (hx : a.eval x = .pointer (some ⟨g, k + d, none⟩)) (hy : a.eval y = u) (hs : (P.info? t).map (·.size) = some 1) (h1 : u.oneCell' = true)
    (hr : RowN w E size v n f) (he : Elem v size i g k) (hi : i < n) (hd : d < size)
    (h : ∀ w', RowN w' E size v n (upd2 f i d u) → Touch (fun b => rowBlock v = some b) w w' → K (a.put o.dst undef) w') : o.wp P a w K Q := by
  obtain ⟨xs, hrow, hl, hf⟩ := hr
  have hrow' := hrow
  obtain ⟨ad, n', c, rfl, r1, r2, r3, r4, r5⟩ := hrow
  obtain ⟨i0, n2, c2, e1, rfl, hin, hnc⟩ := he.eq
  injection e1 with e1 e2 e3
  subst e1 e2 e3
  obtain ⟨g', i0', cs, e4, hb, hfit, hcs⟩ := r5 (by omega)
  injection e4 with e4
  injection e4 with e4 e5
  subst e4 e5
  have hmul : (i + 1) * size ≤ c * size := Nat.mul_le_mul_right _ (by omega)
  rw [Nat.add_mul] at hmul
  refine op_store1 ho hx hy hs h1 hb (by omega) fun w' hb' ht hz => h w' ⟨xs.set (i * size + d) u, ⟨_, _, _, rfl, by simpa using r1, r2, r3, r4, fun hc => ⟨g, i0, _, rfl, hb', by simpa using hfit, fun j z hz' => ?_⟩⟩, by simpa using hl, fun i' j' hi' hj' => ?_⟩ (ht.mono fun b _ e => by subst e; exact he.block)
  · by_cases e : j = i * size + d
    · subst e
      have hlt : i * size + d < xs.length := by
        have := (List.getElem?_eq_some_iff.1 hz').1
        simpa using this
      rw [List.getElem?_set_self hlt] at hz'
      rw [Nat.add_assoc, Array.getElem?_setIfInBounds_self_of_lt (by omega)]
      exact hz'
    · rw [List.getElem?_set_ne (fun h => e h.symm)] at hz'
      rw [Array.getElem?_setIfInBounds_ne (by omega)]
      exact hcs j z hz'
  · have hlt : i' * size + j' < xs.length := (List.getElem?_eq_some_iff.1 (hf i' j' hi' hj')).1
    by_cases e : i' = i ∧ j' = d
    · obtain ⟨rfl, rfl⟩ := e
      rw [upd2_same, List.getElem?_set_self hlt]
    · rw [upd2_ne _ _ e, List.getElem?_set_ne ?_]
      · exact hf i' j' hi' hj'
      · intro h
        have hs0 : 0 < size := by omega
        have h6 : (i * size + d) / size = i := by rw [Nat.mul_comm, Nat.mul_add_div hs0, Nat.div_eq_of_lt hd, Nat.add_zero]
        have h7 : (i' * size + j') / size = i' := by rw [Nat.mul_comm, Nat.mul_add_div hs0, Nat.div_eq_of_lt hj', Nat.add_zero]
        have h8 : i = i' := by rw [← h6, ← h7, h]
        subst h8
        omega
end

/-! ### the state in memory -/
inductive RowId where
  | nodes | queues | off | all
  | heard (i : Nat) | known (i : Nat) | got (i : Nat) | qrow (i : Nat) | orow (i : Nat)
  | texts (i : Nat) | gotT (i j : Nat) | q (i j : Nat) | msg (i j k : Nat)
  deriving DecidableEq

inductive RTag where
  | oth | net | row (r : RowId) | data

structure RLay where
  val : RowId → Value
  tag : Nat → RTag

def RowId.ok (S : NetS) : RowId → Prop
  | .nodes | .queues | .off | .all => True
  | .heard i | .known i | .got i | .qrow i | .orow i | .texts i => i < S.n
  | .gotT i j | .q i j => i < S.n ∧ j < S.n
  | .msg i j k => i < S.n ∧ j < S.n ∧ k < (S.queues i j).length

def RowId.tagOf : RowId → RTag
  | .texts _ | .gotT _ _ | .q _ _ | .msg _ _ _ => .data
  | r => .row r

def nodeF (R : RLay) (i j : Nat) : Value :=
  match j with
  | 0 => R.val (.texts i)
  | 1 => R.val (.heard i)
  | 2 => R.val (.known i)
  | _ => R.val (.got i)
def msgVals (R : RLay) (i j n : Nat) : List Value := (List.range n).map fun k => R.val (.msg i j k)

def RowId.At (w : World) (R : RLay) (S : NetS) : RowId → Prop
  | .nodes => RowN w 74 4 (R.val .nodes) S.n (nodeF R)
  | .queues => RowN w 75 1 (R.val .queues) S.n (fun i _ => R.val (.qrow i))
  | .off => RowN w 76 1 (R.val .off) S.n (fun i _ => R.val (.orow i))
  | .all => Row w 9 1 (R.val .all) ((S.sets .all).map .string)
  | .heard i => RowN w 3 1 (R.val (.heard i)) S.n (fun j _ => .int .i64 (S.heard i j))
  | .known i => RowN w 3 1 (R.val (.known i)) S.n (fun j _ => .int .i64 (S.known i j))
  | .got i => RowN w 39 1 (R.val (.got i)) S.n (fun j _ => R.val (.gotT i j))
  | .qrow i => RowN w 85 1 (R.val (.qrow i)) S.n (fun j _ => R.val (.q i j))
  | .orow i => RowN w 4 1 (R.val (.orow i)) S.n (fun j _ => .bool (S.off i j))
  | .texts i => Row w 9 1 (R.val (.texts i)) ((S.texts i).map .string)
  | .gotT i j => Row w 9 1 (R.val (.gotT i j)) ((S.sets (.got i j)).map .string)
  | .q i j => Row w 87 3 (R.val (.q i j)) (msgCells (msgVals R i j (S.queues i j).length) (S.queues i j))
  | .msg i j k => ∀ m, (S.queues i j)[k]? = some m → Row w 9 1 (R.val (.msg i j k)) (m.texts.map .string)

theorem RowId.At.keep {w w' : World} {R : RLay} {S : NetS} {F : Nat → Prop} {r : RowId} (h : r.At w R S) (ht : Touch F w w') (hn : ∀ g, rowBlock (R.val r) = some g → ¬ F g) : r.At w' R S := by
  cases r with
  | nodes => exact RowN.keep h ht hn
  | queues => exact RowN.keep h ht hn
  | off => exact RowN.keep h ht hn
  | all => exact Row.keep h ht hn
  | heard i => exact RowN.keep h ht hn
  | known i => exact RowN.keep h ht hn
  | got i => exact RowN.keep h ht hn
  | qrow i => exact RowN.keep h ht hn
  | orow i => exact RowN.keep h ht hn
  | texts i => exact Row.keep h ht hn
  | gotT i j => exact Row.keep h ht hn
  | q i j => exact Row.keep h ht hn
  | msg i j k => exact fun m hm => Row.keep (h m hm) ht hn

structure RefAt (w : World) (q : Nat) (R : RLay) (S : NetS) : Prop where
  n8 : S.n ≤ 8
  fresh : ∀ b, w.heap.size ≤ b → R.tag b = .oth
  tnet : R.tag q = .net
  net : Blk w q 71 #[R.val .nodes, R.val .queues, R.val .off, R.val .all]
  row : ∀ r : RowId, r.ok S → r.At w R S
  tag : ∀ r : RowId, r.ok S → ∀ b, rowBlock (R.val r) = some b → R.tag b = r.tagOf

/-- What a step of the reference may do. -/
structure RTo (B : Nat) (w w' : World) (R R' : RLay) : Prop where
  base : B ≤ w.heap.size
  tag : ∀ b, b < B → R'.tag b = R.tag b
  touch : Touch (fun b => B ≤ b ∨ R.tag b = .net ∨ ∃ r, R.tag b = .row r) w w'

section
variable {w w' w'' : World} {q : Nat} {R R' R'' : RLay} {S S' : NetS} {F : Nat → Prop} {B B' : Nat}
theorem RTo.same (hB : B ≤ w.heap.size) (ht : Ext w w') : RTo B w w' R R := ⟨hB, fun _ _ => rfl, ht.mono fun _ _ h => h.elim⟩
theorem RefAt.keep (h : RefAt w q R S) (ht : Touch F w w') (hF : ∀ b, F b → R.tag b = .oth) : RefAt w' q R S where
  n8 := h.n8
  fresh := fun b hb => h.fresh b (Nat.le_trans ht.size hb)
  tnet := h.tnet
  net := ht.obj h.net fun hf => by have := hF q hf; rw [h.tnet] at this; cases this
  row := fun r hr => (h.row r hr).keep ht fun g hg hf => by
    have h1 := hF g hf
    rw [h.tag r hr g hg] at h1
    cases r <;> cases h1
  tag := h.tag
theorem RefAt.ext (h : RefAt w q R S) (hE : Ext w w') : RefAt w' q R S := h.keep hE fun _ h => h.elim
theorem RTo.trans (h : RTo B w w' R R') (h' : RTo B w' w'' R' R'') : RTo B w w'' R R'' :=
  ⟨h.base, fun b hb => (h'.tag b hb).trans (h.tag b hb), h.touch.trans h'.touch fun b _ hf => by
    rcases Nat.lt_or_ge b B with hb | hb
    · rcases hf with hf | hf
      · omega
      · rw [h.tag b hb] at hf; exact .inr hf
    · exact .inl hb⟩
theorem RTo.less (h : RTo B w w' R R') (hB : B' ≤ B) : RTo B' w w' R R' := ⟨Nat.le_trans hB h.base, fun b hb => h.tag b (Nat.lt_of_lt_of_le hb hB), h.touch.mono fun _ _ hf => hf.imp (fun h => Nat.le_trans hB h) id⟩
theorem RTo.ext (h : RTo B w w' R R') (hE : Ext w' w'') : RTo B w w'' R R' := ⟨h.base, h.tag, h.touch.then_ext hE⟩
theorem RTo.after (hE : Ext w w') (h : RTo B w' w'' R R') (hB : B ≤ w.heap.size) : RTo B w w'' R R' := ⟨hB, h.tag, (Touch.of_ext hE).trans h.touch fun _ _ h => h⟩

/-- A row other than r0 is as it was. -/
theorem RefAt.other (h : RefAt w q R S) {r0 r : RowId} (h0 : r0.ok S) (hr : r.ok S) (ht : Touch (fun b => rowBlock (R.val r0) = some b) w w') (hne : r.tagOf ≠ r0.tagOf) : r.At w' R S :=
  (h.row r hr).keep ht fun g hg hf => hne (by rw [← h.tag r hr g hg, ← h.tag r0 h0 g hf])
theorem RefAt.netOther (h : RefAt w q R S) {r0 : RowId} (h0 : r0.ok S) (ht : Touch (fun b => rowBlock (R.val r0) = some b) w w') : Blk w' q 71 #[R.val .nodes, R.val .queues, R.val .off, R.val .all] :=
  ht.obj h.net fun hf => by
    have := h.tag r0 h0 q hf
    rw [h.tnet] at this
    cases r0 <;> cases this

/-- New rows of data. -/
def tagNew (v : Value) (tag : Nat → RTag) : Nat → RTag := fun b => if rowBlock v = some b then .data else tag b
theorem tagNew_old {v : Value} {tag : Nat → RTag} {b : Nat} (h : rowBlock v ≠ some b) : tagNew v tag b = tag b := by unfold tagNew; rw [if_neg h]
theorem tagNew_new {v : Value} {tag : Nat → RTag} {b : Nat} (h : rowBlock v = some b) : tagNew v tag b = .data := by unfold tagNew; rw [if_pos h]
def updR (f : RowId → Value) (r : RowId) (v : Value) : RowId → Value := fun x => if x = r then v else f x
theorem updR_same (f : RowId → Value) (r : RowId) (v : Value) : updR f r v r = v := by simp [updR]
theorem updR_ne (f : RowId → Value) {r x : RowId} (v : Value) (h : x ≠ r) : updR f r v x = f x := by simp [updR, h]

/-- A tag of old stays. -/
theorem tagNew_keep {v : Value} {tag : Nat → RTag} (hv : ∀ b, rowBlock v = some b → tag b = .oth ∨ tag b = .data) {b : Nat} {T : RTag} (h : tag b = T) (h1 : T ≠ .oth) : tagNew v tag b = T := by
  by_cases e : rowBlock v = some b
  · rw [tagNew_new e]
    rcases hv b e with h2 | h2
    · rw [h] at h2; exact absurd h2 h1
    · rw [← h, h2]
  · rw [tagNew_old e]; exact h
theorem RowId.tagOf_ne (r : RowId) : r.tagOf ≠ .oth ∧ r.tagOf ≠ .net := by cases r <;> simp [RowId.tagOf]

/-- Node i has another list of texts. -/
theorem RefAt.setText (h : RefAt w q R S) {i : Nat} (hi : i < S.n) {v : Value} {xs : List ByteArray} (ht : Touch (fun b => rowBlock (R.val .nodes) = some b) w w')
    (hn : RowN w' 74 4 (R.val .nodes) S.n (upd2 (nodeF R) i 0 v)) (hr : Row w' 9 1 v (xs.map .string)) (hv : ∀ b, rowBlock v = some b → R.tag b = .oth ∨ R.tag b = .data) :
    RefAt w' q ⟨updR R.val (.texts i) v, tagNew v R.tag⟩ { S with texts := upd S.texts i xs } where
  n8 := h.n8
  fresh := fun b hb => by
    rw [show (RLay.mk (updR R.val (.texts i) v) (tagNew v R.tag)).tag b = tagNew v R.tag b from rfl, tagNew_old fun e => by have := hr.lt e; omega]
    exact h.fresh b (Nat.le_trans ht.size hb)
  tnet := tagNew_keep hv h.tnet (by simp)
  net := h.netOther (r0 := .nodes) trivial ht
  row := fun r hr' => by
    by_cases e : r = .texts i
    · subst e; simpa [RowId.At, updR, upd] using hr
    · by_cases e2 : r = .nodes
      · subst e2
        refine RowN.congr hn fun a j ha hj => ?_
        unfold upd2
        split
        · rename_i e3; obtain ⟨rfl, rfl⟩ := e3; simp [nodeF, updR]
        · rename_i e3
          match j, e3 with
          | 0, e3 => have : ¬ a = i := fun e => e3 ⟨e, rfl⟩; simp [nodeF, updR, this]
          | 1, _ => simp [nodeF, updR]
          | 2, _ => simp [nodeF, updR]
          | j + 3, _ => simp [nodeF, updR]
      · have ho := h.other (r0 := .nodes) trivial (r := r) hr' ht (by cases r <;> simp_all [RowId.tagOf])
        cases r with
        | texts k =>
          have : ¬ k = i := fun h => e (by rw [h])
          simpa [RowId.At, updR, upd, this] using ho
        | nodes => exact absurd rfl e2
        | _ => simpa [RowId.At, updR, msgVals] using ho
  tag := fun r hr' b hb => by
    by_cases e : r = .texts i
    · subst e
      rw [show (RLay.mk (updR R.val (.texts i) v) (tagNew v R.tag)).val (.texts i) = v from updR_same _ _ _] at hb
      exact tagNew_new hb
    · rw [show (RLay.mk (updR R.val (.texts i) v) (tagNew v R.tag)).val r = R.val r from updR_ne _ _ e] at hb
      exact tagNew_keep hv (h.tag r hr' b hb) r.tagOf_ne.1

/-- What node i got from j has turned. -/
theorem RefAt.setGot (h : RefAt w q R S) {i j : Nat} (hi : i < S.n) {v : Value} {xs : List ByteArray} (ht : Touch (fun b => rowBlock (R.val (.got i)) = some b) w w')
    (hn : RowN w' 39 1 (R.val (.got i)) S.n (upd2 (fun j _ => R.val (.gotT i j)) j 0 v)) (hr : Row w' 9 1 v (xs.map .string)) (hv : ∀ b, rowBlock v = some b → R.tag b = .oth ∨ R.tag b = .data) :
    RefAt w' q ⟨updR R.val (.gotT i j) v, tagNew v R.tag⟩ { S with sets := updS S.sets (.got i j) xs } where
  n8 := h.n8
  fresh := fun b hb => by
    rw [show (RLay.mk (updR R.val (.gotT i j) v) (tagNew v R.tag)).tag b = tagNew v R.tag b from rfl, tagNew_old fun e => by have := hr.lt e; omega]
    exact h.fresh b (Nat.le_trans ht.size hb)
  tnet := tagNew_keep hv h.tnet (by simp)
  net := h.netOther (r0 := .got i) hi ht
  row := fun r hr' => by
    by_cases e : r = .gotT i j
    · subst e; simpa [RowId.At, updR, updS] using hr
    · by_cases e2 : r = .got i
      · subst e2
        refine RowN.congr hn fun a c ha hc => ?_
        have hc0 : c = 0 := by omega
        subst hc0
        by_cases e3 : a = j
        · subst e3; simp [upd2, updR]
        · simp [upd2, updR, e3]
      · have ho := h.other (r0 := .got i) hi (r := r) hr' ht (by cases r <;> simp_all [RowId.tagOf])
        cases r with
        | gotT a b =>
          have : ¬ (a = i ∧ b = j) := fun h => e (by rw [h.1, h.2])
          simpa [RowId.At, updR, updS, this] using ho
        | got a =>
          have : ¬ a = i := fun h => e2 (by rw [h])
          simpa [RowId.At, updR, this] using ho
        | nodes =>
          refine RowN.congr ho fun a c ha hc => ?_
          unfold nodeF
          match c with
          | 0 => simp [updR]
          | 1 => simp [updR]
          | 2 => simp [updR]
          | c + 3 => simp [updR]
        | _ => simpa [RowId.At, updR, updS, msgVals] using ho
  tag := fun r hr' b hb => by
    by_cases e : r = .gotT i j
    · subst e
      rw [show (RLay.mk (updR R.val (.gotT i j) v) (tagNew v R.tag)).val (.gotT i j) = v from updR_same _ _ _] at hb
      exact tagNew_new hb
    · rw [show (RLay.mk (updR R.val (.gotT i j) v) (tagNew v R.tag)).val r = R.val r from updR_ne _ _ e] at hb
      exact tagNew_keep hv (h.tag r hr' b hb) r.tagOf_ne.1

theorem RefAt.setHeard (h : RefAt w q R S) {i j x : Nat} (hi : i < S.n) (ht : Touch (fun b => rowBlock (R.val (.heard i)) = some b) w w')
    (hn : RowN w' 3 1 (R.val (.heard i)) S.n (upd2 (fun j _ => .int .i64 (S.heard i j)) j 0 (.int .i64 x))) : RefAt w' q R { S with heard := upd2 S.heard i j x } where
  n8 := h.n8
  fresh := fun b hb => h.fresh b (Nat.le_trans ht.size hb)
  tnet := h.tnet
  net := h.netOther (r0 := .heard i) hi ht
  row := fun r hr' => by
    by_cases e2 : r = .heard i
    · subst e2
      refine RowN.congr hn fun a c ha hc => ?_
      have hc0 : c = 0 := by omega
      subst hc0
      by_cases e3 : a = j
      · subst e3; simp [upd2]
      · simp [upd2, e3]
    · have ho := h.other (r0 := .heard i) hi (r := r) hr' ht (by cases r <;> simp_all [RowId.tagOf])
      cases r with
      | heard a =>
        have : ¬ a = i := fun h => e2 (by rw [h])
        simpa [RowId.At, upd2, this] using ho
      | _ => simpa [RowId.At, msgVals] using ho
  tag := h.tag

theorem RefAt.setKnown (h : RefAt w q R S) {i j x : Nat} (hi : i < S.n) (ht : Touch (fun b => rowBlock (R.val (.known i)) = some b) w w')
    (hn : RowN w' 3 1 (R.val (.known i)) S.n (upd2 (fun j _ => .int .i64 (S.known i j)) j 0 (.int .i64 x))) : RefAt w' q R { S with known := upd2 S.known i j x } where
  n8 := h.n8
  fresh := fun b hb => h.fresh b (Nat.le_trans ht.size hb)
  tnet := h.tnet
  net := h.netOther (r0 := .known i) hi ht
  row := fun r hr' => by
    by_cases e2 : r = .known i
    · subst e2
      refine RowN.congr hn fun a c ha hc => ?_
      have hc0 : c = 0 := by omega
      subst hc0
      by_cases e3 : a = j
      · subst e3; simp [upd2]
      · simp [upd2, e3]
    · have ho := h.other (r0 := .known i) hi (r := r) hr' ht (by cases r <;> simp_all [RowId.tagOf])
      cases r with
      | known a =>
        have : ¬ a = i := fun h => e2 (by rw [h])
        simpa [RowId.At, upd2, this] using ho
      | _ => simpa [RowId.At, msgVals] using ho
  tag := h.tag

theorem RefAt.setOff (h : RefAt w q R S) {i j : Nat} {x : Bool} (hi : i < S.n) (ht : Touch (fun b => rowBlock (R.val (.orow i)) = some b) w w')
    (hn : RowN w' 4 1 (R.val (.orow i)) S.n (upd2 (fun j _ => .bool (S.off i j)) j 0 (.bool x))) : RefAt w' q R { S with off := upd2 S.off i j x } where
  n8 := h.n8
  fresh := fun b hb => h.fresh b (Nat.le_trans ht.size hb)
  tnet := h.tnet
  net := h.netOther (r0 := .orow i) hi ht
  row := fun r hr' => by
    by_cases e2 : r = .orow i
    · subst e2
      refine RowN.congr hn fun a c ha hc => ?_
      have hc0 : c = 0 := by omega
      subst hc0
      by_cases e3 : a = j
      · subst e3; simp [upd2]
      · simp [upd2, e3]
    · have ho := h.other (r0 := .orow i) hi (r := r) hr' ht (by cases r <;> simp_all [RowId.tagOf])
      cases r with
      | orow a =>
        have : ¬ a = i := fun h => e2 (by rw [h])
        simpa [RowId.At, upd2, this] using ho
      | _ => simpa [RowId.At, msgVals] using ho
  tag := h.tag

/-- All texts: one more, in the row of old or in a new one. -/
theorem RefAt.setAll (h : RefAt w q R S) {v : Value} {xs : List ByteArray} (ht : Touch (fun b => b = q ∨ rowBlock (R.val .all) = some b) w w')
    (hnet : Blk w' q 71 #[R.val .nodes, R.val .queues, R.val .off, v]) (hr : Row w' 9 1 v (xs.map .string)) (hv : ∀ b, rowBlock v = some b → rowBlock (R.val .all) = some b ∨ R.tag b = .oth) :
    RefAt w' q ⟨updR R.val .all v, fun b => if rowBlock v = some b then .row .all else R.tag b⟩ { S with sets := updS S.sets .all xs } := by
  have tk : ∀ {b : Nat} {T : RTag}, R.tag b = T → T ≠ .oth → (if rowBlock v = some b then RTag.row .all else R.tag b) = T := by
    intro b T hb h1
    by_cases e : rowBlock v = some b
    · rw [if_pos e]
      rcases hv b e with h2 | h2
      · rw [← hb, h.tag .all trivial b h2]; rfl
      · rw [hb] at h2; exact absurd h2 h1
    · rw [if_neg e]; exact hb
  exact {
    n8 := h.n8
    fresh := fun b hb => by
      show (if rowBlock v = some b then RTag.row .all else R.tag b) = .oth
      rw [if_neg fun e => by have := hr.lt e; omega]
      exact h.fresh b (Nat.le_trans ht.size hb)
    tnet := tk h.tnet (by simp)
    net := by simpa [updR] using hnet
    row := fun r hr' => by
      by_cases e : r = .all
      · subst e; simpa [RowId.At, updR, updS] using hr
      · have ho : r.At w' R S := (h.row r hr').keep ht fun g hg hf => by
          have h1 := h.tag r hr' g hg
          rcases hf with rfl | hf
          · rw [h.tnet] at h1; exact r.tagOf_ne.2 h1.symm
          · rw [h.tag .all trivial g hf] at h1
            cases r <;> simp_all [RowId.tagOf]
        cases r with
        | all => exact absurd rfl e
        | nodes =>
          refine RowN.congr ho fun a c ha hc => ?_
          unfold nodeF
          match c with
          | 0 => simp [updR]
          | 1 => simp [updR]
          | 2 => simp [updR]
          | c + 3 => simp [updR]
        | _ => simpa [RowId.At, updR, updS, msgVals] using ho
    tag := fun r hr' b hb => by
      by_cases e : r = .all
      · subst e
        have hb' : rowBlock v = some b := by simpa [updR] using hb
        show (if rowBlock v = some b then RTag.row .all else R.tag b) = _
        rw [if_pos hb']; rfl
      · have hb' : rowBlock (R.val r) = some b := by simpa [updR, e] using hb
        exact tk (h.tag r hr' b hb') r.tagOf_ne.1 }

/-- The queue from i to j has turned. -/
theorem RefAt.setQ (h : RefAt w q R S) {i j : Nat} (hi : i < S.n) {v u : Value} {mv : Nat → Value} {ms : List Msg} (ht : Touch (fun b => rowBlock (R.val (.qrow i)) = some b) w w')
    (hn : RowN w' 85 1 (R.val (.qrow i)) S.n (upd2 (fun j _ => R.val (.q i j)) j 0 v)) (hr : Row w' 87 3 v (msgCells ((List.range ms.length).map mv) ms))
    (hm : ∀ k, k < ms.length → ∀ m, ms[k]? = some m → Row w' 9 1 (mv k) (m.texts.map .string)) (hlt : ∀ b, rowBlock u = some b → b < w'.heap.size)
    (hv : ∀ b, rowBlock v = some b → R.tag b = .oth ∨ R.tag b = .data) (hu : ∀ b, rowBlock u = some b → R.tag b = .oth ∨ R.tag b = .data)
    (hmv : ∀ k, k < ms.length → ∀ b, rowBlock (mv k) = some b → rowBlock u = some b ∨ R.tag b = .data) :
    RefAt w' q ⟨fun r => match r with
      | .q a b => if a = i ∧ b = j then v else R.val r
      | .msg a b k => if a = i ∧ b = j then mv k else R.val r
      | r => R.val r, tagNew v (tagNew u R.tag)⟩ { S with queues := upd2 S.queues i j ms } := by
  have hv' : ∀ b, rowBlock v = some b → tagNew u R.tag b = .oth ∨ tagNew u R.tag b = .data := fun b hb => by
    by_cases e : rowBlock u = some b
    · exact .inr (tagNew_new e)
    · rw [tagNew_old e]; exact hv b hb
  have tk : ∀ {b : Nat} {T : RTag}, R.tag b = T → T ≠ .oth → tagNew v (tagNew u R.tag) b = T := fun hb h1 => tagNew_keep hv' (tagNew_keep hu hb h1) h1
  have hq2 : ∀ a b, upd2 S.queues i j ms a b = if a = i ∧ b = j then ms else S.queues a b := fun a b => rfl
  exact {
    n8 := h.n8
    fresh := fun b hb => by
      show tagNew v (tagNew u R.tag) b = .oth
      rw [tagNew_old fun e => by have := hr.lt e; omega, tagNew_old fun e => by have := hlt b e; omega]
      exact h.fresh b (Nat.le_trans ht.size hb)
    tnet := tk h.tnet (by simp)
    net := h.netOther (r0 := .qrow i) hi ht
    row := fun r hr' => by
      cases r with
      | q a b =>
        by_cases e : a = i ∧ b = j
        · obtain ⟨rfl, rfl⟩ := e
          simpa [RowId.At, msgVals, upd2] using hr
        · have ho := h.other (r0 := .qrow i) hi (r := .q a b) hr' ht (by simp [RowId.tagOf])
          simpa [RowId.At, msgVals, hq2, e] using ho
      | msg a b k =>
        obtain ⟨h1, h2, h3⟩ := hr'
        by_cases e : a = i ∧ b = j
        · obtain ⟨rfl, rfl⟩ := e
          have h3' : k < ms.length := by simpa [hq2] using h3
          simpa [RowId.At, upd2] using hm k h3'
        · have h3' : k < (S.queues a b).length := by simpa [hq2, e] using h3
          have ho := h.other (r0 := .qrow i) hi (r := .msg a b k) ⟨h1, h2, h3'⟩ ht (by simp [RowId.tagOf])
          simpa [RowId.At, hq2, e] using ho
      | qrow a =>
        by_cases e : a = i
        · subst e
          refine RowN.congr hn fun b c hb hc => ?_
          have hc0 : c = 0 := by omega
          subst hc0
          by_cases e3 : b = j
          · subst e3; simp [upd2]
          · simp [upd2, e3]
        · have ho := h.other (r0 := .qrow i) hi (r := .qrow a) hr' ht (by simpa [RowId.tagOf] using e)
          simpa [RowId.At, e] using ho
      | nodes => exact RowN.congr (h.other (r0 := .qrow i) hi (r := .nodes) hr' ht (by simp [RowId.tagOf])) fun a c ha hc => by unfold nodeF; rcases c with _ | _ | _ | c <;> rfl
      | queues => exact h.other (r0 := .qrow i) hi (r := .queues) hr' ht (by simp [RowId.tagOf])
      | off => exact h.other (r0 := .qrow i) hi (r := .off) hr' ht (by simp [RowId.tagOf])
      | all => exact h.other (r0 := .qrow i) hi (r := .all) hr' ht (by simp [RowId.tagOf])
      | heard a => exact h.other (r0 := .qrow i) hi (r := .heard a) hr' ht (by simp [RowId.tagOf])
      | known a => exact h.other (r0 := .qrow i) hi (r := .known a) hr' ht (by simp [RowId.tagOf])
      | got a => exact h.other (r0 := .qrow i) hi (r := .got a) hr' ht (by simp [RowId.tagOf])
      | orow a => exact h.other (r0 := .qrow i) hi (r := .orow a) hr' ht (by simp [RowId.tagOf])
      | texts a => exact h.other (r0 := .qrow i) hi (r := .texts a) hr' ht (by simp [RowId.tagOf])
      | gotT a b => exact h.other (r0 := .qrow i) hi (r := .gotT a b) hr' ht (by simp [RowId.tagOf])
    tag := fun r hr' b hb => by
      cases r with
      | q a c =>
        by_cases e : a = i ∧ c = j
        · simp only [if_pos e] at hb
          exact tagNew_new hb
        · simp only [if_neg e] at hb
          exact tk (h.tag (.q a c) hr' b hb) (by simp [RowId.tagOf])
      | msg a c k =>
        obtain ⟨h1, h2, h3⟩ := hr'
        by_cases e : a = i ∧ c = j
        · simp only [if_pos e] at hb
          have h3' : k < ms.length := by simpa [hq2, e] using h3
          rcases hmv k h3' b hb with h4 | h4
          · exact tagNew_keep hv' (tagNew_new h4) (by simp [RowId.tagOf])
          · exact tk h4 (by simp [RowId.tagOf])
        · simp only [if_neg e] at hb
          have h3' : k < (S.queues a c).length := by simpa [hq2, e] using h3
          exact tk (h.tag (.msg a c k) ⟨h1, h2, h3'⟩ b hb) (by simp [RowId.tagOf])
      | nodes => exact tk (h.tag .nodes hr' b hb) (by simp [RowId.tagOf])
      | queues => exact tk (h.tag .queues hr' b hb) (by simp [RowId.tagOf])
      | off => exact tk (h.tag .off hr' b hb) (by simp [RowId.tagOf])
      | all => exact tk (h.tag .all hr' b hb) (by simp [RowId.tagOf])
      | heard a => exact tk (h.tag (.heard a) hr' b hb) (by simp [RowId.tagOf])
      | known a => exact tk (h.tag (.known a) hr' b hb) (by simp [RowId.tagOf])
      | got a => exact tk (h.tag (.got a) hr' b hb) (by simp [RowId.tagOf])
      | qrow a => exact tk (h.tag (.qrow a) hr' b hb) (by simp [RowId.tagOf])
      | orow a => exact tk (h.tag (.orow a) hr' b hb) (by simp [RowId.tagOf])
      | texts a => exact tk (h.tag (.texts a) hr' b hb) (by simp [RowId.tagOf])
      | gotT a c => exact tk (h.tag (.gotT a c) hr' b hb) (by simp [RowId.tagOf]) }
end
end Go.Proofs.Ytcipfpebjeakfaa
