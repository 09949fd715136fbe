/-
  The shelf's sort at a row of structs.
-/
import Derived.Test.YtioofhmkeajkpaaGen
import Derived.Shelf.SlSortCmp.WholeK
import Derived.Shelf.SlSortCmp.NoneTotal
namespace Go.Proofs.Ytioofhmkeajkpaa
open Go Go.RowKit

section
variable {P : Program} {o : Oper} {a : Act} {w : World} {K : Act → World → Prop} {Q : Exit → Act → World → Prop} {t E : TypeId} {size : Nat} {v : Value} {xs ys : List Value}
/-- One cell of an element of a row is written. -/
theorem op_store_row {x y : Operand} {i g k d : Nat} {u : Value} (ho : o.op = .store t x y) (hx : a.eval x = .pointer (some ⟨g, k + d, none⟩)) (hy : a.eval y = u) (hs : (P.info? t).map (·.size) = some 1) (h1 : u.oneCell' = true)
    (hr : Row w E size v xs) (he : Elem v size i g k) (hi : (i + 1) * size ≤ xs.length) (hd : d < size)
    (h : ∀ w', Row w' E size v (xs.set (i * size + d) u) → Touch (fun b => rowBlock v = some b) w w' → K (a.put o.dst undef) w') : o.wp P a w K Q := by
  obtain ⟨ad, n', c, rfl, r1, r2, r3, r4, r5⟩ := hr
  obtain ⟨i0, n2, c2, e1, rfl, hin, hnc⟩ := he.eq
  injection e1 with e1 e2 e3
  subst e1 e2 e3
  obtain ⟨g', i0', cs, e4, hb, hfit, hcs⟩ := r5 (by omega)
  injection e4 with e4
  injection e4 with e4 e5
  subst e4 e5
  have hmul : (i + 1) * size ≤ c * size := Nat.mul_le_mul_right _ (by omega)
  rw [Nat.add_mul] at hmul hi
  refine op_store1 ho hx hy hs h1 hb (by omega) fun w' hb' ht hz => h w' ⟨_, _, _, rfl, by simpa using r1, r2, r3, r4, fun hc => ⟨g, i0, _, rfl, hb', by simpa using hfit, fun j z hz' => ?_⟩⟩ (ht.mono fun b _ e => by subst e; simp [rowBlock]; omega)
  by_cases e : j = i * size + d
  · subst e
    have hlt : i * size + d < xs.length := by omega
    rw [List.getElem?_set_self hlt] at hz'
    rw [Nat.add_assoc, Array.getElem?_setIfInBounds_self_of_lt (by omega)]
    exact hz'
  · rw [List.getElem?_set_ne (fun h => e h.symm)] at hz'
    rw [Array.getElem?_setIfInBounds_ne (by omega)]
    exact hcs j z hz'
/-- append, a row onto a row. -/
theorem op_append_row {x y : Operand} {i : TypeInfo} {z sv : Value} {bytes : Nat}
    (ho : o.op = .call { callee := .builtin .append, args := #[x, y], argTypes := #[t, t] }) (hx : a.eval x = v) (hy : a.eval y = sv) (ht : P.underlying t = some (.slice E)) (hi : P.info? E = some i) (hz : i.zero = some z)
    (hsize : i.size = size) (hby : i.bytes = bytes) (hzs : z.cells.size = size) (hsz : 0 < size) (hb : bytes ≤ 1000)
    (hv : Row w E size v xs) (hs : Row w E size sv ys) (h1 : ∀ u ∈ ys, u.oneCell' = true) (hl : xs.length + ys.length ≤ 1000000)
    (h : ∀ v' w', Row w' E size v' (xs ++ ys) → Touch (fun b => rowBlock v = some b) w w' → (rowBlock v' = rowBlock v ∨ rowBlock v' = some w.heap.size) → K (a.put o.dst v') w') : o.wp P a w K Q := by
  obtain ⟨A, m, c, hsv, hm, hn, hA⟩ := hs.news
  refine op_append ho hx hy ht hi hz hsize hby hzs hsz hv hsv hm hn hA h1 ?_ ?_ ?_
  · exact Nat.le_trans (Nat.mul_le_mul hl hb) (by omega)
  · unfold maxLen; omega
  · intro v' w' hr ht' hb'
    exact h v' w' hr ht' (hb'.imp (·.1) (·.1))
end

theorem flatMap_get {α : Type} {enc : α → List Value} {k : Nat} (hk : ∀ x, (enc x).length = k) : ∀ (l : List α) (i j : Nat) (x : α) (u : Value), l[i]? = some x → (enc x)[j]? = some u → (l.flatMap enc)[i * k + j]? = some u
  | [], i, j, x, u, hi, _ => by simp at hi
  | y :: l, i, j, x, u, hi, hj => by
    rw [List.flatMap_cons]
    cases i with
    | zero =>
      simp only [List.getElem?_cons_zero, Option.some.injEq] at hi
      subst hi
      have := (List.getElem?_eq_some_iff.1 hj).1
      rw [Nat.zero_mul, Nat.zero_add, List.getElem?_append_left this]
      exact hj
    | succ i =>
      rw [List.getElem?_cons_succ] at hi
      rw [List.getElem?_append_right (by rw [hk, Nat.add_mul]; omega), hk]
      have e : (i + 1) * k + j - k = i * k + j := by rw [Nat.add_mul]; omega
      rw [e]
      exact flatMap_get hk l i j x u hi hj
theorem flatMap_len {α : Type} {enc : α → List Value} {k : Nat} (hk : ∀ x, (enc x).length = k) : ∀ l : List α, (l.flatMap enc).length = l.length * k
  | [] => by simp
  | y :: l => by rw [List.flatMap_cons, List.length_append, hk, flatMap_len hk l, List.length_cons, Nat.add_mul]; omega
theorem flat_at {α : Type} [Inhabited α] {enc : α → List Value} {k : Nat} (hk : ∀ x, (enc x).length = k) (hk0 : 0 < k) (l : List α) {t : Nat} (ht : t < l.length * k) : (l.flatMap enc)[t]? = some (Go.Sort.flatK enc k l.toArray)[t]! := by
  have hs : t < l.toArray.size * k := by simpa using ht
  rw [Go.Sort.get_flatK enc k l.toArray t hs]
  have hq : t / k < l.length := Nat.div_lt_of_lt_mul (by rw [Nat.mul_comm]; exact ht)
  have hx : l[t / k]? = some l.toArray[t / k]! := by
    rw [getElem!_pos l.toArray (t / k) (by simpa using hq)]
    simp [hq]
  have hm : t % k < (enc l.toArray[t / k]!).length := by rw [hk]; exact Nat.mod_lt _ hk0
  have := flatMap_get hk l (t / k) (t % k) _ ((enc l.toArray[t / k]!)[t % k]!) hx (by rw [getElem!_pos (enc l.toArray[t / k]!) (t % k) hm]; exact List.getElem?_eq_getElem hm)
  rw [Nat.mul_comm, Nat.div_add_mod] at this
  exact this

theorem sort_row {α : Type} [Inhabited α] {ρ : Go.Shelf.Ren} (L : SlLaysF0.n6 Try.prog ρ) {k : Nat} (hk0 : 0 < k) (aE : ∀ w, (isAgg (ρ.t 24)).run Try.prog w = .ok true w) (zE : ∀ w, (Go.sizeOf (ρ.t 24)).run Try.prog w = .ok k w) (enc : α → List Value) (hk : ∀ x, (enc x).length = k) (h1 : ∀ x, ∀ v ∈ enc x, v.oneCell' = true)
    (cf : α → α → Int) (hO : Go.Sort.SWO (ltOf cf)) {fn : Nat} {cb : Array Value} (eg : ∀ args w, (callFunc fn args).run Try.prog w = .ok (.enter fn args) w)
    (hcmp : ∀ (W : World) (x y : α), Calls Try.prog fn (#[.agg (enc x).toArray, .agg (enc y).toArray] ++ cb) W fun e w' => e = .returned (.int .i64 (cf x y)) ∧ ∃ q os', w' = Go.Sort.grow (W.drewN q) os')
    {w : World} {v : Value} {E : TypeId} (l : List α) (hrow : Row w E k v (l.flatMap enc)) (hl : l.length ≤ 1000000) :
    Calls Try.prog (ρ.f 6) #[v, .func (.func fn) #[] cb] w fun e w' => e = .returned (.tuple #[]) ∧ ∃ l' : List α, l'.Perm l ∧ l'.Pairwise (fun x y => ltOf cf y x = false) ∧ Row w' E k v (l'.flatMap enc) ∧ Touch (fun b => rowBlock v = some b) w w' := by
  have hrow' := hrow
  obtain ⟨ad, n, c, rfl, r1, r2, r3, r4, r5⟩ := hrow
  have hn : n = l.length := by
    rw [flatMap_len hk] at r1
    exact (Nat.eq_of_mul_eq_mul_right hk0 r1).symm
  subst hn
  by_cases h0 : l.length = 0
  · have : l = [] := List.eq_nil_of_length_eq_zero h0
    subst this
    exact (AnyF.slices_SortFunc_none L ad c (.func (.func fn) #[] cb) w).mono fun e w' h => ⟨h.1, [], List.Perm.refl _, List.Pairwise.nil, by rw [h.2]; exact hrow', by rw [h.2]; exact Touch.refl _ w⟩
  · obtain ⟨g, i, cs, rfl, hb, hfit, hcs⟩ := r5 (by omega)
    have hH : Go.Sort.HoldsK enc k w g i l.toArray := by
      intro j hj
      rw [Go.Sort.size_flatK] at hj
      have hj' : j < l.length * k := by simpa using hj
      exact ⟨hb.cell (hcs j _ (flat_at hk hk0 l hj')), hb.frozen _⟩
    have hs := AnyQ.slices_SortFunc L k aE zE enc hk h1 cf hO fn cb g i c l.toArray w eg (fun m os dk _ x y => hcmp _ x y) hH (obj_lt hb) (by simp; omega)
    rw [List.size_toArray] at hs
    refine hs.mono fun e w' h => ?_
    obtain ⟨he, d', m, os, hp, hsort, rfl⟩ := h
    obtain ⟨hsz, -, hperm⟩ := hp
    replace hsz : d'.size = l.length := by simpa using hsz
    have hsz' : d'.toList.length = l.length := by simpa using hsz
    have htk : (d'.extract 0 l.length).toList = d'.toList := by rw [← hsz]; simp
    have htk2 : (l.toArray.extract 0 l.length).toList = l := by simp
    rw [htk, htk2] at hperm
    have hrb : rowBlock (.slice (some ⟨g, i, none⟩) l.length c) = some g := by simp [rowBlock]; omega
    have hblk : Blk (Go.Proofs.sortWorldK enc k w g i m d' os) g E (Go.Sort.putCells id i (Go.Sort.flatK enc k d') cs) := by
      have h3 : (Go.Sort.putRowK enc k (Go.Sort.ahead w m) g i d').heap[g]? = some (.cells (Go.Sort.putCells id i (Go.Sort.flatK enc k d') cs) E (0, 0)) := by
        have h' : (Go.Sort.ahead w m).heap[g]? = some (.cells cs E (0, 0)) := hb
        unfold Go.Sort.putRowK Go.Sort.putRow Go.Sort.mapBlock
        simp only [Array.getElem?_modify, if_true, h', Option.map_some]
        rfl
      show (Go.Proofs.sortWorldK enc k w g i m d' os).heap[g]? = _
      unfold Go.Proofs.sortWorldK
      rw [Go.Sort.heap_grow_old _ _ (obj_lt h3)]
      exact h3
    refine ⟨he, d'.toList, hperm, ?_, ⟨_, _, _, rfl, by rw [flatMap_len hk, hsz'], r2, r3, r4, fun hc => ⟨g, i, _, rfl, hblk, by simpa [Go.Sort.putCells] using hfit, fun j u hu => ?_⟩⟩, ?_⟩
    · rw [List.pairwise_iff_getElem]
      intro a b ha hb' hab
      have := hsort a b (Nat.zero_le _) hab (by omega)
      rw [getElem!_pos d' b (by simpa using hb'), getElem!_pos d' a (by simpa using ha)] at this
      simpa using this
    · have hj : j < d'.toList.length * k := by have := (List.getElem?_eq_some_iff.1 hu).1; rw [flatMap_len hk] at this; exact this
      have hfa := flat_at hk hk0 d'.toList hj
      rw [hu] at hfa
      have hcl : i + j < cs.size := by
        have h7 : l.length * k ≤ c * k := Nat.mul_le_mul_right _ r2
        rw [hsz'] at hj
        omega
      unfold Go.Sort.putCells
      rw [Array.getElem?_mapIdx, Array.getElem?_eq_getElem hcl]
      simp only [Option.map_some, Go.Sort.size_flatK]
      rw [if_pos ⟨by omega, by have : d'.size = d'.toList.length := by simp
                               rw [this]; omega⟩, Nat.add_sub_cancel_left]
      simpa using hfa.symm
    · refine ⟨rfl, rfl, rfl, ?_, fun b hb2 hnb => ?_⟩
      · unfold Go.Proofs.sortWorldK Go.Sort.grow Go.Sort.putRowK Go.Sort.putRow Go.Sort.mapBlock Go.Sort.ahead
        simp
      · have hne : b ≠ g := fun e => hnb (by rw [e]; exact hrb)
        unfold Go.Proofs.sortWorldK
        rw [Go.Sort.heap_grow_old _ _ (by unfold Go.Sort.putRowK; rw [Go.Sort.size_putRow]; exact hb2)]
        unfold Go.Sort.putRowK Go.Sort.putRow Go.Sort.mapBlock Go.Sort.ahead
        simp only [Array.getElem?_modify]
        rw [if_neg (fun e => hne e.symm)]
end Go.Proofs.Ytioofhmkeajkpaa
