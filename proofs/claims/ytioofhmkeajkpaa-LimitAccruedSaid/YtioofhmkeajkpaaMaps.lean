/-
  Words for maps as lists of keys and elements, and the operations on them as laws.
-/
import Derived.Test.YtioofhmkeajkpaaOps
import Derived.DeepKeys4
namespace Go.Proofs.Ytioofhmkeajkpaa
open Go Go.RowKit
open Go.Maps (Keyed)

theorem nodup_inj {α : Type} {l : List α} (h : l.Nodup) {i j : Nat} (hi : i < l.length) (hj : j < l.length) (e : l[i] = l[j]) : i = j := by
  have hp := List.pairwise_iff_getElem.1 h
  rcases Nat.lt_trichotomy i j with h1 | h1 | h1
  · exact absurd e (hp i j hi hj h1)
  · exact h1
  · exact absurd e.symm (hp j i hj hi h1)

/-- Block b is a map whose entries, in the order in which they came, are m. -/
def MapAt (P : Program) (kt : TypeId) (w : World) (b : Nat) (m : List (Value × Value)) : Prop :=
  ∃ es ck, w.heap[b]? = some (.map es ck) ∧ es.toList.map (fun e => (e.key, e.val)) = m ∧ (∀ e ∈ es.toList, ∃ l, keyOf P kt e.key = some l) ∧
    (m.map (·.1)).Nodup ∧ (es.toList.map (·.born)).Pairwise (· < ·) ∧ ∀ e ∈ es.toList, e.born < ck

section
variable {P : Program} {kt : TypeId} {w w' : World} {b : Nat} {m : List (Value × Value)} {F : Nat → Prop}

theorem MapAt.keep (h : MapAt P kt w b m) (ht : Touch F w w') (hn : ¬ F b) : MapAt P kt w' b m := by
  obtain ⟨es, ck, hb, h⟩ := h
  exact ⟨es, ck, ht.obj hb hn, h⟩
theorem MapAt.lt (h : MapAt P kt w b m) : b < w.heap.size := by
  obtain ⟨es, ck, hb, h⟩ := h
  exact obj_lt hb
theorem MapAt.new (P : Program) (kt : TypeId) (w : World) (ck : Nat) : MapAt P kt (w.alloc (.map #[] ck)) w.heap.size [] :=
  ⟨#[], ck, obj_new w _, rfl, by simp, by simp, by simp, by simp⟩
theorem MapAt.alloc (h : MapAt P kt w b m) (o : Obj) : MapAt P kt (w.alloc o) b m := h.keep (Ext.alloc w o) (fun h => h)

def setMap (w : World) (b : Nat) (o : Obj) : World := { w with heap := w.heap.setIfInBounds b o }

theorem setMap_obj {o o' : Obj} (h : w.heap[b]? = some o) : (setMap w b o').heap[b]? = some o' := by
  have := obj_lt h
  simp [setMap, this]
theorem touch_setMap (w : World) (b : Nat) (o : Obj) : Touch (· = b) w (setMap w b o) :=
  ⟨rfl, rfl, rfl, by simp [setMap], fun c _ hn => by
    simp only [setMap]
    rw [Array.getElem?_setIfInBounds_ne (fun e => hn e.symm)]⟩

theorem run_getObj_map {es : Array MapEntry} {ck : Nat} (h : w.heap[b]? = some (.map es ck)) : (getObj b).run P w = .ok (.map es ck) w := by
  simp [getObj, Sem.run, h]
theorem run_setObj_map {es : Array MapEntry} {ck : Nat} {o : Obj} (h : w.heap[b]? = some (.map es ck)) : (setObj b o).run P w = .ok () (setMap w b o) := by
  simp [setObj, Sem.run, h, setMap]

variable {t et : TypeId}

theorem run_zero {z : Value} (hz : (P.info? et).bind (·.zero) = some z) : (zeroValue et).run P w = .ok z w := by
  cases hi : P.info? et with
  | none => rw [hi] at hz; cases hz
  | some i =>
    rw [hi] at hz
    simp only [Option.bind_some] at hz
    simp [zeroValue, typeInfo, hi, hz]

theorem run_lookup_hit (K : Keyed P kt) (ht : P.underlying t = some (.map kt et)) (h : MapAt P kt w b m) {k v : Value} {l : Lit} (hk : keyOf P kt k = some l) (hm : (k, v) ∈ m) (ok : Bool) :
    (Instr.lookup t (.map (some b)) k ok).run P w = .ok (if ok then .tuple #[v, .bool true] else v) w := by
  obtain ⟨es, ck, hb, rfl, hkeys, hnd, _, _⟩ := h
  obtain ⟨e, he, hev⟩ := List.mem_map.1 hm
  injection hev with hek hev
  rcases K.find w hk es.toList hkeys with ⟨h1, h2⟩ | ⟨j, e', h1, h2, h3⟩
  · exact absurd hek (h2 e he)
  · have : e' = e := by
      have hm' := List.mem_of_getElem? h2
      rw [List.map_map] at hnd
      obtain ⟨i, hi, rfl⟩ := List.getElem_of_mem he
      obtain ⟨i', hi', rfl⟩ := List.getElem_of_mem hm'
      have hinj := nodup_inj hnd (i := i) (j := i') (by simpa using hi) (by simpa using hi')
      simp only [List.getElem_map, Function.comp] at hinj
      have : i = i' := hinj (by rw [hek, h3])
      subst this; rfl
    subst this
    subst hev
    simp [Instr.lookup, run_underlying ht, run_getObj_map hb, K.check w _ hk, h1]

theorem run_lookup_miss (K : Keyed P kt) (ht : P.underlying t = some (.map kt et)) (h : MapAt P kt w b m) {k z : Value} {l : Lit} (hz : (P.info? et).bind (·.zero) = some z) (hk : keyOf P kt k = some l)
    (hm : k ∉ m.map (·.1)) (ok : Bool) :
    (Instr.lookup t (.map (some b)) k ok).run P w = .ok (if ok then .tuple #[z, .bool false] else z) w := by
  obtain ⟨es, ck, hb, rfl, hkeys, hnd, _, _⟩ := h
  rcases K.find w hk es.toList hkeys with ⟨h1, h2⟩ | ⟨j, e', h1, h2, h3⟩
  · simp [Instr.lookup, run_underlying ht, run_getObj_map hb, K.check w _ hk, h1, run_zero hz]
  · refine absurd ?_ hm
    rw [List.map_map]
    exact List.mem_map.2 ⟨e', List.mem_of_getElem? h2, h3⟩

theorem run_update_miss (K : Keyed P kt) (ht : P.underlying t = some (.map kt et)) (h : MapAt P kt w b m) {k v : Value} {l : Lit} (hk : keyOf P kt k = some l) (hm : k ∉ m.map (·.1)) :
    ∃ w', (Instr.mapUpdate t (.map (some b)) k v).run P w = .ok () w' ∧ MapAt P kt w' b (m ++ [(k, v)]) ∧ Touch (· = b) w w' ∧ w'.heap.size = w.heap.size := by
  obtain ⟨es, ck, hb, rfl, hkeys, hnd, hst, hck⟩ := h
  rcases K.find w hk es.toList hkeys with ⟨h1, h2⟩ | ⟨j, e', h1, h2, h3⟩
  · refine ⟨setMap w b (.map (es.push { key := k, val := v, born := ck }) (ck + 1)), ?_, ⟨_, _, setMap_obj hb, by simp, ?_, ?_, ?_, ?_⟩, touch_setMap w b _, by simp [setMap]⟩
    · simp [Instr.mapUpdate, run_underlying ht, run_getObj_map hb, K.check w _ hk, h1, run_setObj_map hb]
    · intro e he
      simp only [Array.toList_push, List.mem_append, List.mem_singleton] at he
      rcases he with he | rfl
      · exact hkeys e he
      · exact ⟨l, hk⟩
    · rw [List.map_append, List.nodup_append]
      refine ⟨hnd, by simp, ?_⟩
      intro x hx y hy
      simp only [List.map_cons, List.map_nil, List.mem_singleton] at hy
      subst hy
      rintro rfl
      exact hm hx
    · simp only [Array.toList_push, List.map_append, List.map_cons, List.map_nil, List.pairwise_append]
      refine ⟨hst, by simp, ?_⟩
      intro x hx y hy
      obtain ⟨e, he, rfl⟩ := List.mem_map.1 hx
      simp only [List.mem_singleton] at hy
      subst hy
      exact hck e he
    · intro e he
      simp only [Array.toList_push, List.mem_append, List.mem_singleton] at he
      rcases he with he | rfl
      · have := hck e he; omega
      · simp
  · refine absurd ?_ hm
    rw [List.map_map]
    exact List.mem_map.2 ⟨e', List.mem_of_getElem? h2, h3⟩

def putIn [DecidableEq Value] (k v : Value) : Value × Value → Value × Value := fun p => if p.1 = k then (k, v) else p

open Classical in
theorem run_update_hit (K : Keyed P kt) (ht : P.underlying t = some (.map kt et)) (h : MapAt P kt w b m) {k v : Value} {l : Lit} (hk : keyOf P kt k = some l) (hm : k ∈ m.map (·.1)) :
    ∃ w', (Instr.mapUpdate t (.map (some b)) k v).run P w = .ok () w' ∧ MapAt P kt w' b (m.map fun p => if p.1 = k then (k, v) else p) ∧ Touch (· = b) w w' ∧ w'.heap.size = w.heap.size := by
  obtain ⟨es, ck, hb, rfl, hkeys, hnd, hst, hck⟩ := h
  rcases K.find w hk es.toList hkeys with ⟨h1, h2⟩ | ⟨j, e', h1, h2, h3⟩
  · rw [List.map_map] at hm
    obtain ⟨e, he, hek⟩ := List.mem_map.1 hm
    exact absurd hek (h2 e he)
  · have hj : j < es.size := by have := (List.getElem?_eq_some_iff.1 h2).1; simpa using this
    have h2' : es[j]? = some e' := by rw [← h2]; simp
    have hmod : (es.modify j fun e => { e with key := k, val := v }).toList = es.toList.map fun e => if e.key = k then { e with key := k, val := v } else e := by
      apply List.ext_getElem?
      intro i
      simp only [Array.getElem?_toList, Array.getElem?_modify, List.getElem?_map]
      by_cases hij : j = i
      · subst hij
        simp only [if_true]
        rw [h2']
        simp [h3]
      · rw [if_neg hij]
        cases hi : es[i]? with
        | none => rfl
        | some e =>
          simp only [Option.map_some]
          rw [if_neg]
          intro hek
          apply hij
          rw [List.map_map] at hnd
          have hi' : i < es.toList.length := by have := (Array.getElem?_eq_some_iff.1 hi).1; simpa using this
          have hinj := nodup_inj hnd (i := j) (j := i) (by simpa using hj) (by simpa using hi')
          simp only [List.getElem_map, Function.comp, Array.getElem_toList] at hinj
          apply hinj
          have e1 := (Array.getElem?_eq_some_iff.1 h2').2
          have e2 := (Array.getElem?_eq_some_iff.1 hi).2
          rw [e1, e2, h3, hek]
    refine ⟨setMap w b (.map (es.modify j fun e => { e with key := k, val := v }) ck), ?_, ⟨_, _, setMap_obj hb, ?_, ?_, ?_, ?_, ?_⟩, touch_setMap w b _, by simp [setMap]⟩
    · simp [Instr.mapUpdate, run_underlying ht, run_getObj_map hb, K.check w _ hk, h1, h2', h3, K.stays w hk, run_setObj_map hb]
    · rw [hmod, List.map_map, List.map_map]
      refine List.map_congr_left fun e _ => ?_
      simp only [Function.comp]
      split <;> rfl
    · intro e he
      rw [hmod] at he
      obtain ⟨e0, he0, rfl⟩ := List.mem_map.1 he
      split
      · exact ⟨l, hk⟩
      · exact hkeys e0 he0
    · have : ((es.toList.map (fun e => (e.key, e.val))).map (fun p => if p.1 = k then (k, v) else p)).map (·.1) = (es.toList.map (fun e => (e.key, e.val))).map (·.1) := by
        rw [List.map_map]
        refine List.map_congr_left fun p _ => ?_
        simp only [Function.comp]
        split
        · rename_i h; exact h.symm
        · rfl
      rw [this]; exact hnd
    · have : (es.modify j fun e => { e with key := k, val := v }).toList.map (·.born) = es.toList.map (·.born) := by
        rw [hmod, List.map_map]
        refine List.map_congr_left fun e _ => ?_
        simp only [Function.comp]
        split <;> rfl
      rw [this]; exact hst
    · intro e he
      rw [hmod] at he
      obtain ⟨e0, he0, rfl⟩ := List.mem_map.1 he
      split
      · exact hck e0 he0
      · exact hck e0 he0

open Classical in
theorem run_delete (K : Keyed P kt) (ht : P.underlying t = some (.map kt et)) (h : MapAt P kt w b m) {k : Value} {l : Lit} (hk : keyOf P kt k = some l) (ty t2 : TypeId) :
    ∃ w', (Builtin.delete_ #[t, t2] ty #[.map (some b), k]).run P w = .ok (.tuple #[]) w' ∧ MapAt P kt w' b (m.filter fun p => !decide (p.1 = k)) ∧ Touch (· = b) w w' ∧ w'.heap.size = w.heap.size := by
  obtain ⟨es, ck, hb, rfl, hkeys, hnd, hst, hck⟩ := h
  rcases K.find w hk es.toList hkeys with ⟨h1, h2⟩ | ⟨j, e', h1, h2, h3⟩
  · refine ⟨setMap w b (.map es ck), ?_, ⟨_, _, setMap_obj hb, ?_, hkeys, ?_, hst, hck⟩, touch_setMap w b _, by simp [setMap]⟩
    · simp [Builtin.delete_, run_underlying ht, run_getObj_map hb, K.check w _ hk, h1, run_setObj_map hb]
    · rw [List.filter_eq_self.2]
      intro p hp
      obtain ⟨e, he, rfl⟩ := List.mem_map.1 hp
      simpa using h2 e he
    · exact hnd.sublist ((List.filter_sublist).map _)
  · have hj : j < es.size := by have := (List.getElem?_eq_some_iff.1 h2).1; simpa using this
    have h2' : es[j]? = some e' := by rw [← h2]; simp
    have hnd2 : (es.toList.map (·.key)).Nodup := by rw [List.map_map] at hnd; exact hnd
    have herase : (es.eraseIdxIfInBounds j).toList = es.toList.filter fun e => !decide (e.key = k) := by
      have e1 : (es.eraseIdxIfInBounds j).toList = es.toList.eraseIdx j := by
        rw [Array.eraseIdxIfInBounds, dif_pos hj]; simp
      rw [e1]
      have hge : es.toList[j]'(by simpa using hj) = e' := by
        have := (Array.getElem?_eq_some_iff.1 h2').2; simpa using this
      have key : ∀ (l : List MapEntry) (j : Nat) (hj : j < l.length), (l.map (·.key)).Nodup → (l[j]).key = k → l.eraseIdx j = l.filter fun e => !decide (e.key = k) := by
        intro l
        induction l with
        | nil => intro j hj; simp at hj
        | cons x l ih =>
          intro j hj hnd hk'
          simp only [List.map_cons, List.nodup_cons] at hnd
          cases j with
          | zero =>
            simp only [List.getElem_cons_zero] at hk'
            rw [List.eraseIdx_zero, List.tail_cons, List.filter_cons_of_neg (by simp [hk'])]
            refine (List.filter_eq_self.2 fun e he => ?_).symm
            simp only [Bool.not_eq_true', decide_eq_false_iff_not]
            intro e1
            exact hnd.1 (List.mem_map.2 ⟨e, he, by rw [e1, hk']⟩)
          | succ j =>
            simp only [List.getElem_cons_succ] at hk'
            have hxk : x.key ≠ k := fun e1 => hnd.1 (List.mem_map.2 ⟨_, List.getElem_mem _, by rw [hk', e1]⟩)
            rw [List.eraseIdx_cons_succ, List.filter_cons_of_pos (by simpa using hxk), ih j (by simpa using hj) hnd.2 hk']
      exact key es.toList j (by simpa using hj) hnd2 (by rw [hge]; exact h3)
    refine ⟨setMap w b (.map (es.eraseIdxIfInBounds j) ck), ?_, ⟨_, _, setMap_obj hb, ?_, ?_, ?_, ?_, ?_⟩, touch_setMap w b _, by simp [setMap]⟩
    · simp [Builtin.delete_, run_underlying ht, run_getObj_map hb, K.check w _ hk, h1, run_setObj_map hb]
    · rw [herase, List.filter_map]; rfl
    · intro e he; rw [herase] at he; exact hkeys e (List.mem_filter.1 he).1
    · exact hnd.sublist ((List.filter_sublist).map _)
    · rw [herase]; exact hst.sublist ((List.filter_sublist).map _)
    · intro e he; rw [herase] at he; exact hck e (List.mem_filter.1 he).1

theorem run_len_map (ht : P.underlying t = some (.map kt et)) (h : MapAt P kt w b m) (ty : TypeId) : (Builtin.len_ #[t] ty #[.map (some b)]).run P w = .ok (.int .i64 m.length) w := by
  obtain ⟨es, ck, hb, rfl, _⟩ := h
  simp [Builtin.len_, run_underlying ht, run_getObj_map hb, goInt]
end

section
variable {P : Program} {o : Oper} {a : Act} {w : World} {K : Act → World → Prop} {Q : Exit → Act → World → Prop} {kt et t : TypeId} {b : Nat} {m : List (Value × Value)}
theorem execOp_lookup {ρ : Operand → Value} {x y : Operand} {ok : Bool} (ho : o.op = .lookup t x y ok) : execOp ρ o = (do pure (.value (← Instr.lookup t (ρ x) (ρ y) ok))) := by
  obtain ⟨dst, op, type, pos, after, guard⟩ := o; cases ho; rfl
theorem execOp_mapUpdate {ρ : Operand → Value} {x y z : Operand} (ho : o.op = .mapUpdate t x y z) : execOp ρ o = (do Instr.mapUpdate t (ρ x) (ρ y) (ρ z); pure .skip) := by
  obtain ⟨dst, op, type, pos, after, guard⟩ := o; cases ho; rfl

theorem op_lookup_hit {x y : Operand} {k v : Value} {l : Lit} (ho : o.op = .lookup t x y false) (hx : a.eval x = .map (some b)) (hy : a.eval y = k) (K' : Keyed P kt) (ht : P.underlying t = some (.map kt et))
    (hm : MapAt P kt w b m) (hk : keyOf P kt k = some l) (hin : (k, v) ∈ m) (h : K (a.put o.dst v) w) : o.wp P a w K Q :=
  op_run _ v w (by rw [execOp_lookup ho, hx, hy]) (by have := run_lookup_hit K' ht hm hk hin false; simpa using this) h
theorem op_lookup_miss {x y : Operand} {k z : Value} {l : Lit} (ho : o.op = .lookup t x y false) (hx : a.eval x = .map (some b)) (hy : a.eval y = k) (K' : Keyed P kt) (ht : P.underlying t = some (.map kt et))
    (hm : MapAt P kt w b m) (hz : (P.info? et).bind (·.zero) = some z) (hk : keyOf P kt k = some l) (hin : k ∉ m.map (·.1)) (h : K (a.put o.dst z) w) : o.wp P a w K Q :=
  op_run _ z w (by rw [execOp_lookup ho, hx, hy]) (by have := run_lookup_miss K' ht hm hz hk hin false; simpa using this) h
theorem op_lookup2_hit {x y : Operand} {k v : Value} {l : Lit} (ho : o.op = .lookup t x y true) (hx : a.eval x = .map (some b)) (hy : a.eval y = k) (K' : Keyed P kt) (ht : P.underlying t = some (.map kt et))
    (hm : MapAt P kt w b m) (hk : keyOf P kt k = some l) (hin : (k, v) ∈ m) (h : K (a.put o.dst (.tuple #[v, .bool true])) w) : o.wp P a w K Q :=
  op_run _ _ w (by rw [execOp_lookup ho, hx, hy]) (by have := run_lookup_hit K' ht hm hk hin true; simpa using this) h
theorem op_lookup2_miss {x y : Operand} {k z : Value} {l : Lit} (ho : o.op = .lookup t x y true) (hx : a.eval x = .map (some b)) (hy : a.eval y = k) (K' : Keyed P kt) (ht : P.underlying t = some (.map kt et))
    (hm : MapAt P kt w b m) (hz : (P.info? et).bind (·.zero) = some z) (hk : keyOf P kt k = some l) (hin : k ∉ m.map (·.1)) (h : K (a.put o.dst (.tuple #[z, .bool false])) w) : o.wp P a w K Q :=
  op_run _ _ w (by rw [execOp_lookup ho, hx, hy]) (by have := run_lookup_miss K' ht hm hz hk hin true; simpa using this) h

theorem op_update_miss {x y z : Operand} {k v : Value} {l : Lit} (ho : o.op = .mapUpdate t x y z) (hx : a.eval x = .map (some b)) (hy : a.eval y = k) (hz : a.eval z = v) (K' : Keyed P kt) (ht : P.underlying t = some (.map kt et))
    (hm : MapAt P kt w b m) (hk : keyOf P kt k = some l) (hin : k ∉ m.map (·.1))
    (h : ∀ w', MapAt P kt w' b (m ++ [(k, v)]) → Touch (· = b) w w' → w'.heap.size ≤ w.heap.size → K (a.put o.dst undef) w') : o.wp P a w K Q := by
  obtain ⟨w', hr, h1, h2, h3⟩ := run_update_miss (v := v) K' ht hm hk hin
  exact op_skip _ w' (by rw [execOp_mapUpdate ho, hx, hy, hz]) hr (h w' h1 h2 (Nat.le_of_eq h3))
open Classical in
theorem op_update_hit {x y z : Operand} {k v : Value} {l : Lit} (ho : o.op = .mapUpdate t x y z) (hx : a.eval x = .map (some b)) (hy : a.eval y = k) (hz : a.eval z = v) (K' : Keyed P kt) (ht : P.underlying t = some (.map kt et))
    (hm : MapAt P kt w b m) (hk : keyOf P kt k = some l) (hin : k ∈ m.map (·.1))
    (h : ∀ w', MapAt P kt w' b (m.map fun p => if p.1 = k then (k, v) else p) → Touch (· = b) w w' → w'.heap.size ≤ w.heap.size → K (a.put o.dst undef) w') : o.wp P a w K Q := by
  obtain ⟨w', hr, h1, h2, h3⟩ := run_update_hit (v := v) K' ht hm hk hin
  exact op_skip _ w' (by rw [execOp_mapUpdate ho, hx, hy, hz]) hr (h w' h1 h2 (Nat.le_of_eq h3))

/-! ### builtins -/
theorem execOp_builtin1 {ρ : Operand → Value} {b : Builtin} {xs : Array Operand} {ats : Array TypeId} (ho : o.op = .call { callee := .builtin b, args := xs, argTypes := ats }) :
    execOp ρ o = builtin b ats o.type (xs.map fun | .const _ => true | _ => false) (xs.map ρ) := by
  obtain ⟨dst, op, type, pos, after, guard⟩ := o; cases ho; rfl

open Classical in
theorem op_delete {x y : Operand} {k : Value} {l : Lit} {t2 : TypeId} (ho : o.op = .call { callee := .builtin .delete, args := #[x, y], argTypes := #[t, t2] }) (hx : a.eval x = .map (some b)) (hy : a.eval y = k)
    (K' : Keyed P kt) (ht : P.underlying t = some (.map kt et)) (hm : MapAt P kt w b m) (hk : keyOf P kt k = some l)
    (h : ∀ w', MapAt P kt w' b (m.filter fun p => !decide (p.1 = k)) → Touch (· = b) w w' → w'.heap.size ≤ w.heap.size → K (a.put o.dst (.tuple #[])) w') : o.wp P a w K Q := by
  obtain ⟨w', hr, h1, h2, h3⟩ := run_delete K' ht hm hk o.type t2
  refine op_run (Builtin.delete_ #[t, t2] o.type #[.map (some b), k]) _ w' ?_ hr (h w' h1 h2 (Nat.le_of_eq h3))
  rw [execOp_builtin1 ho, ← hx, ← hy]
  simp only [List.map_toArray, List.map_cons, List.map_nil]
  rfl
theorem op_len_map {x : Operand} (ho : o.op = .call { callee := .builtin .len, args := #[x], argTypes := #[t] }) (hx : a.eval x = .map (some b)) (ht : P.underlying t = some (.map kt et)) (hm : MapAt P kt w b m)
    (h : K (a.put o.dst (.int .i64 m.length)) w) : o.wp P a w K Q := by
  refine op_run (Builtin.len_ #[t] o.type #[.map (some b)]) _ w ?_ (run_len_map ht hm o.type) h
  rw [execOp_builtin1 ho, ← hx]
  simp only [List.map_toArray, List.map_cons, List.map_nil]
  rfl

theorem op_append {x y : Operand} {E : TypeId} {i : TypeInfo} {z : Value} {size bytes : Nat} (ho : o.op = .call { callee := .builtin .append, args := #[x, y], argTypes := #[t, t] })
    {v sv : Value} (hx : a.eval x = v) (hy : a.eval y = sv) (ht : P.underlying t = some (.slice E)) (hi : P.info? E = some i) (hz : i.zero = some z)
    (hsize : i.size = size) (hby : i.bytes = bytes) (hzs : z.cells.size = size) (hsz : 0 < size)
    {xs : List Value} (hrow : Row w E size v xs)
    {A : Option Addr} {m c0 : Nat} {news : List Value} (hsv : sv = .slice A m c0) (hl : news.length = m * size) (hnews : ∀ ad, A = some ad → ∀ j u, news[j]? = some u → w.cell? (ad.add j) = some u)
    (hA : A = none → m = 0) (h1 : ∀ u ∈ news, u.oneCell' = true)
    (hbytes : (xs.length + news.length) * bytes ≤ 140737488355328) (hlen : xs.length + news.length ≤ maxLen)
    (h : ∀ v' w', Row w' E size v' (xs ++ news) → Touch (fun b => rowBlock v = some b) w w' →
      (rowBlock v' = rowBlock v ∧ w'.heap.size = w.heap.size ∨ (rowBlock v' = some w.heap.size ∧ w'.heap.size = w.heap.size + 1 ∧ Ext w w')) → K (a.put o.dst v') w') : o.wp P a w K Q := by
  obtain ⟨v', w', hr, h2, h3, h4⟩ := run_append_row (P := P) (t := t) (ty := o.type) ht hi hz hsize hby hzs hsz hrow hsv hl hnews hA h1 hbytes hlen
  refine op_run (Builtin.append_ #[t, t] o.type #[v, sv]) _ w' ?_ hr (h v' w' h2 h3 h4)
  rw [execOp_builtin1 ho, ← hx, ← hy]
  simp only [List.map_toArray, List.map_cons, List.map_nil]
  rfl
end
end Go.Proofs.Ytioofhmkeajkpaa
