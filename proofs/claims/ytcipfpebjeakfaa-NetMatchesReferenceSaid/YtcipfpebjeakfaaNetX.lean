/-
  The plain law of NetKeeps; lists and sets of a law's own in memory.
-/
import Derived.Test.YtcipfpebjeakfaaNetV
namespace Go.Proofs.Ytcipfpebjeakfaa
open Go Go.RowKit Go.WideMaps

/-! ### the plain law -/
theorem NetS.add_pre (S : NetS) (i : Nat) (s : ByteArray) (k : Nat) : ∃ ys, (S.add i s).texts k = S.texts k ++ ys := by
  unfold NetS.add
  split
  · exact ⟨[], by simp⟩
  · by_cases e : k = i
    · subst e; exact ⟨[s], by simp [upd]⟩
    · exact ⟨[], by simp [upd, e]⟩
theorem NetS.ins_texts (S : NetS) (i : SetId) (s : ByteArray) : (S.ins i s).texts = S.texts := by unfold NetS.ins; split <;> rfl
theorem NetS.recvs_pre (to fr : Nat) (k : Nat) : ∀ (l : List ByteArray) (S : NetS), ∃ ys, (S.recvs to fr l).texts k = S.texts k ++ ys
  | [], S => ⟨[], by simp [NetS.recvs]⟩
  | s :: l, S => by
    obtain ⟨ys, h⟩ := NetS.recvs_pre to fr k l (S.recv1 to fr s)
    obtain ⟨zs, h2⟩ := S.add_pre to s k
    refine ⟨zs ++ ys, ?_⟩
    show ((S.recv1 to fr s).recvs to fr l).texts k = _
    rw [h]
    unfold NetS.recv1
    rw [NetS.ins_texts, h2, List.append_assoc]
theorem NetS.recv_pre (S : NetS) (fr to : Nat) (m : Msg) (k : Nat) : ∃ ys, (S.recv fr to m).texts k = S.texts k ++ ys := NetS.recvs_pre to fr k m.texts S
theorem NetS.deliver_pre (S : NetS) (fr to : Nat) (lost again : Bool) (k : Nat) : ∃ ys, (S.deliver fr to lost again).texts k = S.texts k ++ ys := by
  have id : ∃ ys, S.texts k = S.texts k ++ ys := ⟨[], by simp⟩
  unfold NetS.deliver
  split
  · split
    · exact id
    · split
      · exact id
      · split
        · exact id
        · split
          · exact S.recv_pre fr to _ k
          · exact (S.pop fr to).recv_pre fr to _ k
  · exact id
theorem NetS.put_pre (S : NetS) (i : Nat) (s : ByteArray) (k : Nat) : ∃ ys, (S.put i s).texts k = S.texts k ++ ys := by
  unfold NetS.put
  split
  · obtain ⟨ys, h⟩ := (S.know s).add_pre i s k
    exact ⟨ys, by rw [h, NetS.know_texts]⟩
  · exact ⟨[], by simp⟩
theorem NetS.send_texts (S : NetS) (a b : Nat) : (S.send a b).texts = S.texts := by
  unfold NetS.send
  split
  · split <;> rfl
  · rfl
theorem NetS.cutTo_texts (S : NetS) (a b : Nat) (v : Bool) : (S.cutTo a b v).texts = S.texts := by unfold NetS.cutTo; split <;> rfl
theorem NetS.step_pre (S : NetS) (o : OpV) (k : Nat) : ∃ ys, (S.step o).texts k = S.texts k ++ ys := by
  unfold NetS.step
  split
  · exact S.put_pre _ _ k
  · split
    · exact ⟨[], by rw [NetS.send_texts]; simp⟩
    · split
      · exact S.deliver_pre _ _ _ _ k
      · exact ⟨[], by rw [NetS.cutTo_texts]; simp⟩
theorem beginsB_pre {xs ys zs : List ByteArray} (h : ys = xs ++ zs) : beginsB ys xs = true := by
  subst h
  unfold beginsB
  rw [decide_eq_true (by simp), List.take_left, sameB_iff.2 rfl]
  rfl

def addB (P : List ByteArray) (s : ByteArray) : List ByteArray := if s ∈ P then P else P ++ [s]
theorem addB_in (P : List ByteArray) (s : ByteArray) : s ∈ addB P s := by
  unfold addB
  split
  · assumption
  · simp
theorem addB_more {P : List ByteArray} (s : ByteArray) {t : ByteArray} (h : t ∈ P) : t ∈ addB P s := by
  unfold addB
  split
  · exact h
  · simp [h]
theorem NetS.deliver_all (S : NetS) (fr to : Nat) (lost again : Bool) : (S.deliver fr to lost again).sets .all = S.sets .all := by
  unfold NetS.deliver
  split
  · split
    · rfl
    · split
      · rfl
      · split
        · rfl
        · split
          · exact S.recv_all fr to _
          · exact (S.pop fr to).recv_all fr to _
  · rfl
theorem NetS.cutTo_all (S : NetS) (a b : Nat) (v : Bool) : (S.cutTo a b v).sets .all = S.sets .all := by unfold NetS.cutTo; split <;> rfl
theorem NetS.put_all (S : NetS) (i : Nat) (s : ByteArray) : (S.put i s).sets .all = if i < S.n then addB (S.sets .all) s else S.sets .all := by
  unfold NetS.put
  split
  · rw [NetS.add_all]
    unfold NetS.know addB
    split
    · rfl
    · simp [updS]
  · rfl
theorem NetS.step_all (S : NetS) (o : OpV) (hn : 0 < S.n) : (S.step o).sets .all = if o.kind % 4 = 0 then addB (S.sets .all) o.text else S.sets .all := by
  unfold NetS.step
  split
  · rw [NetS.put_all, if_pos (Nat.mod_lt _ hn)]
  · split
    · exact S.send_all _ _
    · split
      · exact S.deliver_all _ _ _ _
      · exact S.cutTo_all _ _ _

/-! ### memory -/
section
variable {W W' w w0 : World} {p : Nat} {L L' : Lay} {S : NetS} {E E' : TypeId} {size size' : Nat} {v u : Value} {xs ys : List Value}
theorem Row.blk (h : Row W E size v xs) {b : Nat} (hb : rowBlock v = some b) : ∃ cs, Blk W b E cs := by
  obtain ⟨ad, n, c, rfl, h1, h2, h3, h4, h5⟩ := h
  cases ad with
  | none => simp [rowBlock] at hb
  | some a =>
    simp only [rowBlock] at hb
    split at hb
    · cases hb
    · rename_i hc
      obtain ⟨g, i, cs, he, hblk, _⟩ := h5 (by omega)
      injection he with he
      injection hb with hb
      subst he
      subst hb
      exact ⟨cs, hblk⟩
/-- Rows of different types share no block. -/
theorem Row.unlike (h : Row W E size v xs) (h' : Row W E' size' u ys) (hne : E ≠ E') {b : Nat} (hb : rowBlock v = some b) : rowBlock u ≠ some b := by
  intro hu
  obtain ⟨cs, h1⟩ := h.blk hb
  obtain ⟨cs', h2⟩ := h'.blk hu
  have h3 : W.heap[b]? = _ := h1
  have h4 : W.heap[b]? = _ := h2
  rw [h3] at h4
  injection h4 with h4
  injection h4 with _ h5 _
  exact hne h5

/-- The lists of the first k nodes, in memory that is not older than w. -/
def Was (w W : World) (u : Value) (S : NetS) (k : Nat) : Prop :=
  Ext w W ∧ ∃ vs : List Value, vs.length = k ∧ Row W 39 1 u vs ∧ (∀ b, rowBlock u = some b → w.heap.size ≤ b) ∧
    ∀ i, i < k → ∃ v, vs[i]? = some v ∧ Row W 9 1 v ((S.texts i).map .string) ∧ ∀ b, rowBlock v = some b → w.heap.size ≤ b
theorem Was.nil (w : World) (S : NetS) : Was w w (.slice none 0 0) S 0 := ⟨Touch.refl _ w, [], rfl, Row.nil _ _ _, fun b hb => by simp [rowBlock] at hb, fun i hi => by omega⟩
theorem Was.ext {k : Nat} (h : Was w W u S k) (hE : Ext W W') : Was w W' u S k := by
  obtain ⟨h0, vs, h1, h2, h3, h4⟩ := h
  refine ⟨h0.then_ext hE, vs, h1, h2.keep hE fun _ _ h => h, h3, fun i hi => ?_⟩
  obtain ⟨v, h5, h6, h7⟩ := h4 i hi
  exact ⟨v, h5, h6.keep hE fun _ _ h => h, h7⟩

theorem Own.since {w2 : World} {v : Value} {xs : List ByteArray} (h : Own w2 W v xs) (hE : Ext w w2) : Own w W v xs := ⟨h.row, fun b hb => Nat.le_trans hE.size (h.new b hb), hE.then_ext h.ext⟩

theorem Try.in39 : (Try.prog.info? 39).map (fun i => (i.zero, i.size, i.bytes)) = some (some (.slice none 0 0), 1, 24) := by kernel_rfl
theorem Try.szE39 : (Try.prog.info? 39).map (·.size) = some 1 := by kernel_rfl

theorem op_append_was {o : Oper} {a : Act} {K : Act → World → Prop} {Q : Exit → Act → World → Prop} {x y : Operand} {k : Nat} {sv : Value}
    (ho : o.op = .call { callee := .builtin .append, args := #[x, y], argTypes := #[45, 45] }) (hx : a.eval x = u) (hy : a.eval y = sv)
    (hu : Was w W u S k) (hv : Own w W v (S.texts k)) (hs : Row W 39 1 sv [v]) (hk : k ≤ 1000)
    (h : ∀ u' W', Was w W' u' S (k + 1) → K (a.put o.dst u') W') : o.wp Try.prog a W K Q := by
  obtain ⟨i0, hi0, hz0, hz1, hz2⟩ := info_parts Try.in39
  obtain ⟨A, m, c, hsv, hm, hn, hA⟩ := hs.news
  obtain ⟨h0, vs, h1, h2, h3, h4⟩ := hu
  have h1' : ∀ z ∈ [v], z.oneCell' = true := by
    intro z hz
    rw [List.mem_singleton] at hz
    subst hz
    exact row_one hv.row
  refine op_append ho hx hy Try.underlying45 hi0 hz0 hz1 hz2 rfl (by omega) h2 hsv hm hn hA h1' ?_ ?_ ?_
  · simp only [List.length_cons, List.length_nil]; omega
  · simp only [List.length_cons, List.length_nil]; unfold maxLen; omega
  · intro u' W' hr ht hb
    have old : ∀ b, rowBlock u' = some b → w.heap.size ≤ b := by
      intro b he
      rcases hb with ⟨h5, _⟩ | ⟨h5, _⟩
      · exact h3 b (by rw [← h5]; exact he)
      · rw [h5] at he
        injection he with he
        subst he
        exact h0.size
    refine h u' W' ⟨h0.trans ht fun b hb he => by have := h3 b he; omega, vs ++ [v], by simp [h1], hr, old, fun i hi => ?_⟩
    by_cases e : i < k
    · obtain ⟨v2, h5, h6, h7⟩ := h4 i e
      refine ⟨v2, by rw [List.getElem?_append_left (by omega)]; exact h5, h6.keep ht fun b hb he => h6.unlike h2 (by decide) hb he, h7⟩
    · have e : i = k := by omega
      subst e
      exact ⟨v, by rw [List.getElem?_append_right (by omega), h1]; simp, hv.row.keep ht fun b hb he => hv.row.unlike h2 (by decide) hb he, hv.new⟩

/-- .. and apart from the network. -/
def WasH (W : World) (L : Lay) (u : Value) (S : NetS) (k : Nat) : Prop :=
  ∃ vs : List Value, vs.length = k ∧ Held W L 39 1 u vs ∧ ∀ i, i < k → ∃ v, vs[i]? = some v ∧ Held W L 9 1 v ((S.texts i).map .string)
theorem Was.held {k : Nat} {S0 : NetS} (h : Was w W u S k) (hn : NetAt w p L S0) : WasH W L u S k := by
  obtain ⟨h0, vs, h1, h2, h3, h4⟩ := h
  refine ⟨vs, h1, Held.new hn h2 h3, fun i hi => ?_⟩
  obtain ⟨v, h5, h6, h7⟩ := h4 i hi
  exact ⟨v, h5, Held.new hn h6 h7⟩
theorem WasH.ext {k : Nat} (h : WasH W L u S k) (hE : Ext W W') : WasH W' L u S k := by
  obtain ⟨vs, h1, h2, h4⟩ := h
  refine ⟨vs, h1, h2.ext hE, fun i hi => ?_⟩
  obtain ⟨v, h5, h6⟩ := h4 i hi
  exact ⟨v, h5, h6.ext hE⟩
theorem WasH.step {k : Nat} (h : WasH W L u S k) (hE : LayTo W.heap.size W W' L L') : WasH W' L' u S k := by
  obtain ⟨vs, h1, h2, h4⟩ := h
  refine ⟨vs, h1, h2.step hE, fun i hi => ?_⟩
  obtain ⟨v, h5, h6⟩ := h4 i hi
  exact ⟨v, h5, h6.step hE⟩
theorem WasH.keep {k : Nat} {F : Nat → Prop} (h : WasH W L u S k) (ht : Touch F W W') (hF : ∀ b, F b → ∀ t cs, ¬ Blk W b t cs) : WasH W' L u S k := by
  obtain ⟨vs, h1, h2, h4⟩ := h
  refine ⟨vs, h1, ⟨h2.row.keep ht fun b hb hf => ?_, h2.tag⟩, fun i hi => ?_⟩
  · obtain ⟨cs, hc⟩ := h2.row.blk hb
    exact hF b hf _ _ hc
  · obtain ⟨v, h5, h6⟩ := h4 i hi
    refine ⟨v, h5, h6.row.keep ht fun b hb hf => ?_, h6.tag⟩
    obtain ⟨cs, hc⟩ := h6.row.blk hb
    exact hF b hf _ _ hc

/-- A set of texts of the law's own. -/
structure PutAt (w0 W : World) (L : Lay) (m : Nat) (P : List ByteArray) : Prop where
  map : MapAt Try.prog 9 W m (strs P)
  tag : L.tag m = .oth
  new : w0.heap.size ≤ m
theorem PutAt.ext {m : Nat} {P : List ByteArray} (h : PutAt w0 W L m P) (hE : Ext W W') : PutAt w0 W' L m P := ⟨h.map.keep hE (fun h => h), h.tag, h.new⟩
theorem PutAt.step {m : Nat} {P : List ByteArray} (h : PutAt w0 W L m P) (ht : LayTo W.heap.size W W' L L') : PutAt w0 W' L' m P :=
  ⟨h.map.keep ht.touch fun hf => by
    rcases hf with hf | hf
    · have := h.map.lt; omega
    · exact hf.1 h.tag, ht.tag m h.map.lt h.tag, h.new⟩
theorem LawAt.other {m : Nat} (h : LawAt w0 W p L S) (ht : Touch (· = m) W W') (htag : L.tag m = .oth) (hnew : w0.heap.size ≤ m) : LawAt w0 W' p L S :=
  ⟨h.net.keep ht fun b e => by subst e; exact htag, h.ext.trans ht fun b hb e => by subst e; omega, h.old⟩
theorem map_blk {b : Nat} {m : List (Value × Value)} (h : MapAt Try.prog 9 W b m) (t : TypeId) (cs : Array Value) : ¬ Blk W b t cs := by
  obtain ⟨es, ck, hb, _⟩ := h
  intro hc
  have hc' : W.heap[b]? = _ := hc
  rw [hb] at hc'
  cases hc'

theorem op_put {o : Oper} {a : Act} {K : Act → World → Prop} {Q : Exit → Act → World → Prop} {x y z : Operand} {m : Nat} {P : List ByteArray} {s : ByteArray} (ho : o.op = .mapUpdate 44 x y z)
    (hx : a.eval x = .map (some m)) (hy : a.eval y = .string s) (hz : a.eval z = .bool true) (h : PutAt w0 W L m P) (hs : s.size ≤ 20000)
    (hk : ∀ W', PutAt w0 W' L m (addB P s) → Touch (· = m) W W' → K (a.put o.dst undef) W') : o.wp Try.prog a W K Q := by
  unfold addB at hk
  by_cases hin : s ∈ P
  · rw [if_pos hin] at hk
    refine op_update_hit (k := .string s) (v := .bool true) ho hx hy hz Try.k9 Try.underlying44 h.map (key9 hs) (strs_in_keys hin) fun w' hm ht _ => hk w' ?_ ht
    rw [strs_again] at hm
    exact ⟨hm, h.tag, h.new⟩
  · rw [if_neg hin] at hk
    refine op_update_miss (k := .string s) (v := .bool true) ho hx hy hz Try.k9 Try.underlying44 h.map (key9 hs) (strs_out hin) fun w' hm ht _ => hk w' ?_ ht
    rw [strs_app] at hm
    exact ⟨hm, h.tag, h.new⟩
end

end Go.Proofs.Ytcipfpebjeakfaa
