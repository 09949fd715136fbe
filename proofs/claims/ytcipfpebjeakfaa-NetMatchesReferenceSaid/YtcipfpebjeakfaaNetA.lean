/-
  Contracts of package net's small functions: add, push, first.
-/
import Derived.Test.YtcipfpebjeakfaaNetAt
import Derived.WalkKit
import Derived.Lib.Hide
import Derived.Maps.Own
namespace Go.Proofs.Ytcipfpebjeakfaa
open Go Go.RowKit
open Go.Maps (Keyed)

theorem Try.ag3 : isAggB Try.prog 3 = some false := by kernel_rfl
theorem Try.ag9 : isAggB Try.prog 9 = some false := by kernel_rfl
theorem Try.ag25 : isAggB Try.prog 25 = some false := by kernel_rfl
theorem Try.ag39 : isAggB Try.prog 39 = some false := by kernel_rfl
theorem Try.ag44 : isAggB Try.prog 44 = some false := by kernel_rfl
theorem Try.ag51 : isAggB Try.prog 51 = some false := by kernel_rfl
theorem Try.ag52 : isAggB Try.prog 52 = some false := by kernel_rfl
theorem Try.ag53 : isAggB Try.prog 53 = some false := by kernel_rfl
theorem Try.ag56 : isAggB Try.prog 56 = some false := by kernel_rfl
theorem Try.ag62 : isAggB Try.prog 62 = some false := by kernel_rfl
theorem Try.ag63 : isAggB Try.prog 63 = some false := by kernel_rfl
theorem Try.ag83 : isAggB Try.prog 83 = some true := by kernel_rfl
theorem Try.ag58 : isAggB Try.prog 58 = some true := by kernel_rfl
theorem Try.sz3 : (Try.prog.info? 3).map (·.size) = some 1 := by kernel_rfl
theorem Try.sz39 : (Try.prog.info? 39).map (·.size) = some 1 := by kernel_rfl
theorem Try.sz63 : (Try.prog.info? 63).map (·.size) = some 1 := by kernel_rfl
theorem Try.sz44 : (Try.prog.info? 44).map (·.size) = some 1 := by kernel_rfl
theorem Try.sz83 : (Try.prog.info? 83).map (·.size) = some 3 := by kernel_rfl
theorem Try.sz58 : (Try.prog.info? 58).map (·.size) = some 3 := by kernel_rfl
theorem Try.in83 : (Try.prog.info? 83).map (fun i => (i.zero, i.size, i.bytes)) = some (some (.agg #[.slice none 0 0, .int .i64 0, .int .i64 0]), 3, 40) := by kernel_rfl
theorem Try.in9 : (Try.prog.info? 9).map (fun i => (i.zero, i.size, i.bytes)) = some (some (.string ⟨#[]⟩), 1, 16) := by kernel_rfl
theorem Try.in56 : (Try.prog.info? 56).map (fun i => (i.zero, i.size, i.bytes)) = some (some (.pointer none), 1, 8) := by kernel_rfl
theorem Try.z4 : (Try.prog.info? 4).bind (·.zero) = some (.bool false) := by kernel_rfl
theorem Try.k9 : Keyed Try.prog 9 := Maps.string_keyed Try.underlying9

theorem strs_in {xs : List ByteArray} {s : ByteArray} (h : s ∈ xs) : (Value.string s, Value.bool true) ∈ strs xs := List.mem_map.2 ⟨s, h, rfl⟩
theorem strs_keys (xs : List ByteArray) : (strs xs).map (·.1) = xs.map .string := by simp [strs, Function.comp]
theorem strs_out {xs : List ByteArray} {s : ByteArray} (h : s ∉ xs) : Value.string s ∉ (strs xs).map (·.1) := by
  rw [strs_keys]
  intro hm
  obtain ⟨x, hx, he⟩ := List.mem_map.1 hm
  injection he with he
  exact h (he ▸ hx)
theorem strs_app (xs : List ByteArray) (s : ByteArray) : strs xs ++ [(.string s, .bool true)] = strs (xs ++ [s]) := by simp [strs]
open Classical in
theorem strs_again (xs : List ByteArray) (s : ByteArray) : (strs xs).map (fun p => if p.1 = .string s then (.string s, .bool true) else p) = strs xs := by
  unfold strs
  rw [List.map_map]
  refine List.map_congr_left fun x _ => ?_
  simp only [Function.comp]
  split
  · rename_i h; injection h with h; rw [h]
  · rfl
theorem strs_in_keys {xs : List ByteArray} {s : ByteArray} (h : s ∈ xs) : Value.string s ∈ (strs xs).map (·.1) := by
  rw [strs_keys]; exact List.mem_map.2 ⟨s, h, rfl⟩
theorem key9 {s : ByteArray} (hs : s.size ≤ 20000) : keyOf Try.prog 9 (.string s) = some (.string s.data.toList) := WideMaps.keyOf_string_mk Try.underlying9 (by unfold maxLen; omega)

/-- What may become of a layout in a call. -/
structure LayTo (B : Nat) (w w' : World) (L L' : Lay) : Prop where
  nodes : L'.nodes = L.nodes
  queues : L'.queues = L.queues
  cut : L'.cut = L.cut
  node : L'.node = L.node
  sets : L'.sets = L.sets
  qcell : L'.qcell = L.qcell
  base : B ≤ w.heap.size
  tag : ∀ b, b < B → L.tag b = .oth → L'.tag b = .oth
  msg : ∀ b, L.tag b = .msg → L'.tag b = .msg
  touch : Touch (fun b => B ≤ b ∨ (L.tag b ≠ .oth ∧ L.tag b ≠ .msg)) w w'

theorem LayTo.refl (w : World) (L : Lay) : LayTo w.heap.size w w L L := ⟨rfl, rfl, rfl, rfl, rfl, rfl, Nat.le_refl _, fun _ _ h => h, fun _ h => h, Touch.refl _ w⟩
theorem LayTo.trans {B : Nat} {w w' w'' : World} {L L' L'' : Lay} (h : LayTo B w w' L L') (h' : LayTo B w' w'' L' L'') : LayTo B w w'' L L'' :=
  ⟨h'.nodes.trans h.nodes, h'.queues.trans h.queues, h'.cut.trans h.cut, h'.node.trans h.node, h'.sets.trans h.sets, h'.qcell.trans h.qcell, h.base,
    fun b hb ho => h'.tag b hb (h.tag b hb ho), fun b hm => h'.msg b (h.msg b hm),
    h.touch.trans h'.touch fun b _ hne => by
      rcases Nat.lt_or_ge b B with hb | hb
      · rcases hne with hne | hne
        · exact .inl hne
        · exact .inr ⟨fun ho => hne.1 (h.tag b hb ho), fun hm => hne.2 (h.msg b hm)⟩
      · exact .inl hb⟩
theorem LayTo.less {B B' : Nat} {w w' : World} {L L' : Lay} (h : LayTo B w w' L L') (hB : B' ≤ B) : LayTo B' w w' L L' :=
  ⟨h.nodes, h.queues, h.cut, h.node, h.sets, h.qcell, Nat.le_trans hB h.base, fun b hb => h.tag b (Nat.lt_of_lt_of_le hb hB), h.msg, h.touch.mono fun _b _ hb => hb.imp (fun h => Nat.le_trans hB h) id⟩
theorem LayTo.ext {B : Nat} {w w' w'' : World} {L L' : Lay} (h : LayTo B w w' L L') (he : Ext w' w'') : LayTo B w w'' L L' :=
  ⟨h.nodes, h.queues, h.cut, h.node, h.sets, h.qcell, h.base, h.tag, h.msg, h.touch.then_ext he⟩
theorem LayTo.after {B : Nat} {w w' w'' : World} {L L' : Lay} (he : Ext w w') (h : LayTo B w' w'' L L') (hB : B ≤ w.heap.size) : LayTo B w w'' L L' :=
  ⟨h.nodes, h.queues, h.cut, h.node, h.sets, h.qcell, hB, h.tag, h.msg, (Touch.of_ext he).trans h.touch fun _ _ h => h⟩

instance instDecBytes : DecidableEq ByteArray := fun a b => decidable_of_iff (a.data = b.data) ⟨fun h => by cases a; cases b; simpa using h, fun h => by rw [h]⟩

instance instDecMemBytes (s : ByteArray) : (l : List ByteArray) → Decidable (s ∈ l)
  | [] => .isFalse (by simp)
  | x :: l =>
    if h : s = x then .isTrue (by simp [h])
    else match instDecMemBytes s l with
      | .isTrue h' => .isTrue (by simp [h'])
      | .isFalse h' => .isFalse (by simp [h, h'])

def NetS.add (S : NetS) (i : Nat) (s : ByteArray) : NetS :=
  if s ∈ S.sets (.has i) then S else { S with sets := updS S.sets (.has i) (S.sets (.has i) ++ [s]), texts := upd S.texts i (S.texts i ++ [s]) }

def AddPost (B : Nat) (w : World) (p : Nat) (L : Lay) (S : NetS) (w' : World) : Prop := ∃ L', NetAt w' p L' S ∧ LayTo B w w' L L'

theorem news_one (w : World) (s : Value) {E : TypeId} {j : Nat} {u : Value} (hu : [s][j]? = some u) : (w.alloc (.cells #[s] E)).cell? ((⟨w.heap.size, 0, none⟩ : Addr).add j) = some u := by
  have hj : j = 0 := by
    rcases j with _ | j
    · rfl
    · simp at hu
  subst hj
  simp only [List.getElem?_cons_zero] at hu
  exact (show Blk (w.alloc (.cells #[s] E)) w.heap.size E #[s] from obj_new w _).cell (i := 0) hu
theorem row_one {w : World} {E : TypeId} {size : Nat} {v : Value} {xs : List Value} (h : Row w E size v xs) : v.oneCell' = true := by
  obtain ⟨ad, n, c, rfl, _⟩ := h; rfl

attribute [local irreducible] World.cell? World.frozen? isAggB _root_.Go.Program.underlying

set_option maxRecDepth 100000 in
set_option maxHeartbeats 1000000 in
theorem add_contract {w : World} {p : Nat} {L : Lay} {S : NetS} {i : Nat} {s : ByteArray} (h : NetAt w p L S) (hi : i < S.n) (hs : s.size ≤ 20000) (hl : (S.texts i).length ≤ 1000) :
    Calls Try.prog 32 #[ptr (L.node i), .string s] w fun e w' => e = .returned (.tuple #[]) ∧ AddPost w.heap.size w p L (S.add i s) w' := by
  obtain ⟨c, hc, hn⟩ := h.node i hi
  have f0 := Lib.hid (hc.cell hn.2.1)
  have f1 := Lib.hid (hc.cell hn.2.2.1)
  have hn' := Lib.hid hn
  have hc' := Lib.hid hc
  clear hn hc
  have hm := h.sets (.has i) hi
  by_cases hin : s ∈ S.sets (.has i)
  · have hin' := Lib.hid hin
    clear hin
    unfold ptr
    go_enter Try.func32, Try.ntmps32
    go_wp2_with (first | ((with_reducible change wpList _ _ _ (Oper.mk _ (Op.load _ _) _ _ _ _ :: _) _ _); refine BigFrame.wpList_want rfl (fun K hK => ?_); refine op_load1 rfl rfl Try.ag44 f1.out ?_; refine hK _ _ ?_; clear hK K) | ((with_reducible change wpList _ _ _ (Oper.mk _ (Op.lookup _ _ _ _) _ _ _ _ :: _) _ _); refine BigFrame.wpList_want rfl (fun K hK => ?_); refine op_lookup_hit rfl rfl rfl Try.k9 Try.underlying44 hm (key9 hs) (strs_in hin'.out) ?_; refine hK _ _ ?_; clear hK K))
    go_end0
    refine ⟨rfl, ?_⟩
    unfold NetS.add
    rw [if_pos hin'.out]
    exact ⟨L, h, LayTo.refl w L⟩
  · have hin' := Lib.hid hin
    clear hin
    obtain ⟨i0, hi0, hz0, hz1', hz2⟩ := info_parts Try.in9
    unfold ptr
    go_enter Try.func32, Try.ntmps32
    have hne : ¬ (L.node i = L.sets (.has i)) := fun e => by have := h.tnode i hi; rw [e, h.tset (.has i) hi] at this; cases this
    have hnt : ∀ b, rowBlock (L.tv i) = some b → b ≠ L.sets (.has i) ∧ b ≠ L.node i := fun b hb =>
      ⟨(fun e => by have := h.ttexts i hi b hb; rw [e, h.tset (.has i) hi] at this; cases this), (fun e => by have := h.ttexts i hi b hb; rw [e, h.tnode i hi] at this; cases this)⟩
    have hbnd := Lib.hid (show (((S.texts i).map Value.string).length + [Value.string s].length) * 16 ≤ 140737488355328 ∧ ((S.texts i).map Value.string).length + [Value.string s].length ≤ maxLen from by
      unfold maxLen
      simp only [List.length_map, List.length_cons, List.length_nil]
      omega)
    have hn0 := Lib.hid (show 0 < c.size from by rw [hn'.out.1]; omega)
    have one1 : ∀ u ∈ [Value.string s], u.oneCell' = true := by simp [Value.oneCell']
    have hnt' := Lib.hid hnt
    clear hnt
    go_wp2_with (first
      | ((with_reducible change wpList _ _ _ (Oper.mk _ (Op.load _ _) _ _ _ _ :: _) _ _); refine BigFrame.wpList_want rfl (fun K hK => ?_); refine op_load1 rfl rfl Try.ag44 f1.out ?_; refine hK _ _ ?_; clear hK K)
      | ((with_reducible change wpList _ _ _ (Oper.mk _ (Op.lookup _ _ _ _) _ _ _ _ :: _) _ _); refine BigFrame.wpList_want rfl (fun K hK => ?_); refine op_lookup_miss rfl rfl rfl Try.k9 Try.underlying44 hm Try.z4 (key9 hs) (strs_out hin'.out) ?_; refine hK _ _ ?_; clear hK K)
      | ((with_reducible change wpList _ _ _ (Oper.mk _ (Op.mapUpdate _ _ _ _) _ _ _ _ :: _) _ _); refine BigFrame.wpList_want rfl (fun K hK => ?_); refine op_update_miss rfl rfl rfl rfl Try.k9 Try.underlying44 hm (key9 hs) (strs_out hin'.out) ?_; intro w1 hm1 ht1 hz1; refine hK _ _ ?_; clear hK K)
      | ((with_reducible change wpList _ _ _ (Oper.mk _ (Op.load _ _) _ _ _ _ :: _) _ _); refine BigFrame.wpList_want rfl (fun K hK => ?_); refine op_load1 rfl rfl Try.ag39 (ht1.cell f0.out hne) ?_; refine hK _ _ ?_; clear hK K)
      | ((with_reducible change wpList _ _ _ (Oper.mk _ (Op.call (Call.mk (Callee.builtin Builtin.append) _ _)) _ _ _ _ :: _) _ _); refine BigFrame.wpList_want rfl (fun K hK => ?_); refine op_append (v := L.tv i) (sv := .slice (some ⟨w1.heap.size, 0, none⟩) 1 1) (news := [.string s]) rfl rfl rfl Try.underlying39 hi0 hz0 hz1' hz2 rfl (by omega)
          (((h.texts i hi).keep ht1 (fun b hb => (hnt'.out b hb).1)).keep (Ext.alloc w1 _) (fun _ _ h => h)) rfl rfl (fun ad had j u hu => by injection had with had; subst had; exact news_one w1 _ hu) (fun h => by cases h) one1 hbnd.out.1 hbnd.out.2 ?_; intro v2 w2 hr2 ht2 hs2; refine hK _ _ ?_; clear hK K)
      | ((with_reducible change wpList _ _ _ (Oper.mk _ (Op.store _ _ _) _ _ _ _ :: _) _ _); refine BigFrame.wpList_want rfl (fun K hK => ?_); refine op_store1 (g := L.node i) (i := 0) (T := 61) (cs := c) rfl rfl rfl Try.sz39 (row_one hr2) (ht2.obj ((Ext.alloc w1 _).obj (ht1.obj hc'.out hne) (fun h => h)) (fun e => (hnt'.out _ e).2 rfl)) hn0.out ?_; intro w3 hb3 ht3 hz3; refine hK _ _ ?_; clear hK K))
    go_end0
    refine ⟨rfl, ?_⟩
    have hna := h.setSet (s := .has i) hi (S.sets (.has i) ++ [s]) ht1 (by rw [← strs_app]; exact hm1)
    have hnb := hna.alloc (.cells #[Value.string s] 9)
    have hcb : Blk (w1.alloc (.cells #[Value.string s] 9)) (L.node i) 61 c := (Ext.alloc w1 _).obj (ht1.obj hc'.out hne) (fun h => h)
    have hsz2 := ht2.size
    have hsz3 := ht3.size
    have hnew : ∀ b, rowBlock v2 = some b → b ≠ L.node i := by
      intro b hb e
      rcases hs2 with ⟨h1, _⟩ | ⟨h1, _⟩
      · exact (hnt'.out b (by rw [← h1]; exact hb)).2 e
      · rw [h1] at hb
        injection hb with hb
        have := obj_lt hcb
        omega
    have hr3 : Row w3 9 1 v2 ((S.texts i ++ [s]).map .string) := by
      rw [List.map_append]
      exact hr2.keep ht3 fun b hb => hnew b hb
    have hv : rowBlock v2 = rowBlock (L.tv i) ∨ ∃ g, rowBlock v2 = some g ∧ (w1.alloc (.cells #[Value.string s] 9)).heap.size ≤ g ∧ g < w3.heap.size := by
      rcases hs2 with ⟨h1, _⟩ | ⟨h1, h2, _⟩
      · exact .inl h1
      · exact .inr ⟨_, h1, Nat.le_refl _, by omega⟩
    have htt : Touch (fun b => b = L.node i ∨ rowBlock (L.tv i) = some b) (w1.alloc (.cells #[Value.string s] 9)) w3 :=
      (ht2.mono (G := fun b => b = L.node i ∨ rowBlock (L.tv i) = some b) fun _ _ h => .inr h).trans ht3 fun _ _ e => .inl e
    have hnc := hnb.setTexts (i := i) hi (S.texts i ++ [s]) hcb hn'.out htt hb3 hr3 hv
    have hsz1 := ht1.size
    unfold NetS.add
    rw [if_neg hin'.out]
    refine ⟨_, hnc, ⟨rfl, rfl, rfl, rfl, rfl, rfl, Nat.le_refl _, fun b hb ho => ?_, fun b hm => ?_, ?_⟩⟩
    · show (if rowBlock v2 = some b then Tag.texts i else L.tag b) = .oth
      rw [if_neg, ho]
      intro e
      rcases hv with h1 | ⟨g, hg, hg1, hg2⟩
      · have := h.ttexts i hi b (by rw [← h1]; exact e)
        rw [ho] at this; cases this
      · rw [hg] at e
        injection e with e
        subst e
        simp at hg1
        omega
    · show (if rowBlock v2 = some b then Tag.texts i else L.tag b) = .msg
      rw [if_neg, hm]
      intro e
      rcases hv with h1 | ⟨g, hg, hg1, hg2⟩
      · have := h.ttexts i hi b (by rw [← h1]; exact e)
        rw [hm] at this; cases this
      · rw [hg] at e
        injection e with e
        subst e
        have := h.fresh g (by simp at hg1; omega)
        rw [hm] at this; cases this
    · refine (((ht1.mono (G := fun b => w.heap.size ≤ b ∨ (L.tag b ≠ .oth ∧ L.tag b ≠ .msg)) fun b _ e => .inr ?_).alloc _).trans htt fun b _ e => .inr ?_)
      · subst e; rw [h.tset (.has i) hi]; simp
      · rcases e with rfl | e
        · rw [h.tnode i hi]; simp
        · rw [h.ttexts i hi b e]; simp
end Go.Proofs.Ytcipfpebjeakfaa
