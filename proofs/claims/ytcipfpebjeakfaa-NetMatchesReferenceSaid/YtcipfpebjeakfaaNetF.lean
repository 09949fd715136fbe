/-
  Contracts: Has, Lacks.
-/
import Derived.Test.YtcipfpebjeakfaaNetE
namespace Go.Proofs.Ytcipfpebjeakfaa
open Go Go.RowKit
open Go.Maps (Keyed)

attribute [local irreducible] World.cell? World.frozen? isAggB _root_.Go.Program.underlying

theorem Row.new (w : World) (E : TypeId) (cs : List Value) (_h0 : cs ≠ []) (h : cs.length ≤ 1000) : Row (w.alloc (.cells cs.toArray E)) E 1 (.slice (some ⟨w.heap.size, 0, none⟩) cs.length cs.length) cs := by
  have hb : Blk (w.alloc (.cells cs.toArray E)) w.heap.size E cs.toArray := obj_new w _
  exact ⟨_, _, _, rfl, by simp, Nat.le_refl _, by unfold maxLen; omega, (fun e => by cases e), fun _ => ⟨_, 0, _, rfl, hb, by simp, fun j u hu => by simpa using hu⟩⟩
theorem NetAt.ext {w w' : World} {p : Nat} {L : Lay} {S : NetS} (h : NetAt w p L S) (hE : Ext w w') : NetAt w' p L S := h.keep hE fun _ h => h.elim

theorem there1_iff (n i : Nat) : thereB n [(i : Int)] = decide (i < n) := by
  by_cases h1 : i < n
  · have : ¬ n ≤ i := by omega
    simp [thereB, notIn, h1, this]
  · have : n ≤ i := by omega
    simp [thereB, notIn, h1, this]
theorem there2_iff (n i j : Nat) : thereB n [(i : Int), (j : Int)] = (decide (i < n) && decide (j < n)) := by
  by_cases h1 : i < n <;> by_cases h2 : j < n
  · have a : ¬ n ≤ i := by omega
    have b : ¬ n ≤ j := by omega
    simp [thereB, notIn, h1, h2, a, b]
  · have a : n ≤ j := by omega
    simp [thereB, notIn, h1, h2, a]
  · have a : n ≤ i := by omega
    simp [thereB, notIn, h1, h2, a]
  · have a : n ≤ i := by omega
    simp [thereB, notIn, h1, h2, a]

theorem nodup_length {α : Type} : ∀ (xs ys : List α), xs.Nodup → (∀ x ∈ xs, x ∈ ys) → xs.length ≤ ys.length
  | [], _, _, _ => Nat.zero_le _
  | x :: xs, ys, hn, hs => by
    obtain ⟨l1, l2, rfl⟩ := List.append_of_mem (hs x (by simp))
    have hn' := List.nodup_cons.1 hn
    have := nodup_length xs (l1 ++ l2) hn'.2 fun y hy => by
      have := hs y (by simp [hy])
      simp only [List.mem_append, List.mem_cons] at this ⊢
      rcases this with h | rfl | h
      · exact .inl h
      · exact absurd hy hn'.1
      · exact .inr h
    simp only [List.length_append, List.length_cons] at this ⊢
    omega
theorem Wf.textsLen {S : NetS} (wf : Wf S) {i : Nat} (hi : i < S.n) : (S.texts i).length ≤ 1000 :=
  Nat.le_trans (nodup_length _ _ (wf.textsN i hi) (wf.texts i hi)) wf.all

def NetS.hasL (S : NetS) (i : Nat) : List ByteArray := if i < S.n then S.texts i else []
def NetS.lacks (S : NetS) (a b : Nat) : List ByteArray :=
  if a < S.n ∧ b < S.n ∧ a ≠ b then kept (fun s => inB s (S.sets (.got a b))) ((S.texts a).drop (min (S.known a b) (S.texts a).length)) else []

/-- A list of texts comes back in memory of its own; nothing else has turned. -/
def ListPost (w : World) (xs : List ByteArray) (e : Ending) (w' : World) : Prop :=
  ∃ v', e = .returned v' ∧ Row w' 9 1 v' (xs.map .string) ∧ Ext w w' ∧ ∀ b, rowBlock v' = some b → w.heap.size ≤ b

theorem node_at (L : Lay) {n i : Nat} (h : i < n) : ((List.range n).map fun i => ptr (L.node i))[i * 1 + 0]? = some (ptr (L.node i)) := by simp [h]

set_option maxRecDepth 100000 in
set_option maxHeartbeats 1000000 in
theorem has_contract {w : World} {p : Nat} {L : Lay} {S : NetS} (h : NetAt w p L S) (i : Nat) (hl : ∀ i, i < S.n → (S.texts i).length ≤ 1000) (_hi6 : i ≤ 1000) :
    Calls Try.prog 22 #[ptr p, .int .i64 i] w fun e w' => ListPost w (S.hasL i) e w' := by
  have hth := Lib.hid (there_contract (h.alloc (.cells #[.int .i64 i] 3)) [(i : Int)] (.slice (some ⟨w.heap.size, 0, none⟩) 1 1) (by simp) (Row.new w 3 [.int .i64 i] (by simp) (by simp)))
  rw [there1_iff] at hth
  by_cases hi : i < S.n
  · rw [decide_eq_true hi] at hth
    have hi' := Lib.hid hi
    obtain ⟨c, hc, hn⟩ := h.node i hi
    have f1 := Lib.hid (hc.cell hn.2.1)
    have f0 := Lib.hid (show w.cell? ⟨p, 0, none⟩ = some L.nodes from h.net.cell (i := 0) rfl)
    have hlen := Lib.hid (show (i + 1) * 1 ≤ ((List.range S.n).map fun i => ptr (L.node i)).length from by simp; omega)
    have hrow := h.texts i hi
    have hcl := fun w1 (hE : Ext w w1) => clone_contract (w := w1) (v := L.tv i) (hrow.keep hE fun _ _ h => h) (Nat.le_trans (hl i hi) (by omega))
    have hcl' := Lib.hid hcl
    have hel0 := Lib.hid (node_at L hi)
    clear hn hc hi hrow hcl hl
    unfold ptr at hth hel0 ⊢
    go_enter Try.func22, Try.ntmps22
    go_wp2_with (first
      | (go_at_call 31; refine hth.out.mono ?_; rintro _ w1 ⟨rfl, hE1⟩; have hE := (Ext.alloc w (.cells #[.int .i64 i] 3)).then_ext hE1; have h1 := h.ext hE)
      | ((with_reducible change wpList _ _ _ (Oper.mk _ (Op.load _ _) _ _ _ _ :: _) _ _); refine BigFrame.wpList_want rfl (fun K hK => ?_); refine op_load1 rfl rfl Try.ag53 (hE.cell f0.out (fun h => h)) ?_; refine hK _ _ ?_; clear hK K)
      | ((with_reducible change wpList _ _ _ (Oper.mk _ (Op.indexAddr _ _ _) _ _ _ _ :: _) _ _); refine BigFrame.wpList_want rfl (fun K hK => ?_); refine op_index_row (i := i) rfl rfl rfl Try.underlying53 Try.szE56 h1.nodes hlen.out (by omega) ?_; intro g k cs hel; refine hK _ _ ?_; clear hK K)
      | ((with_reducible change wpList _ _ _ (Oper.mk _ (Op.load _ _) _ _ _ _ :: _) _ _); refine BigFrame.wpList_want rfl (fun K hK => ?_); refine op_load1 rfl rfl Try.ag56 (hel.cell (j := 0) (by omega) hel0.out) ?_; refine hK _ _ ?_; clear hK K)
      | ((with_reducible change wpList _ _ _ (Oper.mk _ (Op.load _ _) _ _ _ _ :: _) _ _); refine BigFrame.wpList_want rfl (fun K hK => ?_); refine op_load1 rfl rfl Try.ag39 (hE.cell f1.out (fun h => h)) ?_; refine hK _ _ ?_; clear hK K)
      | (go_at_call 38; refine (hcl'.out w1 hE).mono ?_; rintro _ w2 ⟨v', rfl, hr', hE2, hfr⟩))
    go_ret
    refine ⟨v', rfl, ?_, hE.then_ext hE2, fun b hb => Nat.le_trans hE.size (hfr b hb)⟩
    unfold NetS.hasL
    rw [if_pos hi'.out]
    exact hr'
  · rw [decide_eq_false hi] at hth
    have hi' := Lib.hid hi
    clear hi
    unfold ptr at hth ⊢
    go_enter Try.func22, Try.ntmps22
    go_wp2_with (first
      | (go_at_call 31; refine hth.out.mono ?_; rintro _ w1 ⟨rfl, hE1⟩))
    go_ret
    refine ⟨_, rfl, ?_, (Ext.alloc w _).then_ext hE1, fun b hb => by simp [rowBlock] at hb⟩
    unfold NetS.hasL
    rw [if_neg hi'.out]
    exact Row.nil _ _ _

theorem peer_cells {L : Lay} {S : NetS} {i j : Nat} {c : Array Value} (hn : NodeCells L S i c) (hj : j < S.n) {w : World} (hc : Blk w (L.node i) 61 c) :
    ∀ k v, [Value.int .i64 (S.heard i j), .int .i64 (S.known i j), .map (some (L.sets (.got i j)))][k]? = some v → w.cell? ((⟨L.node i, 2 + j * 3, none⟩ : Addr).add k) = some v := by
  intro k v hv
  obtain ⟨h1, h2, h3⟩ := hn.2.2.2 j hj
  have hadd : (⟨L.node i, 2 + j * 3, none⟩ : Addr).add k = ⟨L.node i, 2 + j * 3 + k, none⟩ := by unfold Addr.add; split <;> simp_all
  rw [hadd]
  refine hc.cell ?_
  rcases k with _ | _ | _ | k
  · simp at hv; subst hv; simpa using h1
  · simp at hv; subst hv; simpa using h2
  · simp at hv; subst hv; simpa using h3
  · simp at hv

set_option maxRecDepth 100000 in
set_option maxHeartbeats 1000000 in
theorem lacks_contract {w : World} {p : Nat} {L : Lay} {S : NetS} (h : NetAt w p L S) (wf : Wf S) (a b : Nat) (ha6 : a ≤ 1000) (hb6 : b ≤ 1000) :
    Calls Try.prog 24 #[ptr p, .int .i64 a, .int .i64 b] w fun e w' => ListPost w (S.lacks a b) e w' := by
  have hth := Lib.hid (there_contract (h.alloc (.cells #[.int .i64 a, .int .i64 b] 3)) [(a : Int), (b : Int)] (.slice (some ⟨w.heap.size, 0, none⟩) 2 2) (by simp) (Row.new w 3 [.int .i64 a, .int .i64 b] (by simp) (by simp)))
  rw [there2_iff] at hth
  by_cases hok : a < S.n ∧ b < S.n ∧ a ≠ b
  · obtain ⟨ha, hb, hne⟩ := hok
    rw [decide_eq_true ha, decide_eq_true hb] at hth
    have hne' : ((a : Int) == (b : Int)) = false := by simp; omega
    have hb8 : (b : Int) < 8 := by have := wf.n8; omega
    obtain ⟨c, hc, hn⟩ := h.node a ha
    have f1 := Lib.hid (hc.cell hn.2.1)
    have f0 := Lib.hid (show w.cell? ⟨p, 0, none⟩ = some L.nodes from h.net.cell (i := 0) rfl)
    have fp := Lib.hid (peer_cells hn hb hc)
    have hlen := Lib.hid (show (a + 1) * 1 ≤ ((List.range S.n).map fun i => ptr (L.node i)).length from by simp; omega)
    have hel0 := Lib.hid (node_at L ha)
    have ha' := Lib.hid ha
    have hb' := Lib.hid hb
    have hkn := wf.known a b ha hb
    have htl : (S.texts a).length ≤ 1000 := wf.textsLen ha
    have hne'' := Lib.hid hne
    clear hn hc ha hb hne
    unfold ptr at hth hel0 ⊢
    go_enter Try.func24, Try.ntmps24
    go_wp2_with (first
      | (go_at_call 31; refine hth.out.mono ?_; rintro _ w1 ⟨rfl, hE1⟩; have hE := (Ext.alloc w (.cells #[.int .i64 a, .int .i64 b] 3)).then_ext hE1; have h1 := h.ext hE)
      | ((with_reducible change wpList _ _ _ (Oper.mk _ (Op.load _ _) _ _ _ _ :: _) _ _); refine BigFrame.wpList_want rfl (fun K hK => ?_); refine op_load1 rfl rfl Try.ag53 (hE.cell f0.out (fun h => h)) ?_; refine hK _ _ ?_; clear hK K)
      | ((with_reducible change wpList _ _ _ (Oper.mk _ (Op.indexAddr _ _ _) _ _ _ _ :: _) _ _); refine BigFrame.wpList_want rfl (fun K hK => ?_); refine op_index_row (i := a) rfl rfl rfl Try.underlying53 Try.szE56 h1.nodes hlen.out (by omega) ?_; intro g k cs hel; refine hK _ _ ?_; clear hK K)
      | ((with_reducible change wpList _ _ _ (Oper.mk _ (Op.load _ _) _ _ _ _ :: _) _ _); refine BigFrame.wpList_want rfl (fun K hK => ?_); refine op_load1 rfl rfl Try.ag56 (hel.cell (j := 0) (by omega) hel0.out) ?_; refine hK _ _ ?_; clear hK K)
      | ((with_reducible change wpList _ _ _ (Oper.mk _ (Op.load _ _) _ _ _ _ :: _) _ _); refine BigFrame.wpList_want rfl (fun K hK => ?_); refine op_loadN (p := ⟨L.node a, 2 + b * 3, none⟩) (vs := [.int .i64 (S.heard a b), .int .i64 (S.known a b), .map (some (L.sets (.got a b)))]) rfl rfl Try.ag58 Try.sz58 (fun k v hv => hE.cell (fp.out k v hv) (fun h => h)) ?_; refine hK _ _ ?_; clear hK K))
    have fp2 := Lib.hid (blk_cells (vs := [.int .i64 (S.heard a b), .int .i64 (S.known a b), .map (some (L.sets (.got a b)))]) (obj_new w1 (.cells #[.int .i64 (S.heard a b), .int .i64 (S.known a b), .map (some (L.sets (.got a b)))] 58)))
    have hrow := (((h1.texts a ha'.out).alloc (.cells #[.int .i64 (S.heard a b), .int .i64 (S.known a b), .map (some (L.sets (.got a b)))] 58))).drew
    have hll := Lib.hid (show ((S.texts a).map Value.string).length = (S.texts a).length * 1 from by simp)
    refine wp_region_rt (by kernel_rfl) [0, 1, 3, 7, 0, 16, 0, 64, 192, 448, 960, 2032, 4095, 8191, 16383] (.rd 0 (.rd 1 (.rd 2 (.rd 3 (.rd 4 (.rd 5 (.rd 6 (.rd 7 (.rd 8 (.rd 9 (.rd 10 (.rd 11 (.rd 12 (.e1 13 [] (.rd 14 (.nil)))))))))))))))) (by kernel_rfl) ?_
    iterate 3 (refine cw_rd rfl rfl rfl rfl rfl (fun K hK => ?_); go_wp2_with fail)
    (refine cw_rd rfl rfl rfl rfl rfl (fun K hK => ?_); refine op_load1 rfl rfl Try.ag39 (cell_drew (cell_alloc (hE.cell f1.out (fun h => h)) _)) ?_; refine hK _ ?_; clear hK K)
    iterate 1 (refine cw_rd rfl rfl rfl rfl rfl (fun K hK => ?_); go_wp2_with fail)
    (refine cw_rd rfl rfl rfl rfl rfl (fun K hK => ?_); refine op_load1 rfl rfl Try.ag3 (cell_drew (fp2.out 1 _ rfl)) ?_; refine hK _ ?_; clear hK K)
    iterate 3 (refine cw_rd rfl rfl rfl rfl rfl (fun K hK => ?_); go_wp2_with fail)
    (refine cw_rd rfl rfl rfl rfl rfl (fun K hK => ?_); refine op_load1 rfl rfl Try.ag39 (cell_drew (cell_alloc (hE.cell f1.out (fun h => h)) _)) ?_; refine hK _ ?_; clear hK K)
    (refine cw_rd rfl rfl rfl rfl rfl (fun K hK => ?_); refine op_len_row rfl rfl Try.underlying39 hrow (by omega) hll.out ?_; refine hK _ ?_; clear hK K)
    iterate 1 (refine cw_rd rfl rfl rfl rfl rfl (fun K hK => ?_); go_wp2_with fail)
    all_goals
      (refine cw_rd rfl rfl rfl rfl rfl (fun K hK => ?_); refine op_slice_row rfl rfl rfl Try.underlying39 Try.szE9 hrow (by rw [hll.out]; omega) (by omega) ?_; intro v2 hv2 hb2; refine hK _ ?_; clear hK K)
      rw [Nat.mul_one, ← List.map_drop] at hv2
      have hcl := Lib.hid (clone_contract hv2 (by rw [List.length_drop]; omega))
      refine cw_e1 rfl rfl (fun K hK => ?_)
      go_wp2_with (first
        | (go_at_call 38; refine hcl.out.mono ?_; rintro _ w2 ⟨v3, rfl, hr3, hE3, hf3⟩))
      refine ⟨fl_none, ?_⟩
      iterate 1 (refine cw_rd rfl rfl rfl rfl rfl (fun K hK => ?_); go_wp2_with fail)
      refine cw_nil ?_
      have hE2 : Ext w1 w2 := (((Ext.alloc w1 _).drew).then_ext hE3)
      have hnew : ∀ b', rowBlock v3 = some b' → w1.heap.size < b' := fun b' hb => by have := hf3 b' hb; simp at this; omega
      have hdel := Lib.hid (delete_contract (fun s => inB s (S.sets (.got a b))) _ v3 (ptr w1.heap.size) 40 w2 hr3 (by rw [List.length_drop]; omega) run_fn40 (fun W hW x hx =>
        lacks1_contract (g := L.sets (.got a b)) (hW.cell (hE3.cell (cell_drew (fp2.out 2 _ rfl)) (fun h => h)) (fun e => by have := hnew _ e; simp at this))
          (((h1.sets (.got a b) ⟨ha'.out, hb'.out⟩).keep hE2 (fun h => h)).keep hW (fun e => by have := hnew _ e; have := h1.ltag (b := L.sets (.got a b)) (by rw [h1.tset (.got a b) ⟨ha'.out, hb'.out⟩]; simp); omega))
          (wf.size _ (wf.texts a ha'.out _ (List.mem_of_mem_drop hx)))))
      have hnew' := Lib.hid hnew
      clear hnew
      go_wp2_with (first
        | (go_at_call 39; refine hdel.out.mono ?_; rintro _ w3 ⟨v4, rfl, hr4, hb4, ht4⟩))
      go_ret
      have hEw : Ext w w2 := hE.then_ext hE2
      have hsz := hE.size
      refine ⟨v4, rfl, ?_, (hEw.trans ht4 fun b' hb' e => by have := hnew'.out b' e; omega), fun b' e => by rw [hb4] at e; have := hnew'.out b' e; omega⟩
      unfold NetS.lacks
      rw [if_pos ⟨ha'.out, hb'.out, hne''.out⟩]
      rw [Nat.min_def]
      first | rw [if_pos (by omega)] | rw [if_neg (by omega)]
      exact hr4
  · have hok' := Lib.hid hok
    have hl : S.lacks a b = [] := by unfold NetS.lacks; rw [if_neg hok'.out]
    rw [hl]
    by_cases hab : a < S.n ∧ b < S.n
    · have heq : ((a : Int) == (b : Int)) = true := by
        have : a = b := by
          rcases Nat.decEq a b with h | h
          · exact absurd ⟨hab.1, hab.2, h⟩ hok
          · exact h
        simp [this]
      rw [decide_eq_true hab.1, decide_eq_true hab.2] at hth
      clear hok hl hab
      unfold ptr at hth ⊢
      go_enter Try.func24, Try.ntmps24
      go_wp2_with (first
        | (go_at_call 31; refine hth.out.mono ?_; rintro _ w1 ⟨rfl, hE1⟩))
      go_ret
      exact ⟨_, rfl, Row.nil _ _ _, (Ext.alloc w _).then_ext hE1, fun b hb => by simp [rowBlock] at hb⟩
    · have hf : (decide (a < S.n) && decide (b < S.n)) = false := by
        by_cases h1 : a < S.n <;> by_cases h2 : b < S.n <;> simp_all
      rw [hf] at hth
      clear hok hl hab hf
      unfold ptr at hth ⊢
      go_enter Try.func24, Try.ntmps24
      go_wp2_with (first
        | (go_at_call 31; refine hth.out.mono ?_; rintro _ w1 ⟨rfl, hE1⟩))
      go_ret
      exact ⟨_, rfl, Row.nil _ _ _, (Ext.alloc w _).then_ext hE1, fun b hb => by simp [rowBlock] at hb⟩
end Go.Proofs.Ytcipfpebjeakfaa
