/-
  Contracts of package net's queue: push, first.
-/
import Derived.Test.YtcipfpebjeakfaaNetA
import Derived.Test.YtcipfpebjeakfaaRowsAt
namespace Go.Proofs.Ytcipfpebjeakfaa
open Go Go.RowKit
open Go.Maps (Keyed)

attribute [local irreducible] World.cell? World.frozen? isAggB _root_.Go.Program.underlying

theorem msgCells_length : ∀ (vs : List Value) (ms : List Msg), vs.length = ms.length → (msgCells vs ms).length = ms.length * 3
  | [], [], _ => rfl
  | v :: vs, m :: ms, h => by
    simp only [msgCells, List.length_cons] at h ⊢
    rw [msgCells_length vs ms (by omega)]
    omega

theorem msgCells_app : ∀ (vs : List Value) (ms : List Msg) (v : Value) (m : Msg), vs.length = ms.length →
    msgCells vs ms ++ [v, .int .i64 m.length, .int .i64 m.heard] = msgCells (vs ++ [v]) (ms ++ [m])
  | [], [], _, _, _ => rfl
  | u :: vs, k :: ms, v, m, h => by
    simp only [msgCells, List.cons_append]
    rw [msgCells_app vs ms v m (by simpa using h)]

theorem news_list {w : World} {E : TypeId} {g : Nat} {cs : Array Value} (h : Blk w g E cs) {j : Nat} {u : Value} (hu : cs.toList[j]? = some u) : w.cell? ((⟨g, 0, none⟩ : Addr).add j) = some u := by
  have hadd : (⟨g, 0, none⟩ : Addr).add j = ⟨g, j, none⟩ := by unfold Addr.add; split <;> simp_all
  rw [hadd]
  exact h.cell (by simpa using hu)

def NetS.push (S : NetS) (i j : Nat) (m : Msg) : NetS := { S with queues := upd2 S.queues i j (S.queues i j ++ [m]) }

set_option maxRecDepth 100000 in
set_option maxHeartbeats 1000000 in
theorem push_contract {B : Nat} {w : World} {p : Nat} {L : Lay} {S : NetS} {i j : Nat} {m : Msg} {mv : Value} (h : NetAt w p L S) (hi : i < S.n) (hj : j < S.n)
    (hm : Row w 9 1 mv (m.texts.map .string)) (hmt : ∀ b, rowBlock mv = some b → L.tag b = .oth ∧ B ≤ b) (hB : B ≤ w.heap.size) (hl : (S.queues i j).length ≤ 100) :
    Calls Try.prog 35 #[ptr (L.qcell i j), .agg #[mv, .int .i64 m.length, .int .i64 m.heard]] w fun e w' => e = .returned (.tuple #[]) ∧ AddPost B w p L (S.push i j m) w' := by
  obtain ⟨i0, hi0, hz0, hz1, hz2⟩ := info_parts Try.in83
  have hq := Lib.hid (h.qcell i j hi hj)
  have f0 := Lib.hid (show w.cell? ⟨L.qcell i j, 0, none⟩ = some (L.qv i j) from (h.qcell i j hi hj).cell (i := 0) rfl)
  have hrow := h.qrow i j hi hj
  have hml := Lib.hid (h.mlen i j hi hj)
  have one3 : ∀ u ∈ [mv, .int .i64 m.length, .int .i64 m.heard], u.oneCell' = true := by
    intro u hu
    simp only [List.mem_cons, List.mem_nil_iff, or_false] at hu
    rcases hu with rfl | rfl | rfl
    · exact row_one hm
    · rfl
    · rfl
  have hbnd := Lib.hid (show ((msgCells (L.mv i j) (S.queues i j)).length + [mv, .int .i64 m.length, .int .i64 m.heard].length) * 40 ≤ 140737488355328 ∧ (msgCells (L.mv i j) (S.queues i j)).length + [mv, .int .i64 m.length, .int .i64 m.heard].length ≤ maxLen from by
      unfold maxLen
      rw [msgCells_length _ _ hml.out]
      simp only [List.length_cons, List.length_nil]
      omega)
  have hnt' := Lib.hid (show ∀ b, rowBlock (L.qv i j) = some b → b ≠ L.qcell i j from fun b hb e => by
    have := h.tqrow i j hi hj b hb; rw [e, h.tqcell i j hi hj] at this; cases this)
  have lq := obj_lt hq.out
  unfold ptr
  go_enter Try.func35, Try.ntmps35
  go_wp2_with fail
  refine wp_region_rt (by kernel_rfl) [0, 0, 2, 6, 14, 0, 32, 126, 255, 511, 1023] (.rd 0 (.rd 1 (.rd 2 (.rd 3 (.rd 4 (.rd 5 (.e1 6 [2, 3, 4] (.e1 7 [] (.rd 8 (.rd 9 (.e1 10 [] (.nil)))))))))))) (by kernel_rfl) ?_
  iterate 4 (refine cw_rd rfl rfl rfl rfl rfl (fun K hK => ?_); go_wp2_with fail)
  (refine cw_rd rfl rfl rfl rfl rfl (fun K hK => ?_); refine op_load1 rfl rfl Try.ag63 (cell_drew (cell_alloc f0.out _)) ?_; refine hK _ ?_; clear hK K)
  iterate 1 (refine cw_rd rfl rfl rfl rfl rfl (fun K hK => ?_); go_wp2_with fail)
  refine cw_e1 rfl rfl (fun K hK => ?_)
  go_wp2_with fail
  refine ⟨?_, ?_⟩
  · refine fl_skip rfl ?_
    refine fl_take rfl ?_ ?_
    · exact yldI_load1 rfl rfl rfl rfl Try.ag63 (cell_drew (cell_alloc (cell_alloc f0.out _) _))
    · refine fl_take rfl ?_ ?_
      · refine yldI_of rfl rfl ?_
        go_simp
      · refine fl_take rfl ?_ ?_
        · refine yldI_of rfl rfl ?_
          go_simp
        · exact fl_skip rfl (fl_skip rfl fl_nil)
  refine cw_e1 rfl rfl (fun K hK => ?_)
  refine op_append (v := L.qv i j) (sv := .slice (some ⟨w.heap.size + 1, 0, none⟩) 1 1) (news := [mv, .int .i64 m.length, .int .i64 m.heard]) rfl rfl rfl Try.underlying63 hi0 hz0 hz1 hz2 rfl (by omega)
    (hrow.keep (((Ext.alloc w _).drew).alloc _) (fun _ _ h => h)) rfl rfl ?_ (fun h => by cases h) one3 hbnd.out.1 hbnd.out.2 ?_
  · intro ad had j' u hu
    injection had with had
    subst had
    refine news_list (E := 83) (cs := #[mv, .int .i64 m.length, .int .i64 m.heard]) ?_ hu
    have := obj_new (w.alloc (.cells #[mv, .int .i64 m.length, .int .i64 m.heard] 83)) (.cells #[mv, .int .i64 m.length, .int .i64 m.heard] 83)
    rw [World.size_alloc] at this
    exact this
  · intro v' w1 hr1 ht1 hs1
    refine hK _ _ ⟨fl_none, ?_⟩
    clear hK K
    iterate 2 (refine cw_rd rfl rfl rfl rfl rfl (fun K hK => ?_); go_wp2_with fail)
    refine cw_e1 rfl rfl (fun K hK => ?_)
    refine op_store1 (g := L.qcell i j) (i := 0) (T := 65) (cs := #[L.qv i j]) rfl rfl rfl Try.sz63 (row_one hr1) (ht1.obj ((((Ext.alloc w _).drew).alloc _).obj hq.out (fun h => h)) (fun e => (hnt'.out _ e) rfl)) (by simp) ?_
    intro w2 hb2 ht2 hz2'
    refine hK _ _ ⟨fl_none, ?_⟩
    clear hK K
    refine cw_nil ?_
    go_end0
    refine ⟨rfl, ?_⟩
    have h0 := ((h.alloc (.cells #[mv, .int .i64 m.length, .int .i64 m.heard] 83)).alloc (.cells #[mv, .int .i64 m.length, .int .i64 m.heard] 83)).drew
    have htt := (ht1.mono (G := fun b => b = L.qcell i j ∨ rowBlock (L.qv i j) = some b) fun _ _ h => .inr h).trans ht2 fun _ _ e => .inl e
    have hsz1 := ht1.size
    have hsz2 := ht2.size
    simp at hsz1
    have hnew : ∀ b, rowBlock v' = some b → b ≠ L.qcell i j := by
      intro b hb e
      rcases hs1 with ⟨h1, _⟩ | ⟨h1, _⟩
      · exact hnt'.out b (by rw [← h1]; exact hb) e
      · rw [h1] at hb
        injection hb with hb
        simp at hb
        omega
    have hrr : Row w2 83 3 v' (msgCells (L.mv i j ++ [mv]) (S.queues i j ++ [m])) := by
      rw [← msgCells_app _ _ _ _ hml.out]
      exact hr1.keep ht2 fun b hb => hnew b hb
    have hlt := fun b (hb : rowBlock mv = some b) => hm.lt hb
    have hN : ∀ b, rowBlock mv = some b → L.tag b = .oth ∧ b < w2.heap.size := fun b hb => ⟨(hmt b hb).1, by have := hlt b hb; omega⟩
    have hmv : Row w2 9 1 mv (m.texts.map .string) := by
      have k1 := hm.keep ((Touch.alloc (Ext.alloc w (.cells #[mv, .int .i64 m.length, .int .i64 m.heard] 83)) (.cells #[mv, .int .i64 m.length, .int .i64 m.heard] 83)).drew) (fun _ _ h => h)
      refine k1.keep htt fun b hb e => ?_
      have := (hmt b hb).1
      rcases e with rfl | e
      · rw [h.tqcell i j hi hj] at this; cases this
      · rw [h.tqrow i j hi hj b e] at this; cases this
    have hv : (∀ b, rowBlock v' = some b → rowBlock (L.qv i j) = some b) ∨ ∃ g, rowBlock v' = some g ∧ L.tag g = .oth ∧ g < w2.heap.size ∧ ¬ rowBlock mv = some g := by
      rcases hs1 with ⟨h1, _⟩ | ⟨h1, h2, _⟩
      · exact .inl fun b hb => by rw [← h1]; exact hb
      · refine .inr ⟨_, h1, h0.fresh _ (Nat.le_refl _), by omega, fun e => ?_⟩
        have := hlt _ e
        simp at this
        omega
    have hq2 := h0.setQueue hi hj (L.mv i j ++ [mv]) (S.queues i j ++ [m]) (fun b => rowBlock mv = some b) htt hb2 hrr (by simp [hml.out]) hv hN (fun k u d hu hd => by
      rw [List.getElem?_append] at hu hd
      rw [hml.out] at hu
      split at hu
      · rename_i hk
        rw [if_pos hk] at hd
        obtain ⟨a1, a2⟩ := h0.msgs i j hi hj k u d hu hd
        refine ⟨a1.keep htt fun b hb e => ?_, fun b hb => .inl (a2 b hb)⟩
        have := a2 b hb
        rcases e with rfl | e
        · rw [h.tqcell i j hi hj] at this; cases this
        · rw [h.tqrow i j hi hj b e] at this; cases this
      · rename_i hk
        rw [if_neg hk] at hd
        have hk0 : k - (S.queues i j).length = 0 := by
          rcases Nat.eq_zero_or_pos (k - (S.queues i j).length) with h' | h'
          · exact h'
          · rw [List.getElem?_eq_none (by simp; omega)] at hu; cases hu
        rw [hk0] at hu hd
        simp only [List.getElem?_cons_zero, Option.some.injEq] at hu hd
        subst hu; subst hd
        exact ⟨hmv, fun b hb => .inr hb⟩)
    refine ⟨_, hq2, ⟨rfl, rfl, rfl, rfl, rfl, rfl, hB, fun b hb ho => ?_, fun b ho => ?_, ?_⟩⟩
    · dsimp only
      rw [if_neg (fun e => by have := (hmt b e).2; omega), if_neg, ho]
      intro e
      rcases hv with h1 | ⟨g, hg, hg1, hg2, _⟩
      · have := h.tqrow i j hi hj b (h1 b e)
        rw [ho] at this; cases this
      · rcases hs1 with ⟨h1, _⟩ | ⟨h1, _⟩
        · have := h.tqrow i j hi hj b (by rw [← h1]; exact e)
          rw [ho] at this; cases this
        · have e2 := h1.symm.trans e
          injection e2 with e2
          simp at e2
          omega
    · dsimp only
      by_cases hN' : rowBlock mv = some b
      · rw [if_pos hN']
      · rw [if_neg hN', if_neg, ho]
        intro e
        rcases hv with h1 | ⟨g, hg, hg1, hg2, _⟩
        · have := h.tqrow i j hi hj b (h1 b e)
          rw [ho] at this; cases this
        · have e := hg.symm.trans e
          injection e with e
          subst e
          rw [ho] at hg1; cases hg1
    · refine (((Touch.alloc (Ext.alloc w (.cells #[mv, .int .i64 m.length, .int .i64 m.heard] 83)) (.cells #[mv, .int .i64 m.length, .int .i64 m.heard] 83)).drew).mono (G := fun b => B ≤ b ∨ (L.tag b ≠ .oth ∧ L.tag b ≠ .msg)) fun _ _ h => h.elim).trans htt fun b _ e => .inr ?_
      rcases e with rfl | e
      · rw [h.tqcell i j hi hj]; simp
      · rw [h.tqrow i j hi hj b e]; simp

theorem elem_cells {w : World} {v mv : Value} {vs : List Value} {m : Msg} {ms : List Msg} {g k : Nat} {cs : Array Value} (h : ElemAt w 83 3 v (msgCells (mv :: vs) (m :: ms)) 0 g k cs) {j : Nat} {u : Value}
    (hu : [mv, .int .i64 m.length, .int .i64 m.heard][j]? = some u) : w.cell? ((⟨g, k, none⟩ : Addr).add j) = some u := by
  have hadd : (⟨g, k, none⟩ : Addr).add j = ⟨g, k + j, none⟩ := by unfold Addr.add; split <;> simp_all
  have hj : j < 3 := by have := (List.getElem?_eq_some_iff.1 hu).1; simpa using this
  rw [hadd]
  refine h.cell hj ?_
  rw [← hu]
  simp only [msgCells]
  match j, hj with
  | 0, _ => rfl
  | 1, _ => rfl
  | 2, _ => rfl

theorem Try.szE83 : (Try.prog.info? 83).map (·.size) = some 3 := Try.sz83

def zeroMsg : Value := .agg #[.slice none 0 0, .int .i64 0, .int .i64 0]

set_option maxRecDepth 100000 in
set_option maxHeartbeats 1000000 in
theorem first_none {w : World} {p : Nat} {L : Lay} {S : NetS} {i j : Nat} {stay : Bool} (h : NetAt w p L S) (hi : i < S.n) (hj : j < S.n) (hq : S.queues i j = []) :
    Calls Try.prog 37 #[ptr (L.qcell i j), .bool stay] w fun e w' => e = .returned (.tuple #[zeroMsg, .bool false]) ∧ Ext w w' := by
  have f0 := Lib.hid (show w.cell? ⟨L.qcell i j, 0, none⟩ = some (L.qv i j) from (h.qcell i j hi hj).cell (i := 0) rfl)
  have hrow := h.qrow i j hi hj
  have hl0 : (msgCells (L.mv i j) (S.queues i j)).length = 0 * 3 := by rw [msgCells_length _ _ (h.mlen i j hi hj), hq]; rfl
  have hl0' := Lib.hid hl0
  clear hl0
  have hq' := Lib.hid hq
  clear hq
  unfold ptr
  go_enter Try.func37, Try.ntmps37
  go_wp2_with (first
    | ((with_reducible change wpList _ _ _ (Oper.mk _ (Op.load _ _) _ _ _ _ :: _) _ _); refine BigFrame.wpList_want rfl (fun K hK => ?_); refine op_load1 rfl rfl Try.ag63 (cell_alloc (cell_alloc f0.out _) _) ?_; refine hK _ _ ?_; clear hK K)
    | ((with_reducible change wpList _ _ _ (Oper.mk _ (Op.call (Call.mk (Callee.builtin Builtin.len) _ _)) _ _ _ _ :: _) _ _); refine BigFrame.wpList_want rfl (fun K hK => ?_); refine op_len_row rfl rfl Try.underlying63 ((hrow.alloc _).alloc _) (by omega) hl0'.out ?_; refine hK _ _ ?_; clear hK K))
  refine bodyPost_ret (v := .tuple #[zeroMsg, .bool false]) (by simp [results, Try.results37, go_sem, zeroMsg]) rfl ⟨rfl, ?_⟩
  exact Touch.alloc (Ext.alloc w _) _

/-- What comes back when there is a message. -/
def FirstPost (w : World) (p : Nat) (L : Lay) (S : NetS) (m : Msg) (e : Ending) (w' : World) : Prop :=
  ∃ mv L', e = .returned (.tuple #[.agg #[mv, .int .i64 m.length, .int .i64 m.heard], .bool true]) ∧ NetAt w' p L' S ∧ LayTo w.heap.size w w' L L' ∧ Row w' 9 1 mv (m.texts.map .string) ∧ ∀ b, rowBlock mv = some b → L'.tag b = .msg

set_option maxRecDepth 100000 in
set_option maxHeartbeats 1000000 in
theorem first_stay {w : World} {p : Nat} {L : Lay} {S : NetS} {i j : Nat} {m : Msg} {ms : List Msg} (h : NetAt w p L S) (hi : i < S.n) (hj : j < S.n) (hq : S.queues i j = m :: ms) (h100 : (S.queues i j).length ≤ 200) :
    Calls Try.prog 37 #[ptr (L.qcell i j), .bool true] w (FirstPost w p L S m) := by
  have f0 := Lib.hid (show w.cell? ⟨L.qcell i j, 0, none⟩ = some (L.qv i j) from (h.qcell i j hi hj).cell (i := 0) rfl)
  have hrow := h.qrow i j hi hj
  have hml := h.mlen i j hi hj
  have hmsgs := h.msgs i j hi hj
  rw [hq] at hrow hml hmsgs
  obtain ⟨v, vs, hvs⟩ : ∃ v vs, L.mv i j = v :: vs := by
    cases hm : L.mv i j with
    | nil => rw [hm] at hml; simp at hml
    | cons v vs => exact ⟨v, vs, rfl⟩
  rw [hvs] at hrow hml hmsgs
  obtain ⟨hm1, hm2⟩ := hmsgs 0 v m rfl rfl
  have hn : (ms.length : Int) + 1 ≤ 200 := by rw [hq] at h100; simp at h100; omega
  have hl0' := Lib.hid (show (msgCells (v :: vs) (m :: ms)).length = (ms.length + 1) * 3 from by rw [msgCells_length _ _ hml]; rfl)
  have hl1 := Lib.hid (show (0 + 1) * 3 ≤ (msgCells (v :: vs) (m :: ms)).length from by rw [hl0'.out]; omega)
  have hcmp : (((ms.length + 1 : Nat) : Int) == 0) = false := by rw [beq_eq_false_iff_ne]; omega
  clear hq hml hmsgs hvs h100
  have one3 : ∀ u ∈ [v, .int .i64 m.length, .int .i64 m.heard], u.oneCell' = true := by
    intro u hu
    simp only [List.mem_cons, List.mem_nil_iff, or_false] at hu
    rcases hu with rfl | rfl | rfl
    · exact row_one hm1
    · rfl
    · rfl
  have hbA := Lib.hid (show Blk ((w.alloc (.cells #[.slice none 0 0, .int .i64 0, .int .i64 0] 83)).alloc (.cells #[.slice none 0 0, .int .i64 0, .int .i64 0] 83)) (w.heap.size + 1) 83 #[.slice none 0 0, .int .i64 0, .int .i64 0] from by
    have := obj_new (w.alloc (.cells #[.slice none 0 0, .int .i64 0, .int .i64 0] 83)) (.cells #[.slice none 0 0, .int .i64 0, .int .i64 0] 83)
    rw [World.size_alloc] at this; exact this)
  have hbB := Lib.hid (show Blk ((w.alloc (.cells #[.slice none 0 0, .int .i64 0, .int .i64 0] 83)).alloc (.cells #[.slice none 0 0, .int .i64 0, .int .i64 0] 83)) w.heap.size 83 #[.slice none 0 0, .int .i64 0, .int .i64 0] from
    obj_alloc (obj_new w _) _)
  have hneA : ¬ (w.heap.size = w.heap.size + 1) := by omega
  unfold ptr
  go_enter Try.func37, Try.ntmps37
  go_wp2_with (first
    | ((with_reducible change wpList _ _ _ (Oper.mk _ (Op.load _ _) _ _ _ _ :: _) _ _); refine BigFrame.wpList_want rfl (fun K hK => ?_); refine op_load1 rfl rfl Try.ag63 (cell_alloc (cell_alloc f0.out _) _) ?_; refine hK _ _ ?_; clear hK K)
    | ((with_reducible change wpList _ _ _ (Oper.mk _ (Op.call (Call.mk (Callee.builtin Builtin.len) _ _)) _ _ _ _ :: _) _ _); refine BigFrame.wpList_want rfl (fun K hK => ?_); refine op_len_row rfl rfl Try.underlying63 ((hrow.alloc _).alloc _) (by omega) hl0'.out ?_; refine hK _ _ ?_; clear hK K)
    | ((with_reducible change wpList _ _ _ (Oper.mk _ (Op.indexAddr _ _ _) _ _ _ _ :: _) _ _); refine BigFrame.wpList_want rfl (fun K hK => ?_); refine op_index_row (i := 0) rfl rfl rfl Try.underlying63 Try.szE83 ((hrow.alloc _).alloc _) hl1.out (by omega) ?_; intro g k cs hel; refine hK _ _ ?_; clear hK K)
    | ((with_reducible change wpList _ _ _ (Oper.mk _ (Op.load _ _) _ _ _ _ :: _) _ _); refine BigFrame.wpList_want rfl (fun K hK => ?_); refine op_loadN (vs := [v, .int .i64 m.length, .int .i64 m.heard]) rfl rfl Try.ag83 Try.sz83 (fun j u hu => elem_cells hel hu) ?_; refine hK _ _ ?_; clear hK K)
    | ((with_reducible change wpList _ _ _ (Oper.mk _ (Op.load _ _) _ _ _ _ :: _) _ _); refine BigFrame.wpList_want rfl (fun K hK => ?_); refine op_loadN (vs := [v, .int .i64 m.length, .int .i64 m.heard]) rfl rfl Try.ag83 Try.sz83 (blk_cells hb1) ?_; refine hK _ _ ?_; clear hK K)
    | ((with_reducible change wpList _ _ _ (Oper.mk _ (Op.store _ _ _) _ _ _ _ :: _) _ _); refine BigFrame.wpList_want rfl (fun K hK => ?_); refine op_storeN (g := w.heap.size + 1) (i := 0) (T := 83) (vs := [v, .int .i64 m.length, .int .i64 m.heard]) rfl rfl rfl Try.sz83 one3 hbA.out (by simp) ?_; intro w1 hb1 ht1 hz1; refine hK _ _ ?_; clear hK K)
    | ((with_reducible change wpList _ _ _ (Oper.mk _ (Op.store _ _ _) _ _ _ _ :: _) _ _); refine BigFrame.wpList_want rfl (fun K hK => ?_); refine op_storeN (g := w.heap.size) (i := 0) (T := 83) (vs := [v, .int .i64 m.length, .int .i64 m.heard]) rfl rfl rfl Try.sz83 one3 (ht1.obj hbB.out hneA) (by simp) ?_; intro w2 hb2 ht2 hz2; refine hK _ _ ?_; clear hK K))
  refine bodyPost_ret (results_cell_tmp (vs := [v, .int .i64 m.length, .int .i64 m.heard]) Try.results37 rfl Try.ag83 Try.sz83 (blk_cells hb2)) rfl ⟨v, L, rfl, ?_⟩
  have he : Ext w w2 := (((Touch.of_ext (F := fun b => w.heap.size ≤ b) (Touch.alloc (Ext.alloc w (.cells #[.slice none 0 0, .int .i64 0, .int .i64 0] 83)) (.cells #[.slice none 0 0, .int .i64 0, .int .i64 0] 83))).trans ht1
    (fun b _ e => by omega)).trans ht2 (fun b _ e => by omega)).mono fun b hb h => by omega
  exact ⟨h.keep he fun _ h => h.elim, (LayTo.refl w L).ext he, hm1.keep he fun _ _ h => h, hm2⟩

def NetS.pop (S : NetS) (i j : Nat) : NetS := { S with queues := upd2 S.queues i j (S.queues i j).tail }

set_option maxRecDepth 100000 in
set_option maxHeartbeats 1000000 in
theorem first_pop {w : World} {p : Nat} {L : Lay} {S : NetS} {i j : Nat} {m : Msg} {ms : List Msg} (h : NetAt w p L S) (hi : i < S.n) (hj : j < S.n) (hq : S.queues i j = m :: ms) (h100 : (S.queues i j).length ≤ 200) :
    Calls Try.prog 37 #[ptr (L.qcell i j), .bool false] w (FirstPost w p L (S.pop i j) m) := by
  have f0 := Lib.hid (show w.cell? ⟨L.qcell i j, 0, none⟩ = some (L.qv i j) from (h.qcell i j hi hj).cell (i := 0) rfl)
  have hrow := h.qrow i j hi hj
  have hml := h.mlen i j hi hj
  have hmsgs := h.msgs i j hi hj
  rw [hq] at hrow hml hmsgs
  obtain ⟨v, vs, hvs⟩ : ∃ v vs, L.mv i j = v :: vs := by
    cases hm : L.mv i j with
    | nil => rw [hm] at hml; simp at hml
    | cons v vs => exact ⟨v, vs, rfl⟩
  rw [hvs] at hrow hml hmsgs
  obtain ⟨hm1, hm2⟩ := hmsgs 0 v m rfl rfl
  have hn : (ms.length : Int) + 1 ≤ 200 := by rw [hq] at h100; simp at h100; omega
  have hl0' := Lib.hid (show (msgCells (v :: vs) (m :: ms)).length = (ms.length + 1) * 3 from by rw [msgCells_length _ _ hml]; rfl)
  have hl1 := Lib.hid (show (0 + 1) * 3 ≤ (msgCells (v :: vs) (m :: ms)).length from by rw [hl0'.out]; omega)
  have hcmp : (((ms.length + 1 : Nat) : Int) == 0) = false := by rw [beq_eq_false_iff_ne]; omega
  have hq' := Lib.hid hq
  have hvs' := Lib.hid hvs
  have hml' := Lib.hid hml
  clear hq hml hmsgs hvs h100
  have hqb := Lib.hid (h.qcell i j hi hj)
  have hlt1 := obj_lt hqb.out
  have hne1 : ¬ (L.qcell i j = w.heap.size + 1) := by omega
  have hlt2 : ∀ b, rowBlock (L.qv i j) = some b → ¬ (b = w.heap.size + 1) := fun b hb => by have := hrow.lt hb; omega
  have hnt' := Lib.hid (show ∀ b, rowBlock (L.qv i j) = some b → b ≠ L.qcell i j from fun b hb e => by
    have := h.tqrow i j hi hj b hb; rw [e, h.tqcell i j hi hj] at this; cases this)
  have one3 : ∀ u ∈ [v, .int .i64 m.length, .int .i64 m.heard], u.oneCell' = true := by
    intro u hu
    simp only [List.mem_cons, List.mem_nil_iff, or_false] at hu
    rcases hu with rfl | rfl | rfl
    · exact row_one hm1
    · rfl
    · rfl
  have hbA := Lib.hid (show Blk ((w.alloc (.cells #[.slice none 0 0, .int .i64 0, .int .i64 0] 83)).alloc (.cells #[.slice none 0 0, .int .i64 0, .int .i64 0] 83)) (w.heap.size + 1) 83 #[.slice none 0 0, .int .i64 0, .int .i64 0] from by
    have := obj_new (w.alloc (.cells #[.slice none 0 0, .int .i64 0, .int .i64 0] 83)) (.cells #[.slice none 0 0, .int .i64 0, .int .i64 0] 83)
    rw [World.size_alloc] at this; exact this)
  have hbB := Lib.hid (show Blk ((w.alloc (.cells #[.slice none 0 0, .int .i64 0, .int .i64 0] 83)).alloc (.cells #[.slice none 0 0, .int .i64 0, .int .i64 0] 83)) w.heap.size 83 #[.slice none 0 0, .int .i64 0, .int .i64 0] from
    obj_alloc (obj_new w _) _)
  have hneA : ¬ (w.heap.size = w.heap.size + 1) := by omega
  unfold ptr
  go_enter Try.func37, Try.ntmps37
  go_wp2_with (first
    | ((with_reducible change wpList _ _ _ (Oper.mk _ (Op.load _ _) _ _ _ _ :: _) _ _); refine BigFrame.wpList_want rfl (fun K hK => ?_); refine op_load1 rfl rfl Try.ag63 (cell_alloc (cell_alloc f0.out _) _) ?_; refine hK _ _ ?_; clear hK K)
    | ((with_reducible change wpList _ _ _ (Oper.mk _ (Op.call (Call.mk (Callee.builtin Builtin.len) _ _)) _ _ _ _ :: _) _ _); refine BigFrame.wpList_want rfl (fun K hK => ?_); refine op_len_row rfl rfl Try.underlying63 ((hrow.alloc _).alloc _) (by omega) hl0'.out ?_; refine hK _ _ ?_; clear hK K)
    | ((with_reducible change wpList _ _ _ (Oper.mk _ (Op.indexAddr _ _ _) _ _ _ _ :: _) _ _); refine BigFrame.wpList_want rfl (fun K hK => ?_); refine op_index_row (i := 0) rfl rfl rfl Try.underlying63 Try.szE83 ((hrow.alloc _).alloc _) hl1.out (by omega) ?_; intro g k cs hel; refine hK _ _ ?_; clear hK K)
    | ((with_reducible change wpList _ _ _ (Oper.mk _ (Op.load _ _) _ _ _ _ :: _) _ _); refine BigFrame.wpList_want rfl (fun K hK => ?_); refine op_loadN (vs := [v, .int .i64 m.length, .int .i64 m.heard]) rfl rfl Try.ag83 Try.sz83 (fun j u hu => elem_cells hel hu) ?_; refine hK _ _ ?_; clear hK K)
    | ((with_reducible change wpList _ _ _ (Oper.mk _ (Op.load _ _) _ _ _ _ :: _) _ _); refine BigFrame.wpList_want rfl (fun K hK => ?_); refine op_loadN (vs := [v, .int .i64 m.length, .int .i64 m.heard]) rfl rfl Try.ag83 Try.sz83 (blk_cells hb1) ?_; refine hK _ _ ?_; clear hK K)
    | ((with_reducible change wpList _ _ _ (Oper.mk _ (Op.store _ _ _) _ _ _ _ :: _) _ _); refine BigFrame.wpList_want rfl (fun K hK => ?_); refine op_storeN (g := w.heap.size + 1) (i := 0) (T := 83) (vs := [v, .int .i64 m.length, .int .i64 m.heard]) rfl rfl rfl Try.sz83 one3 hbA.out (by simp) ?_; intro w1 hb1 ht1 hz1; refine hK _ _ ?_; clear hK K)
    | ((with_reducible change wpList _ _ _ (Oper.mk _ (Op.load _ _) _ _ _ _ :: _) _ _); refine BigFrame.wpList_want rfl (fun K hK => ?_); refine op_load1 rfl rfl Try.ag63 (ht1.cell (cell_alloc (cell_alloc f0.out _) _) hne1) ?_; refine hK _ _ ?_; clear hK K)
    | ((with_reducible change wpList _ _ _ (Oper.mk _ (Op.slice _ _ _ _ _) _ _ _ _ :: _) _ _); refine BigFrame.wpList_want rfl (fun K hK => ?_); refine op_slice_row (k := 1) rfl rfl rfl Try.underlying63 Try.szE83 (((hrow.alloc _).alloc _).keep ht1 hlt2) hl1.out (by omega) ?_; intro v3 hr3 hb3'; refine hK _ _ ?_; clear hK K)
    | ((with_reducible change wpList _ _ _ (Oper.mk _ (Op.store _ _ _) _ _ _ _ :: _) _ _); refine BigFrame.wpList_want rfl (fun K hK => ?_); refine op_store1 (g := L.qcell i j) (i := 0) (T := 65) (cs := #[L.qv i j]) rfl rfl rfl Try.sz63 (row_one hr3) (ht1.obj (obj_alloc (obj_alloc hqb.out _) _) hne1) (by simp) ?_; intro w3 hb3 ht3 hz3; refine hK _ _ ?_; clear hK K)
    | ((with_reducible change wpList _ _ _ (Oper.mk _ (Op.load _ _) _ _ _ _ :: _) _ _); refine BigFrame.wpList_want rfl (fun K hK => ?_); refine op_loadN (vs := [v, .int .i64 m.length, .int .i64 m.heard]) rfl rfl Try.ag83 Try.sz83 (blk_cells (ht3.obj hb1 (fun e => hne1 e.symm))) ?_; refine hK _ _ ?_; clear hK K)
    | ((with_reducible change wpList _ _ _ (Oper.mk _ (Op.store _ _ _) _ _ _ _ :: _) _ _); refine BigFrame.wpList_want rfl (fun K hK => ?_); refine op_storeN (g := w.heap.size) (i := 0) (T := 83) (vs := [v, .int .i64 m.length, .int .i64 m.heard]) rfl rfl rfl Try.sz83 one3 (ht3.obj (ht1.obj hbB.out hneA) (by omega)) (by simp) ?_; intro w2 hb2 ht2 hz2; refine hK _ _ ?_; clear hK K))
  refine bodyPost_ret (results_cell_tmp (vs := [v, .int .i64 m.length, .int .i64 m.heard]) Try.results37 rfl Try.ag83 Try.sz83 (blk_cells hb2)) rfl ?_
  have he : Ext w w1 := ((Touch.of_ext (F := fun b => w.heap.size ≤ b) (Touch.alloc (Ext.alloc w (.cells #[.slice none 0 0, .int .i64 0, .int .i64 0] 83)) (.cells #[.slice none 0 0, .int .i64 0, .int .i64 0] 83))).trans ht1
    (fun b _ e => by omega)).mono fun b hb h => by omega
  have hs1 := ht1.size
  have hs2 := ht2.size
  have hs3 := ht3.size
  simp at hs1
  have h1 := h.keep he fun _ h => h.elim
  have htt : Touch (fun b => b = L.qcell i j ∨ rowBlock (L.qv i j) = some b) w1 w3 := ht3.mono fun b _ e => .inl e
  have hr3' : Row w3 83 3 v3 (msgCells vs ms) := by
    have := hr3.keep ht3 fun b hb => hnt'.out b (hb3' b hb)
    simpa [msgCells] using this
  have h3 := h1.setQueue hi hj vs ms (fun _ => False) htt hb3 hr3' (by have := hml'.out; simpa using this) (.inl hb3') (fun _ h => h.elim) (fun k u d hu hd => by
    obtain ⟨a1, a2⟩ := h1.msgs i j hi hj (k + 1) u d (by rw [hvs'.out]; exact hu) (by rw [hq'.out]; exact hd)
    refine ⟨a1.keep ht3 fun b hb e => ?_, fun b hb => .inl (a2 b hb)⟩
    have := a2 b hb
    rw [e, h.tqcell i j hi hj] at this; cases this)
  have h2 := h3.keep (F := fun b => b = w.heap.size) ht2 fun b hb => by
    subst hb
    dsimp only
    rw [if_neg (fun h => h), if_neg, h.fresh _ (Nat.le_refl _)]
    intro e
    have := hrow.lt (hb3' _ e)
    omega
  have epop : S.pop i j = { S with queues := upd2 S.queues i j ms } := by simp [NetS.pop, hq'.out]
  rw [← epop] at h2
  refine ⟨v, _, rfl, h2, ⟨rfl, rfl, rfl, rfl, rfl, rfl, Nat.le_refl _, fun b hb ho => ?_, fun b ho => ?_, ?_⟩, ?_, fun b hb => ?_⟩
  · dsimp only
    rw [if_neg (fun h => h), if_neg, ho]
    intro e
    have := h.tqrow i j hi hj b (hb3' b e)
    rw [ho] at this; cases this
  · dsimp only
    rw [if_neg (fun h => h), if_neg, ho]
    intro e
    have := h.tqrow i j hi hj b (hb3' b e)
    rw [ho] at this; cases this
  · have k1 : Touch (fun b => w.heap.size ≤ b ∨ (L.tag b ≠ .oth ∧ L.tag b ≠ .msg)) w w3 := (Touch.of_ext he).trans ht3 fun b _ e => .inr (by rw [e, h.tqcell i j hi hj]; simp)
    exact k1.trans ht2 fun b _ e => .inl (by omega)
  · have k1 := (hm1.keep he fun _ _ h => h).keep ht3 fun b hb e => by
      have := hm2 b hb
      rw [e, h.tqcell i j hi hj] at this; cases this
    exact k1.keep ht2 fun b hb e => by
      have := hm1.lt hb
      omega
  · have ht := hm2 b hb
    try dsimp only
    rw [if_neg (fun h => h), if_neg, ht]
    intro e
    have := h.tqrow i j hi hj b (hb3' b e)
    rw [ht] at this; cases this
end Go.Proofs.Ytcipfpebjeakfaa
