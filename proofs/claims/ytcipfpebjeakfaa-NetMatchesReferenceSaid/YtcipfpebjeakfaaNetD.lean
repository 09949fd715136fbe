/-
  Contracts: line, Clone and DeleteFunc at strings, Has, Lacks.
-/
import Derived.Test.YtcipfpebjeakfaaNetC
import Derived.Lib.SliceRun
namespace Go.Proofs.Ytcipfpebjeakfaa
open Go Go.RowKit
open Go.Maps (Keyed)

attribute [local irreducible] World.cell? World.frozen? isAggB _root_.Go.Program.underlying

theorem Try.ag66 : isAggB Try.prog 66 = some true := by kernel_rfl
theorem Try.sz66 : (Try.prog.info? 66).map (·.size) = some 2 := by kernel_rfl
theorem Try.sz9 : (Try.prog.info? 9).map (·.size) = some 1 := by kernel_rfl

set_option maxRecDepth 100000 in
set_option maxHeartbeats 1000000 in
theorem line_contract (a b m M : Nat) (w : World) (_ha : (a : Int) ≤ 1000) (_hb : (b : Int) ≤ 1000) (hm : m = min a b) (hM : M = max a b) :
    Calls Try.prog 34 #[.int .i64 a, .int .i64 b] w fun e w' => e = .returned (pairV m M) ∧ Ext w w' := by
  have h0 := Lib.hid (show Blk (w.alloc (.cells #[.int .i64 0, .int .i64 0] 66)) w.heap.size 66 #[.int .i64 0, .int .i64 0] from obj_new w _)
  have hm' := Lib.hid hm
  have hM' := Lib.hid hM
  clear hm hM
  by_cases h : a < b
  all_goals
    go_enter Try.func34, Try.ntmps34
    go_wp2_with (first
      | ((with_reducible change wpList _ _ _ (Oper.mk _ (Op.store _ _ _) _ _ _ _ :: _) _ _); refine BigFrame.wpList_want rfl (fun K hK => ?_); refine op_storeN (g := w.heap.size) (i := 0) (T := 66) (vs := [.int .i64 m, .int .i64 M]) rfl rfl (by have a1 := hm'.out; have a2 := hM'.out; simp only [Act.eval]; simp; omega) Try.sz66 (by simp [Value.oneCell']) h0.out (by simp) ?_; intro w1 hb1 ht1 hz1; refine hK _ _ ?_; clear hK K))
    all_goals refine bodyPost_ret (results_cell (vs := [.int .i64 m, .int .i64 M]) Try.results34 rfl Try.ag66 Try.sz66 (blk_cells hb1)) rfl ⟨rfl, ?_⟩
    all_goals exact ((Touch.of_ext (F := fun b => w.heap.size ≤ b) (Ext.alloc w _)).trans ht1 (fun b _ e => by omega)).mono fun b hb h => by omega

/-- A bare slice of no element, over any address. -/
theorem Row.empty {w : World} {E : TypeId} {size : Nat} (ad : Option Addr) : Row w E size (.slice ad 0 0) [] := ⟨ad, 0, 0, rfl, by simp, Nat.le_refl _, Nat.zero_le _, fun _ => rfl, fun h => by omega⟩

set_option maxRecDepth 100000 in
set_option maxHeartbeats 1000000 in
theorem clone_contract {w : World} {v : Value} {xs : List ByteArray} (hr : Row w 9 1 v (xs.map .string)) (hl : xs.length ≤ 1000000) :
    Calls Try.prog 38 #[v] w fun e w' => ∃ v', e = .returned v' ∧ Row w' 9 1 v' (xs.map .string) ∧ Ext w w' ∧ ∀ b, rowBlock v' = some b → w.heap.size ≤ b := by
  obtain ⟨i0, hi0, hz0, hz1, hz2⟩ := info_parts Try.in9
  have hr' := hr
  obtain ⟨ad, n, c, rfl, h1, h2, h3, h4, h5⟩ := hr'
  have hbnd := Lib.hid (show (([] : List Value).length + (xs.map Value.string).length) * 16 ≤ 140737488355328 ∧ ([] : List Value).length + (xs.map Value.string).length ≤ maxLen from by
    unfold maxLen; simp only [List.length_map, List.length_nil]; omega)
  have one1 : ∀ u ∈ xs.map Value.string, u.oneCell' = true := by simp [Value.oneCell']
  have h1' := Lib.hid h1
  clear h1 h4 h5
  have q39 : ∀ (w : World) (a : Option Addr) (n c n' c' : Nat), (binOp .eql 39 (.slice a n c) (.slice none n' c')).run Try.prog w = .ok (.bool a.isNone) w := fun w a n c n' c' => Lib.run_eql_slice_nil w _ _ a n c n' c' Try.underlying39
  cases ad with
  | none =>
    go_enter Try.func38, Try.ntmps38
    go_wp2
    go_ret
    obtain ⟨ad', n', c', he, h1, h2, h3, h4, h5⟩ := hr
    injection he with e1 e2 e3
    subst e1; subst e2; subst e3
    have hc := h4 rfl
    subst hc
    have hn : n = 0 := by omega
    subst hn
    exact ⟨_, rfl, ⟨none, 0, 0, rfl, h1, Nat.le_refl _, Nat.zero_le _, fun _ => rfl, fun h => by omega⟩, Touch.refl _ w, fun b hb => by simp [rowBlock] at hb⟩
  | some ad =>
    go_enter Try.func38, Try.ntmps38
    go_wp2_with (first
      | ((with_reducible change wpList _ _ _ (Oper.mk _ (Op.call (Call.mk (Callee.builtin Builtin.append) _ _)) _ _ _ _ :: _) _ _); refine BigFrame.wpList_want rfl (fun K hK => ?_); refine op_append (v := .slice (some ⟨w.heap.size, 0, none⟩) 0 0) (sv := .slice (some ad) n c) (news := xs.map .string) rfl rfl rfl Try.underlying39 hi0 hz0 hz1 hz2 rfl (by omega)
          (Row.empty _) rfl h1'.out (fun ad' h j u hu => by injection h with h; subst h; exact cell_alloc (hr.cells rfl j u hu) _) (fun h => by cases h) one1 hbnd.out.1 hbnd.out.2 ?_; intro v2 w2 hr2 ht2 hs2; refine hK _ _ ?_; clear hK K))
    go_ret
    have hE : Ext w w2 := by
      refine (Touch.trans (Ext.alloc w _) ht2 fun b _ e => ?_)
      simp [rowBlock] at e
    refine ⟨_, rfl, hr2, hE, fun b hb => ?_⟩
    have hb : rowBlock v2 = some b := hb
    rcases hs2 with ⟨h1, _⟩ | ⟨h1, _⟩
    · rw [h1] at hb; simp [rowBlock] at hb
    · rw [h1] at hb; injection hb with hb; simp at hb; omega
end Go.Proofs.Ytcipfpebjeakfaa
