/-
  Contracts: In and Same of the reference.
-/
import Derived.Test.YtcipfpebjeakfaaNetF
namespace Go.Proofs.Ytcipfpebjeakfaa
open Go Go.RowKit Go.WideMaps

theorem str_eq {a b : ByteArray} (h : (a.toList == b.toList) = true) : a = b := by
  have h1 : a.toList = b.toList := by simpa using h
  rw [ByteArray.toList_eq, ByteArray.toList_eq] at h1
  cases a; cases b
  simp only [ByteArray.mk.injEq]
  exact Array.toList_inj.1 h1
theorem str_ne {a b : ByteArray} (h : a ≠ b) : (a.toList == b.toList) = false := by
  cases e : a.toList == b.toList with
  | false => rfl
  | true => exact absurd (str_eq e) h

attribute [local irreducible] World.cell? World.frozen? isAggB _root_.Go.Program.underlying

set_option maxRecDepth 100000 in
set_option maxHeartbeats 1000000 in
theorem in_contract {w : World} {v : Value} {xs : List ByteArray} (s : ByteArray) (hrow : Row w 9 1 v (xs.map .string)) (hn : xs.length ≤ 1000000) :
    Calls Try.prog 29 #[v, .string s] w fun e w' => e = .returned (.bool (inB s xs)) ∧ w = w' := by
  have hlen := Lib.hid (show (xs.map Value.string).length = xs.length * 1 from by simp)
  go_enter Try.func29, Try.ntmps29
  go_wp2_with fail
  go_loop [5] (fun u => ∃ k : Nat, k ≤ xs.length ∧ u = .int .i64 k ∧ s ∉ xs.take k) (fun u => xs.length - (intOf u).toNat)
  case atStart => exact ⟨0, Nat.zero_le _, rfl, by simp⟩
  case round =>
    obtain ⟨k, hk, rfl, hf⟩ := hrel
    have hf' := Lib.hid hf
    clear hf
    by_cases hlt : k < xs.length
    · have hb := Lib.hid (show (k + 1) * 1 ≤ (xs.map Value.string).length from by rw [hlen.out]; omega)
      have hx := Lib.hid (show (xs.map Value.string)[k * 1 + 0]? = some (.string xs[k]) from by simp [hlt])
      by_cases he : xs[k] = s
      · have he' := Lib.hid he
        have hmem := Lib.hid (show s ∈ xs from by rw [← he]; exact List.getElem_mem hlt)
        rw [he] at hx
        clear he
        go_wp2_with (first
          | ((with_reducible change wpList _ _ _ (Oper.mk _ (Op.call (Call.mk (Callee.builtin Builtin.len) _ _)) _ _ _ _ :: _) _ _); refine BigFrame.wpList_want rfl (fun K hK => ?_); refine op_len_row rfl rfl Try.underlying39 hrow (by omega) hlen.out ?_; refine hK _ _ ?_; clear hK K)
          | ((with_reducible change wpList _ _ _ (Oper.mk _ (Op.indexAddr _ _ _) _ _ _ _ :: _) _ _); refine BigFrame.wpList_want rfl (fun K hK => ?_); refine op_index_row (i := k) rfl rfl rfl Try.underlying39 Try.szE9 hrow hb.out (by omega) ?_; intro g j cs hel; refine hK _ _ ?_; clear hK K)
          | ((with_reducible change wpList _ _ _ (Oper.mk _ (Op.load _ _) _ _ _ _ :: _) _ _); refine BigFrame.wpList_want rfl (fun K hK => ?_); refine op_load1 rfl rfl Try.ag9 (hel.cell (j := 0) (by omega) hx.out) ?_; refine hK _ _ ?_; clear hK K))
        go_ret
        refine ⟨?_, rfl⟩
        rw [inB_true hmem.out]
        rfl
      · have hne := str_ne he
        have he' := Lib.hid he
        clear he
        go_wp2_with (first
          | ((with_reducible change wpList _ _ _ (Oper.mk _ (Op.call (Call.mk (Callee.builtin Builtin.len) _ _)) _ _ _ _ :: _) _ _); refine BigFrame.wpList_want rfl (fun K hK => ?_); refine op_len_row rfl rfl Try.underlying39 hrow (by omega) hlen.out ?_; refine hK _ _ ?_; clear hK K)
          | ((with_reducible change wpList _ _ _ (Oper.mk _ (Op.indexAddr _ _ _) _ _ _ _ :: _) _ _); refine BigFrame.wpList_want rfl (fun K hK => ?_); refine op_index_row (i := k) rfl rfl rfl Try.underlying39 Try.szE9 hrow hb.out (by omega) ?_; intro g j cs hel; refine hK _ _ ?_; clear hK K)
          | ((with_reducible change wpList _ _ _ (Oper.mk _ (Op.load _ _) _ _ _ _ :: _) _ _); refine BigFrame.wpList_want rfl (fun K hK => ?_); refine op_load1 rfl rfl Try.ag9 (hel.cell (j := 0) (by omega) hx.out) ?_; refine hK _ _ ?_; clear hK K))
        exact ⟨⟨k + 1, hlt, by go_num, fun hin => by
          rw [List.take_succ_eq_append_getElem hlt, List.mem_append, List.mem_singleton] at hin
          rcases hin with hin | hin
          · exact hf'.out hin
          · exact he'.out hin.symm⟩, by simp [intOf]; omega⟩
    · go_wp2_with (first
          | ((with_reducible change wpList _ _ _ (Oper.mk _ (Op.call (Call.mk (Callee.builtin Builtin.len) _ _)) _ _ _ _ :: _) _ _); refine BigFrame.wpList_want rfl (fun K hK => ?_); refine op_len_row rfl rfl Try.underlying39 hrow (by omega) hlen.out ?_; refine hK _ _ ?_; clear hK K))
      go_ret
      have hk' : k = xs.length := by omega
      have h0 := hf'.out
      rw [hk', List.take_length] at h0
      refine ⟨?_, rfl⟩
      rw [inB_false h0]
      rfl

def sameB (xs ys : List ByteArray) : Bool := decide (xs = ys)
theorem sameB_iff {xs ys : List ByteArray} : sameB xs ys = true ↔ xs = ys := by unfold sameB; exact decide_eq_true_iff
theorem sameB_false {xs ys : List ByteArray} (h : xs ≠ ys) : sameB xs ys = false := by unfold sameB; exact decide_eq_false h

set_option maxRecDepth 100000 in
set_option maxHeartbeats 1000000 in
theorem same_contract {w : World} {v u : Value} {xs ys : List ByteArray} (hv : Row w 9 1 v (xs.map .string)) (hu : Row w 9 1 u (ys.map .string)) (hn : xs.length ≤ 1000000) (_hn2 : ys.length ≤ 1000000) :
    Calls Try.prog 21 #[v, u] w fun e w' => e = .returned (.bool (sameB xs ys)) ∧ Ext w w' := by
  have hlen := Lib.hid (show (xs.map Value.string).length = xs.length * 1 from by simp)
  have hlen2 := Lib.hid (show (ys.map Value.string).length = ys.length * 1 from by simp)
  by_cases hl : xs.length = ys.length
  · have hl' : ((xs.length : Int) == (ys.length : Int)) = true := by simp [hl]
    have hl3 : ((xs.length : Int) != (ys.length : Int)) = false := by simp [hl]
    have hl2 := Lib.hid hl
    clear hl
    go_enter Try.func21, Try.ntmps21
    go_wp2_with (first
      | ((with_reducible change wpList _ _ _ (Oper.mk _ (Op.call (Call.mk (Callee.builtin Builtin.len) _ _)) _ _ _ _ :: _) _ _); refine BigFrame.wpList_want rfl (fun K hK => ?_); refine op_len_row rfl rfl Try.underlying39 hv (by omega) hlen.out ?_; refine hK _ _ ?_; clear hK K)
      | ((with_reducible change wpList _ _ _ (Oper.mk _ (Op.call (Call.mk (Callee.builtin Builtin.len) _ _)) _ _ _ _ :: _) _ _); refine BigFrame.wpList_want rfl (fun K hK => ?_); refine op_len_row rfl rfl Try.underlying39 hu (by omega) hlen2.out ?_; refine hK _ _ ?_; clear hK K))
    go_loopw [5] (fun u W => ∃ k : Nat, k ≤ xs.length ∧ u = .int .i64 k ∧ xs.take k = ys.take k ∧ Ext w W) (fun u _ => xs.length - (intOf u).toNat)
    case atStart => exact ⟨0, Nat.zero_le _, rfl, by simp, Touch.refl _ w⟩
    case round =>
      obtain ⟨k, hk, rfl, hf, hE⟩ := hrel
      have hf' := Lib.hid hf
      clear hf
      have hvW := hv.keep hE (fun _ _ h => h)
      have huW := hu.keep hE (fun _ _ h => h)
      by_cases hlt : k < xs.length
      · have hlt2 := Lib.hid (show k < ys.length from by have := hl2.out; omega)
        have hb := Lib.hid (show (k + 1) * 1 ≤ (xs.map Value.string).length from by rw [hlen.out]; omega)
        have hb2 := Lib.hid (show (k + 1) * 1 ≤ (ys.map Value.string).length from by rw [hlen2.out]; have := hlt2.out; omega)
        have hx := Lib.hid (show (xs.map Value.string)[k * 1 + 0]? = some (.string xs[k]) from by simp [hlt])
        have hy := Lib.hid (show (ys.map Value.string)[k * 1 + 0]? = some (.string (ys[k]'hlt2.out)) from by simp [hlt2.out])
        by_cases he : xs[k] = ys[k]'hlt2.out
        · have he' := Lib.hid he
          rw [← he] at hy
          have hrefl : (xs[k].toList == xs[k].toList) = true := by simp
          clear he
          go_wp2_with (first
            | ((with_reducible change wpList _ _ _ (Oper.mk _ (Op.call (Call.mk (Callee.builtin Builtin.len) _ _)) _ _ _ _ :: _) _ _); refine BigFrame.wpList_want rfl (fun K hK => ?_); refine op_len_row rfl rfl Try.underlying39 hvW (by omega) hlen.out ?_; refine hK _ _ ?_; clear hK K))
          refine wp_region_rt (by kernel_rfl) [0, 0, 3, 7, 0, 0, 48, 112, 255] (.rd 0 (.rd 1 (.rd 2 (.rd 3 (.rd 4 (.rd 5 (.rd 6 (.rd 7 (.rd 8 (.nil)))))))))) (by kernel_rfl) ?_
          iterate 2 (refine cw_rd rfl rfl rfl rfl rfl (fun K hK => ?_); go_wp2_with fail)
          (refine cw_rd rfl rfl rfl rfl rfl (fun K hK => ?_); refine op_index_row (i := k) rfl rfl rfl Try.underlying39 Try.szE9 hvW.drew hb.out (by omega) ?_; intro g j cs hel; refine hK _ ?_; clear hK K)
          (refine cw_rd rfl rfl rfl rfl rfl (fun K hK => ?_); refine op_load1 rfl rfl Try.ag9 (hel.cell (j := 0) (by omega) hx.out) ?_; refine hK _ ?_; clear hK K)
          iterate 2 (refine cw_rd rfl rfl rfl rfl rfl (fun K hK => ?_); go_wp2_with fail)
          (refine cw_rd rfl rfl rfl rfl rfl (fun K hK => ?_); refine op_index_row (i := k) rfl rfl rfl Try.underlying39 Try.szE9 huW.drew hb2.out (by omega) ?_; intro g2 j2 cs2 hel2; refine hK _ ?_; clear hK K)
          (refine cw_rd rfl rfl rfl rfl rfl (fun K hK => ?_); refine op_load1 rfl rfl Try.ag9 (hel2.cell (j := 0) (by omega) hy.out) ?_; refine hK _ ?_; clear hK K)
          iterate 1 (refine cw_rd rfl rfl rfl rfl rfl (fun K hK => ?_); go_wp2_with fail)
          refine cw_nil ?_
          go_wp2_with fail
          exact ⟨⟨k + 1, hlt, by go_num, by
            rw [List.take_succ_eq_append_getElem hlt, List.take_succ_eq_append_getElem hlt2.out, hf'.out, he'.out], hE.drew⟩, by simp [intOf]; omega⟩
        · have hne := str_ne he
          have hne' := Lib.hid (show xs ≠ ys from fun e => he (by simp only [e]))
          clear he
          go_wp2_with (first
            | ((with_reducible change wpList _ _ _ (Oper.mk _ (Op.call (Call.mk (Callee.builtin Builtin.len) _ _)) _ _ _ _ :: _) _ _); refine BigFrame.wpList_want rfl (fun K hK => ?_); refine op_len_row rfl rfl Try.underlying39 hvW (by omega) hlen.out ?_; refine hK _ _ ?_; clear hK K))
          refine wp_region_rt (by kernel_rfl) [0, 0, 3, 7, 0, 0, 48, 112, 255] (.rd 0 (.rd 1 (.rd 2 (.rd 3 (.rd 4 (.rd 5 (.rd 6 (.rd 7 (.rd 8 (.nil)))))))))) (by kernel_rfl) ?_
          iterate 2 (refine cw_rd rfl rfl rfl rfl rfl (fun K hK => ?_); go_wp2_with fail)
          (refine cw_rd rfl rfl rfl rfl rfl (fun K hK => ?_); refine op_index_row (i := k) rfl rfl rfl Try.underlying39 Try.szE9 hvW.drew hb.out (by omega) ?_; intro g j cs hel; refine hK _ ?_; clear hK K)
          (refine cw_rd rfl rfl rfl rfl rfl (fun K hK => ?_); refine op_load1 rfl rfl Try.ag9 (hel.cell (j := 0) (by omega) hx.out) ?_; refine hK _ ?_; clear hK K)
          iterate 2 (refine cw_rd rfl rfl rfl rfl rfl (fun K hK => ?_); go_wp2_with fail)
          (refine cw_rd rfl rfl rfl rfl rfl (fun K hK => ?_); refine op_index_row (i := k) rfl rfl rfl Try.underlying39 Try.szE9 huW.drew hb2.out (by omega) ?_; intro g2 j2 cs2 hel2; refine hK _ ?_; clear hK K)
          (refine cw_rd rfl rfl rfl rfl rfl (fun K hK => ?_); refine op_load1 rfl rfl Try.ag9 (hel2.cell (j := 0) (by omega) hy.out) ?_; refine hK _ ?_; clear hK K)
          iterate 1 (refine cw_rd rfl rfl rfl rfl rfl (fun K hK => ?_); go_wp2_with fail)
          refine cw_nil ?_
          go_wp2_with fail
          go_ret
          exact ⟨by rw [sameB_false hne'.out]; rfl, hE.drew⟩
      · go_wp2_with (first
          | ((with_reducible change wpList _ _ _ (Oper.mk _ (Op.call (Call.mk (Callee.builtin Builtin.len) _ _)) _ _ _ _ :: _) _ _); refine BigFrame.wpList_want rfl (fun K hK => ?_); refine op_len_row rfl rfl Try.underlying39 hvW (by omega) hlen.out ?_; refine hK _ _ ?_; clear hK K))
        go_ret
        have hk' : k = xs.length := by omega
        have h0 := hf'.out
        have h2 := hl2.out
        rw [hk', List.take_length, h2, List.take_length] at h0
        exact ⟨by rw [sameB_iff.2 h0]; rfl, hE⟩
  · have hl' : ((xs.length : Int) == (ys.length : Int)) = false := by rw [beq_eq_false_iff_ne]; omega
    have hne := Lib.hid (show xs ≠ ys from fun e => hl (by rw [e]))
    clear hl
    go_enter Try.func21, Try.ntmps21
    go_wp2_with (first
      | ((with_reducible change wpList _ _ _ (Oper.mk _ (Op.call (Call.mk (Callee.builtin Builtin.len) _ _)) _ _ _ _ :: _) _ _); refine BigFrame.wpList_want rfl (fun K hK => ?_); refine op_len_row rfl rfl Try.underlying39 hv (by omega) hlen.out ?_; refine hK _ _ ?_; clear hK K)
      | ((with_reducible change wpList _ _ _ (Oper.mk _ (Op.call (Call.mk (Callee.builtin Builtin.len) _ _)) _ _ _ _ :: _) _ _); refine BigFrame.wpList_want rfl (fun K hK => ?_); refine op_len_row rfl rfl Try.underlying39 hu (by omega) hlen2.out ?_; refine hK _ _ ?_; clear hK K))
    go_ret
    exact ⟨by rw [sameB_false hne.out]; rfl, Touch.refl _ w⟩
end Go.Proofs.Ytcipfpebjeakfaa
