/-
  Contracts: there, Put and Has at a nil pointer.
-/
import Derived.Test.YtcipfpebjeakfaaNetK
namespace Go.Proofs.Ytcipfpebjeakfaa
open Go Go.RowKit Go.WideMaps

attribute [local irreducible] World.cell? World.frozen? isAggB _root_.Go.Program.underlying

set_option maxRecDepth 100000 in
set_option maxHeartbeats 1000000 in
theorem there_nil (w : World) (v : Value) : Calls Try.prog 31 #[.pointer none, v] w fun e w' => e = .returned (.bool false) ∧ Ext w w' := by
  have hcell := Lib.hid (show (w.alloc (.cells #[.pointer none] 25)).cell? ⟨w.heap.size, 0, none⟩ = some (.pointer none) from (show Blk (w.alloc (.cells #[.pointer none] 25)) w.heap.size 25 #[.pointer none] from obj_new w _).cell (i := 0) rfl)
  go_enter Try.func31, Try.ntmps31
  go_wp2_with (first
    | ((with_reducible change wpList _ _ _ (Oper.mk _ (Op.load _ _) _ _ _ _ :: _) _ _); refine BigFrame.wpList_want rfl (fun K hK => ?_); refine op_load1 rfl rfl Try.ag25 hcell.out ?_; refine hK _ _ ?_; clear hK K))
  go_ret
  exact ⟨rfl, Ext.alloc w _⟩

set_option maxRecDepth 100000 in
set_option maxHeartbeats 1000000 in
theorem put_nil (w : World) (i : Nat) (s : ByteArray) : Calls Try.prog 13 #[.pointer none, .int .i64 i, .string s] w fun e w' => e = .returned (.int .i64 1) ∧ Ext w w' := by
  have hth := Lib.hid (there_nil (w.alloc (.cells #[.int .i64 i] 3)) (.slice (some ⟨w.heap.size, 0, none⟩) 1 1))
  go_enter Try.func13, Try.ntmps13
  go_wp2_with (first
    | (go_at_call 31; refine hth.out.mono ?_; rintro _ w1 ⟨rfl, hE1⟩))
  go_ret
  exact ⟨rfl, (Ext.alloc w _).then_ext hE1⟩

set_option maxRecDepth 100000 in
set_option maxHeartbeats 1000000 in
theorem has_nil (w : World) (i : Nat) : Calls Try.prog 22 #[.pointer none, .int .i64 i] w fun e w' => e = .returned (.slice none 0 0) ∧ Ext w w' := by
  have hth := Lib.hid (there_nil (w.alloc (.cells #[.int .i64 i] 3)) (.slice (some ⟨w.heap.size, 0, none⟩) 1 1))
  go_enter Try.func22, Try.ntmps22
  go_wp2_with (first
    | (go_at_call 31; refine hth.out.mono ?_; rintro _ w1 ⟨rfl, hE1⟩))
  go_ret
  exact ⟨rfl, (Ext.alloc w _).then_ext hE1⟩
end Go.Proofs.Ytcipfpebjeakfaa
