/-
  Contract: do.
-/
import Derived.Test.YtcipfpebjeakfaaNetR
namespace Go.Proofs.Ytcipfpebjeakfaa
open Go Go.RowKit Go.WideMaps

attribute [local irreducible] World.cell? World.frozen? isAggB _root_.Go.Program.underlying

theorem Try.ag5 : isAggB Try.prog 5 = some false := by kernel_rfl
theorem Try.ag4 : isAggB Try.prog 4 = some false := by kernel_rfl

def NetS.step (S : NetS) (o : OpV) : NetS :=
  if o.kind % 4 = 0 then S.put (o.a % S.n) o.text
  else if o.kind % 4 = 1 then S.send (o.a % S.n) (o.b % S.n)
  else if o.kind % 4 = 2 then S.deliver (o.a % S.n) (o.b % S.n) o.lost o.again
  else S.cutTo (o.a % S.n) (o.b % S.n) (!o.lost)

set_option maxRecDepth 100000 in
set_option maxHeartbeats 4000000 in
theorem do_contract {w : World} {p : Nat} {L : Lay} {S : NetS} (h : NetAt w p L S) (wf : Wf S) (cap : Cap S 90) (o : OpV) (ho : o.ok) (ht : o.text.size ≤ 100) :
    Calls Try.prog 27 #[ptr p, .int .i64 S.n, .agg o.cells.toArray] w fun e w' => e = .returned (.tuple #[]) ∧ AddPost w.heap.size w p L (S.step o) w' := by
  obtain ⟨kind, oa, ob, lost, again, text⟩ := o
  obtain ⟨hk, hoa, hob⟩ := ho
  dsimp only at hk hoa hob ht
  unfold OpV.cells
  have n1 := wf.n1
  have n8 := wf.n8
  have hbox := Lib.hid (blk_cells (vs := [.int .u8 kind, .int .u8 oa, .int .u8 ob, .bool lost, .bool again, .string text]) (obj_new w (.cells #[.int .u8 kind, .int .u8 oa, .int .u8 ob, .bool lost, .bool again, .string text] 33)))
  have hEw : Ext w (w.alloc (.cells #[.int .u8 kind, .int .u8 oa, .int .u8 ob, .bool lost, .bool again, .string text] 33)).drew := (Ext.alloc w _).drew
  have h1 := h.ext hEw
  have hcases : kind % 4 = 0 ∨ kind % 4 = 1 ∨ kind % 4 = 2 ∨ kind % 4 = 3 := by omega
  have hz : ¬ ((S.n : Int) = 0) := by omega
  have hma : oa % S.n ≤ 1000 := by have := Nat.mod_lt oa (show S.n > 0 by omega); omega
  have hmb : ob % S.n ≤ 1000 := by have := Nat.mod_lt ob (show S.n > 0 by omega); omega
  have lay := LayTo.same (B := w.heap.size) (L := L) (Nat.le_refl _) hEw fun _ _ h => h.elim
  have hq99 : ∀ i j, i < S.n → j < S.n → (S.queues i j).length ≤ 99 := fun i j _ _ => by have := cap.q i j; omega
  have hle : w.heap.size ≤ (w.alloc (.cells #[.int .u8 kind, .int .u8 oa, .int .u8 ob, .bool lost, .bool again, .string text] 33)).drew.heap.size := hEw.size
  rcases hcases with hc | hc | hc | hc
  · have hstep : S.step ⟨kind, oa, ob, lost, again, text⟩ = S.put (oa % S.n) text := by unfold NetS.step; dsimp only; rw [if_pos hc]
    rw [hstep]
    have hcall := Lib.hid (put_contract h1 wf (oa % S.n) text hma (by omega) (by have := cap.all; omega))
    simp only [Int.natCast_emod] at hcall
    have k0 : (((kind : Int) % 4) == 0) = true := by simp; omega
    clear hc
    go_enter Try.func27, Try.ntmps27
    go_wp2_with fail
    refine wp_region_rt (by kernel_rfl) [0, 1, 3, 0, 15, 0, 32, 96, 0, 480, 31, 2047] (.rd 0 (.rd 1 (.rd 2 (.rd 3 (.rd 4 (.rd 5 (.rd 6 (.rd 7 (.rd 8 (.rd 9 (.rd 10 (.rd 11 (.nil))))))))))))) (by kernel_rfl) ?_
    iterate 1 (refine cw_rd rfl rfl rfl rfl rfl (fun K hK => ?_); go_wp2_with fail)
    (refine cw_rd rfl rfl rfl rfl rfl (fun K hK => ?_); refine op_load1 rfl rfl Try.ag5 (cell_drew (hbox.out 1 _ rfl)) ?_; refine hK _ ?_; clear hK K)
    iterate 4 (refine cw_rd rfl rfl rfl rfl rfl (fun K hK => ?_); go_wp2_with fail)
    (refine cw_rd rfl rfl rfl rfl rfl (fun K hK => ?_); refine op_load1 rfl rfl Try.ag5 (cell_drew (hbox.out 2 _ rfl)) ?_; refine hK _ ?_; clear hK K)
    iterate 5 (refine cw_rd rfl rfl rfl rfl rfl (fun K hK => ?_); go_wp2_with fail)
    refine cw_nil ?_
    go_wp2_with (first
      | ((with_reducible change wpList _ _ _ (Oper.mk _ (Op.load _ _) _ _ _ _ :: _) _ _); refine BigFrame.wpList_want rfl (fun K hK => ?_); refine op_load1 rfl rfl Try.ag5 (cell_drew (hbox.out 0 _ rfl)) ?_; refine hK _ _ ?_; clear hK K)
      | ((with_reducible change wpList _ _ _ (Oper.mk _ (Op.load _ _) _ _ _ _ :: _) _ _); refine BigFrame.wpList_want rfl (fun K hK => ?_); refine op_load1 rfl rfl Try.ag9 (cell_drew (hbox.out 5 _ rfl)) ?_; refine hK _ _ ?_; clear hK K)
      | (go_at_call 13; refine hcall.out.mono ?_; rintro _ w3 ⟨rfl, hpost⟩))
    go_end0
    exact ⟨rfl, AddPost.after lay hpost hle⟩
  · have hstep : S.step ⟨kind, oa, ob, lost, again, text⟩ = S.send (oa % S.n) (ob % S.n) := by unfold NetS.step; dsimp only; rw [if_neg (by omega), if_pos hc]
    rw [hstep]
    have hcall := Lib.hid (send_contract h1 wf (oa % S.n) (ob % S.n) hma hmb hq99)
    simp only [Int.natCast_emod] at hcall
    have k0 : (((kind : Int) % 4) == 0) = false := by simp; omega
    have k1 : (((kind : Int) % 4) == 1) = true := by simp; omega
    clear hc
    go_enter Try.func27, Try.ntmps27
    go_wp2_with fail
    refine wp_region_rt (by kernel_rfl) [0, 1, 3, 0, 15, 0, 32, 96, 0, 480, 31, 2047] (.rd 0 (.rd 1 (.rd 2 (.rd 3 (.rd 4 (.rd 5 (.rd 6 (.rd 7 (.rd 8 (.rd 9 (.rd 10 (.rd 11 (.nil))))))))))))) (by kernel_rfl) ?_
    iterate 1 (refine cw_rd rfl rfl rfl rfl rfl (fun K hK => ?_); go_wp2_with fail)
    (refine cw_rd rfl rfl rfl rfl rfl (fun K hK => ?_); refine op_load1 rfl rfl Try.ag5 (cell_drew (hbox.out 1 _ rfl)) ?_; refine hK _ ?_; clear hK K)
    iterate 4 (refine cw_rd rfl rfl rfl rfl rfl (fun K hK => ?_); go_wp2_with fail)
    (refine cw_rd rfl rfl rfl rfl rfl (fun K hK => ?_); refine op_load1 rfl rfl Try.ag5 (cell_drew (hbox.out 2 _ rfl)) ?_; refine hK _ ?_; clear hK K)
    iterate 5 (refine cw_rd rfl rfl rfl rfl rfl (fun K hK => ?_); go_wp2_with fail)
    refine cw_nil ?_
    go_wp2_with (first
      | ((with_reducible change wpList _ _ _ (Oper.mk _ (Op.load _ _) _ _ _ _ :: _) _ _); refine BigFrame.wpList_want rfl (fun K hK => ?_); refine op_load1 rfl rfl Try.ag5 (cell_drew (hbox.out 0 _ rfl)) ?_; refine hK _ _ ?_; clear hK K)
      | (go_at_call 15; refine hcall.out.mono ?_; rintro _ w3 ⟨rfl, hpost⟩))
    go_end0
    exact ⟨rfl, AddPost.after lay hpost hle⟩
  · have hstep : S.step ⟨kind, oa, ob, lost, again, text⟩ = S.deliver (oa % S.n) (ob % S.n) lost again := by unfold NetS.step; dsimp only; rw [if_neg (by omega), if_neg (by omega), if_pos hc]
    rw [hstep]
    have hcall := Lib.hid (deliver_contract h1 wf (oa % S.n) (ob % S.n) lost again hma hmb)
    simp only [Int.natCast_emod] at hcall
    have k0 : (((kind : Int) % 4) == 0) = false := by simp; omega
    have k1 : (((kind : Int) % 4) == 1) = false := by simp; omega
    have k2 : (((kind : Int) % 4) == 2) = true := by simp; omega
    clear hc
    go_enter Try.func27, Try.ntmps27
    go_wp2_with fail
    refine wp_region_rt (by kernel_rfl) [0, 1, 3, 0, 15, 0, 32, 96, 0, 480, 31, 2047] (.rd 0 (.rd 1 (.rd 2 (.rd 3 (.rd 4 (.rd 5 (.rd 6 (.rd 7 (.rd 8 (.rd 9 (.rd 10 (.rd 11 (.nil))))))))))))) (by kernel_rfl) ?_
    iterate 1 (refine cw_rd rfl rfl rfl rfl rfl (fun K hK => ?_); go_wp2_with fail)
    (refine cw_rd rfl rfl rfl rfl rfl (fun K hK => ?_); refine op_load1 rfl rfl Try.ag5 (cell_drew (hbox.out 1 _ rfl)) ?_; refine hK _ ?_; clear hK K)
    iterate 4 (refine cw_rd rfl rfl rfl rfl rfl (fun K hK => ?_); go_wp2_with fail)
    (refine cw_rd rfl rfl rfl rfl rfl (fun K hK => ?_); refine op_load1 rfl rfl Try.ag5 (cell_drew (hbox.out 2 _ rfl)) ?_; refine hK _ ?_; clear hK K)
    iterate 5 (refine cw_rd rfl rfl rfl rfl rfl (fun K hK => ?_); go_wp2_with fail)
    refine cw_nil ?_
    go_wp2_with (first
      | ((with_reducible change wpList _ _ _ (Oper.mk _ (Op.load _ _) _ _ _ _ :: _) _ _); refine BigFrame.wpList_want rfl (fun K hK => ?_); refine op_load1 rfl rfl Try.ag5 (cell_drew (hbox.out 0 _ rfl)) ?_; refine hK _ _ ?_; clear hK K)
      | ((with_reducible change wpList _ _ _ (Oper.mk _ (Op.load _ _) _ _ _ _ :: _) _ _); refine BigFrame.wpList_want rfl (fun K hK => ?_); refine op_load1 rfl rfl Try.ag4 (cell_drew (hbox.out 3 _ rfl)) ?_; refine hK _ _ ?_; clear hK K)
      | ((with_reducible change wpList _ _ _ (Oper.mk _ (Op.load _ _) _ _ _ _ :: _) _ _); refine BigFrame.wpList_want rfl (fun K hK => ?_); refine op_load1 rfl rfl Try.ag4 (cell_drew (hbox.out 4 _ rfl)) ?_; refine hK _ _ ?_; clear hK K)
      | (go_at_call 17; refine hcall.out.mono ?_; rintro _ w3 ⟨rfl, hpost⟩))
    go_end0
    exact ⟨rfl, AddPost.after lay hpost hle⟩
  · have hstep : S.step ⟨kind, oa, ob, lost, again, text⟩ = S.cutTo (oa % S.n) (ob % S.n) (!lost) := by unfold NetS.step; dsimp only; rw [if_neg (by omega), if_neg (by omega), if_neg (by omega)]
    rw [hstep]
    have hcall := Lib.hid (cut_contract h1 (oa % S.n) (ob % S.n) (!lost) hma hmb)
    simp only [Int.natCast_emod] at hcall
    have k0 : (((kind : Int) % 4) == 0) = false := by simp; omega
    have k1 : (((kind : Int) % 4) == 1) = false := by simp; omega
    have k2 : (((kind : Int) % 4) == 2) = false := by simp; omega
    clear hc
    go_enter Try.func27, Try.ntmps27
    go_wp2_with fail
    refine wp_region_rt (by kernel_rfl) [0, 1, 3, 0, 15, 0, 32, 96, 0, 480, 31, 2047] (.rd 0 (.rd 1 (.rd 2 (.rd 3 (.rd 4 (.rd 5 (.rd 6 (.rd 7 (.rd 8 (.rd 9 (.rd 10 (.rd 11 (.nil))))))))))))) (by kernel_rfl) ?_
    iterate 1 (refine cw_rd rfl rfl rfl rfl rfl (fun K hK => ?_); go_wp2_with fail)
    (refine cw_rd rfl rfl rfl rfl rfl (fun K hK => ?_); refine op_load1 rfl rfl Try.ag5 (cell_drew (hbox.out 1 _ rfl)) ?_; refine hK _ ?_; clear hK K)
    iterate 4 (refine cw_rd rfl rfl rfl rfl rfl (fun K hK => ?_); go_wp2_with fail)
    (refine cw_rd rfl rfl rfl rfl rfl (fun K hK => ?_); refine op_load1 rfl rfl Try.ag5 (cell_drew (hbox.out 2 _ rfl)) ?_; refine hK _ ?_; clear hK K)
    iterate 5 (refine cw_rd rfl rfl rfl rfl rfl (fun K hK => ?_); go_wp2_with fail)
    refine cw_nil ?_
    go_wp2_with (first
      | ((with_reducible change wpList _ _ _ (Oper.mk _ (Op.load _ _) _ _ _ _ :: _) _ _); refine BigFrame.wpList_want rfl (fun K hK => ?_); refine op_load1 rfl rfl Try.ag5 (cell_drew (hbox.out 0 _ rfl)) ?_; refine hK _ _ ?_; clear hK K)
      | ((with_reducible change wpList _ _ _ (Oper.mk _ (Op.load _ _) _ _ _ _ :: _) _ _); refine BigFrame.wpList_want rfl (fun K hK => ?_); refine op_load1 rfl rfl Try.ag4 (cell_drew (hbox.out 3 _ rfl)) ?_; refine hK _ _ ?_; clear hK K)
      | (go_at_call 19; refine hcall.out.mono ?_; rintro _ w3 ⟨rfl, hpost⟩))
    go_end0
    exact ⟨rfl, AddPost.after lay hpost hle⟩
end Go.Proofs.Ytcipfpebjeakfaa
