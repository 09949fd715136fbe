/-
  Contract: Deliver, joined.
-/
import Derived.Test.YtcipfpebjeakfaaNetJ
namespace Go.Proofs.Ytcipfpebjeakfaa
open Go Go.RowKit Go.WideMaps
open Go.Maps (Keyed)

attribute [local irreducible] World.cell? World.frozen? isAggB _root_.Go.Program.underlying

section
variable {P : Program} {ops : Array Oper} {Q : Exit → Act → World → Prop} {t : RT} {S : List (Nat × Value)} {a : Act} {w : World}
/-- A read that is passed over, into a slot that holds nothing yet. -/
theorem cw_skip' {i : Nat} {o : Oper} (ho : nth ops.toList i = some o) (hg : Region.wanted o (yielded ops a.tmps) = false) (ha : a.put o.dst undef = a) (h : cwT P ops (Strict Q) t ((i, undef) :: S) a w) :
    cwT P ops (Strict Q) (.rd i t) S a w := cw_skip ho hg (by rw [ha]; exact h)
theorem cw_e1_skip' {i : Nat} {fl : List Nat} {o : Oper} (ho : nth ops.toList i = some o) (hg : Region.wanted o (yielded ops a.tmps) = false) (ha : a.put o.dst undef = a) (hf : floatsOk P ops fl S a w)
    (h : cwT P ops (Strict Q) t S a w) : cwT P ops (Strict Q) (.e1 i fl t) S a w := cw_e1_skip ho hg (by rw [ha]; exact hf) (by rw [ha]; exact h)
end

set_option maxRecDepth 100000 in
set_option maxHeartbeats 4000000 in
theorem deliver_bad {w : World} {p : Nat} {L : Lay} {S : NetS} (h : NetAt w p L S) (fr to : Nat) (lost again : Bool) (hok : S.okB fr to = false) :
    Calls Try.prog 17 #[ptr p, .int .i64 fr, .int .i64 to, .bool lost, .bool again] w fun e w' => e = .returned (.bool false) ∧ AddPost w.heap.size w p L S w' := by
  have hth := Lib.hid (there_contract (((h.drew).alloc (.cells #[.int .i64 fr, .int .i64 to] 3))) [(fr : Int), (to : Int)] (.slice (some ⟨w.heap.size, 0, none⟩) 2 2) (by simp) (Row.new w.drew 3 [.int .i64 fr, .int .i64 to] (by simp) (by simp)))
  rw [there2_iff] at hth
  by_cases hab : fr < S.n ∧ to < S.n
  · have heq : ((fr : Int) == (to : Int)) = true := by
      have : fr = to := by
        unfold NetS.okB at hok
        rw [decide_eq_true hab.1, decide_eq_true hab.2] at hok
        simpa using hok
      simp [this]
    rw [decide_eq_true hab.1, decide_eq_true hab.2] at hth
    clear hok hab
    unfold ptr at hth ⊢
    go_enter Try.func17, Try.ntmps17
    go_wp2_with fail
    refine wp_region_rt (by kernel_rfl) [0, 0, 0, 6, 15, 31, 63, 127, 127, 511, 1023, 2047, 4095, 8191, 16383, 32767, 4095, 4095, 200703, 524287, 1048575] (.rd 0 (.rd 1 (.rd 2 (.e1 3 [] (.e1 4 [] (.rd 5 (.rd 6 (.rd 7 (.rd 8 (.rd 9 (.rd 10 (.rd 11 (.rd 12 (.rd 13 (.rd 14 (.rd 15 (.rd 16 (.rd 17 (.e1 18 [13, 14, 15] (.rd 19 (.rd 20 (.nil)))))))))))))))))))))) (by kernel_rfl) ?_
    iterate 3 (refine cw_rd rfl rfl rfl rfl rfl (fun K hK => ?_); go_wp2_with fail)
    refine cw_e1 rfl rfl (fun K hK => ?_)
    go_wp2_with fail
    refine ⟨fl_none, ?_⟩
    refine cw_e1 rfl rfl (fun K hK => ?_)
    go_wp2_with (first
      | (go_at_call 31; refine hth.out.mono ?_; rintro _ w1 ⟨rfl, hE1⟩))
    refine ⟨fl_none, ?_⟩
    have hE : Ext w w1 := (((Touch.refl _ w).drew).alloc _).then_ext hE1
    iterate 7 (refine cw_rd rfl rfl rfl rfl rfl (fun K hK => ?_); go_wp2_with fail)
    iterate 6 refine cw_skip' rfl rfl rfl ?_
    refine cw_e1_skip' rfl rfl rfl ?_ ?_
    · (repeat (first | exact fl_nil | refine fl_skip rfl ?_ | (refine fl_take rfl ?_ ?_; (first | exact yldI_skip rfl rfl | (refine yldI_of rfl rfl ?_; go_simp)))))
    iterate 1 refine cw_skip' rfl rfl rfl ?_
    iterate 1 (refine cw_rd rfl rfl rfl rfl rfl (fun K hK => ?_); go_wp2_with fail)
    refine cw_nil ?_
    go_wp2_with fail
    go_ret
    exact ⟨rfl, AddPost.of_ext h hE⟩
  · have hf2 : (decide (fr < S.n) && decide (to < S.n)) = false := by
      by_cases h1 : fr < S.n <;> by_cases h2 : to < S.n <;> simp_all
    rw [hf2] at hth
    clear hok hab hf2
    unfold ptr at hth ⊢
    go_enter Try.func17, Try.ntmps17
    go_wp2_with fail
    refine wp_region_rt (by kernel_rfl) [0, 0, 0, 6, 15, 31, 63, 127, 127, 511, 1023, 2047, 4095, 8191, 16383, 32767, 4095, 4095, 200703, 524287, 1048575] (.rd 0 (.rd 1 (.rd 2 (.e1 3 [] (.e1 4 [] (.rd 5 (.rd 6 (.rd 7 (.rd 8 (.rd 9 (.rd 10 (.rd 11 (.rd 12 (.rd 13 (.rd 14 (.rd 15 (.rd 16 (.rd 17 (.e1 18 [13, 14, 15] (.rd 19 (.rd 20 (.nil)))))))))))))))))))))) (by kernel_rfl) ?_
    iterate 3 (refine cw_rd rfl rfl rfl rfl rfl (fun K hK => ?_); go_wp2_with fail)
    refine cw_e1 rfl rfl (fun K hK => ?_)
    go_wp2_with fail
    refine ⟨fl_none, ?_⟩
    refine cw_e1 rfl rfl (fun K hK => ?_)
    go_wp2_with (first
      | (go_at_call 31; refine hth.out.mono ?_; rintro _ w1 ⟨rfl, hE1⟩))
    refine ⟨fl_none, ?_⟩
    have hE : Ext w w1 := (((Touch.refl _ w).drew).alloc _).then_ext hE1
    iterate 2 (refine cw_rd rfl rfl rfl rfl rfl (fun K hK => ?_); go_wp2_with fail)
    iterate 3 refine cw_skip' rfl rfl rfl ?_
    iterate 2 (refine cw_rd rfl rfl rfl rfl rfl (fun K hK => ?_); go_wp2_with fail)
    iterate 6 refine cw_skip' rfl rfl rfl ?_
    refine cw_e1_skip' rfl rfl rfl ?_ ?_
    · (repeat (first | exact fl_nil | refine fl_skip rfl ?_ | (refine fl_take rfl ?_ ?_; (first | exact yldI_skip rfl rfl | (refine yldI_of rfl rfl ?_; go_simp)))))
    iterate 1 refine cw_skip' rfl rfl rfl ?_
    iterate 1 (refine cw_rd rfl rfl rfl rfl rfl (fun K hK => ?_); go_wp2_with fail)
    refine cw_nil ?_
    go_wp2_with fail
    go_ret
    exact ⟨rfl, AddPost.of_ext h hE⟩

set_option maxRecDepth 100000 in
set_option maxHeartbeats 4000000 in
theorem deliver_off {w : World} {p : Nat} {L : Lay} {S : NetS} (h : NetAt w p L S) (wf : Wf S) (fr to : Nat) (lost again : Bool) (hfr6 : fr ≤ 1000) (hto6 : to ≤ 1000) (hok : S.okB fr to = true)
    (hempty : S.off fr to = true ∨ (S.off fr to = false ∧ S.queues fr to = [])) :
    Calls Try.prog 17 #[ptr p, .int .i64 fr, .int .i64 to, .bool lost, .bool again] w fun e w' => e = .returned (.bool false) ∧ AddPost w.heap.size w p L S w' := by
  have hth := Lib.hid (there_contract (((h.drew).alloc (.cells #[.int .i64 fr, .int .i64 to] 3))) [(fr : Int), (to : Int)] (.slice (some ⟨w.heap.size, 0, none⟩) 2 2) (by simp) (Row.new w.drew 3 [.int .i64 fr, .int .i64 to] (by simp) (by simp)))
  rw [there2_iff] at hth
  have hok' := hok
  unfold NetS.okB at hok'
  simp only [Bool.and_eq_true, Bool.not_eq_true', decide_eq_true_eq, decide_eq_false_iff_not] at hok'
  obtain ⟨⟨ha, hb⟩, hne⟩ := hok'
  rw [decide_eq_true ha, decide_eq_true hb] at hth
  have hne' : ((fr : Int) == (to : Int)) = false := by simp; omega
  have f1 := Lib.hid (show w.cell? ⟨p, 1, none⟩ = some (.map (some L.queues)) from h.net.cell (i := 1) rfl)
  have f2 := Lib.hid (show w.cell? ⟨p, 2, none⟩ = some (.map (some L.cut)) from h.net.cell (i := 2) rfl)
  have hl := fun W => line_contract fr to (min fr to) (max fr to) W (by omega) (by omega) rfl rfl
  have hl' := Lib.hid hl
  have hk := Lib.hid (key66 (min fr to) (max fr to) (by omega) (by omega))
  have hk2 := Lib.hid (key66 fr to (by omega) (by omega))
  have hin := Lib.hid (queue_in (L := L) ha hb)
  have hqs := h.queues
  obtain ⟨mm, hm, hmok⟩ := h.cut
  have ha' := Lib.hid ha
  have hb' := Lib.hid hb
  rcases hempty with hoff | ⟨hoff, hq⟩
  · have hhit := Lib.hid (cut_hit hmok wf.sym ha hb hne hoff)
    clear hok hl hmok ha hb hne hoff
    unfold ptr at hth hin hqs ⊢
    go_enter Try.func17, Try.ntmps17
    go_wp2_with fail
    refine wp_region_rt (by kernel_rfl) [0, 0, 0, 6, 15, 31, 63, 127, 127, 511, 1023, 2047, 4095, 8191, 16383, 32767, 4095, 4095, 200703, 524287, 1048575] (.rd 0 (.rd 1 (.rd 2 (.e1 3 [] (.e1 4 [] (.rd 5 (.rd 6 (.rd 7 (.rd 8 (.rd 9 (.rd 10 (.rd 11 (.rd 12 (.rd 13 (.rd 14 (.rd 15 (.rd 16 (.rd 17 (.e1 18 [13, 14, 15] (.rd 19 (.rd 20 (.nil)))))))))))))))))))))) (by kernel_rfl) ?_
    iterate 3 (refine cw_rd rfl rfl rfl rfl rfl (fun K hK => ?_); go_wp2_with fail)
    refine cw_e1 rfl rfl (fun K hK => ?_)
    go_wp2_with fail
    refine ⟨fl_none, ?_⟩
    refine cw_e1 rfl rfl (fun K hK => ?_)
    go_wp2_with (first
      | (go_at_call 31; refine hth.out.mono ?_; rintro _ w1 ⟨rfl, hE1⟩))
    refine ⟨fl_none, ?_⟩
    have hE : Ext w w1 := (((Touch.refl _ w).drew).alloc _).then_ext hE1
    iterate 10 (refine cw_rd rfl rfl rfl rfl rfl (fun K hK => ?_); go_wp2_with fail)
    (refine cw_rd rfl rfl rfl rfl rfl (fun K hK => ?_); refine op_load1 rfl rfl Try.ag52 (hE.cell f2.out (fun h => h)) ?_; refine hK _ ?_; clear hK K)
    iterate 2 (refine cw_rd rfl rfl rfl rfl rfl (fun K hK => ?_); go_wp2_with fail)
    refine cw_e1 rfl rfl (fun K hK => ?_)
    go_wp2_with (first
      | (go_at_call 34; refine (hl'.out _).mono ?_; rintro _ w2 ⟨rfl, hE2⟩))
    have hEw : Ext w w2 := hE.then_ext hE2
    refine ⟨?_, ?_⟩
    · (repeat (first | exact fl_nil | refine fl_skip rfl ?_ | (refine fl_take rfl ?_ ?_; (first | exact yldI_load1 rfl rfl rfl rfl Try.ag52 (hEw.cell f2.out (fun h => h)) | (refine yldI_of rfl rfl ?_; go_simp)))))
    (refine cw_rd rfl rfl rfl rfl rfl (fun K hK => ?_); refine op_lookup_hit (k := pairV (min fr to) (max fr to)) rfl rfl rfl Try.k66 Try.underlying52 (hm.keep hEw (fun h => h)) hk.out hhit.out ?_; refine hK _ ?_; clear hK K)
    iterate 1 (refine cw_rd rfl rfl rfl rfl rfl (fun K hK => ?_); go_wp2_with fail)
    refine cw_nil ?_
    go_wp2_with fail
    go_ret
    exact ⟨rfl, AddPost.of_ext h hEw⟩
  · have hmiss := Lib.hid (cut_miss hmok wf.sym hoff)
    have hfirst := Lib.hid (fun W (hE : Ext w W) (stay : Bool) => first_none (stay := stay) (h.ext hE) ha hb hq)
    clear hok hl hmok ha hb hne hoff hq
    cases lost <;> cases again
    all_goals
      unfold ptr at hth hin hqs hfirst ⊢
      go_enter Try.func17, Try.ntmps17
      go_wp2_with fail
      refine wp_region_rt (by kernel_rfl) [0, 0, 0, 6, 15, 31, 63, 127, 127, 511, 1023, 2047, 4095, 8191, 16383, 32767, 4095, 4095, 200703, 524287, 1048575] (.rd 0 (.rd 1 (.rd 2 (.e1 3 [] (.e1 4 [] (.rd 5 (.rd 6 (.rd 7 (.rd 8 (.rd 9 (.rd 10 (.rd 11 (.rd 12 (.rd 13 (.rd 14 (.rd 15 (.rd 16 (.rd 17 (.e1 18 [13, 14, 15] (.rd 19 (.rd 20 (.nil)))))))))))))))))))))) (by kernel_rfl) ?_
      iterate 3 (refine cw_rd rfl rfl rfl rfl rfl (fun K hK => ?_); go_wp2_with fail)
      refine cw_e1 rfl rfl (fun K hK => ?_)
      go_wp2_with fail
      refine ⟨fl_none, ?_⟩
      refine cw_e1 rfl rfl (fun K hK => ?_)
      go_wp2_with (first
        | (go_at_call 31; refine hth.out.mono ?_; rintro _ w1 ⟨rfl, hE1⟩))
      refine ⟨fl_none, ?_⟩
      have hE : Ext w w1 := (((Touch.refl _ w).drew).alloc _).then_ext hE1
      iterate 10 (refine cw_rd rfl rfl rfl rfl rfl (fun K hK => ?_); go_wp2_with fail)
      (refine cw_rd rfl rfl rfl rfl rfl (fun K hK => ?_); refine op_load1 rfl rfl Try.ag52 (hE.cell f2.out (fun h => h)) ?_; refine hK _ ?_; clear hK K)
      iterate 2 (refine cw_rd rfl rfl rfl rfl rfl (fun K hK => ?_); go_wp2_with fail)
      refine cw_e1 rfl rfl (fun K hK => ?_)
      go_wp2_with (first
        | (go_at_call 34; refine (hl'.out _).mono ?_; rintro _ w2 ⟨rfl, hE2⟩))
      have hEw : Ext w w2 := hE.then_ext hE2
      refine ⟨?_, ?_⟩
      · (repeat (first | exact fl_nil | refine fl_skip rfl ?_ | (refine fl_take rfl ?_ ?_; (first | exact yldI_load1 rfl rfl rfl rfl Try.ag52 (hEw.cell f2.out (fun h => h)) | (refine yldI_of rfl rfl ?_; go_simp)))))
      (refine cw_rd rfl rfl rfl rfl rfl (fun K hK => ?_); refine op_lookup_miss (k := pairV (min fr to) (max fr to)) rfl rfl rfl Try.k66 Try.underlying52 (hm.keep hEw (fun h => h)) Try.z4 hk.out hmiss.out ?_; refine hK _ ?_; clear hK K)
      iterate 1 (refine cw_rd rfl rfl rfl rfl rfl (fun K hK => ?_); go_wp2_with fail)
      refine cw_nil ?_
      go_wp2_with (first
        | ((with_reducible change wpList _ _ _ (Oper.mk _ (Op.load _ _) _ _ _ _ :: _) _ _); refine BigFrame.wpList_want rfl (fun K hK => ?_); refine op_load1 rfl rfl Try.ag51 (hEw.cell f1.out (fun h => h)) ?_; refine hK _ _ ?_; clear hK K)
        | ((with_reducible change wpList _ _ _ (Oper.mk _ (Op.lookup _ _ _ _) _ _ _ _ :: _) _ _); refine BigFrame.wpList_want rfl (fun K hK => ?_); refine op_lookup_hit (k := pairV fr to) rfl rfl rfl Try.k66 Try.underlying51 (hqs.keep hEw (fun h => h)) hk2.out hin.out ?_; refine hK _ _ ?_; clear hK K)
        | (go_at_call 37; refine (hfirst.out w2 hEw _).mono ?_; unfold zeroMsg; rintro _ w3 ⟨rfl, hE3⟩))
      go_ret
      exact ⟨rfl, AddPost.of_ext h ((hEw.then_ext hE3).alloc _)⟩

theorem deliver_contract {w : World} {p : Nat} {L : Lay} {S : NetS} (h : NetAt w p L S) (wf : Wf S) (fr to : Nat) (lost again : Bool) (hfr6 : fr ≤ 1000) (hto6 : to ≤ 1000) :
    Calls Try.prog 17 #[ptr p, .int .i64 fr, .int .i64 to, .bool lost, .bool again] w fun e w' => DelivPost w p L S fr to lost again e w' := by
  unfold DelivPost
  cases hok : S.okB fr to with
  | false =>
    have h1 : S.deliverC fr to = false := by unfold NetS.deliverC; rw [hok]; rfl
    have h2 : S.deliver fr to lost again = S := by unfold NetS.deliver; rw [hok]; rfl
    rw [h1, h2]
    exact deliver_bad h fr to lost again hok
  | true =>
    cases hoff : S.off fr to with
    | true =>
      have h1 : S.deliverC fr to = false := by unfold NetS.deliverC; rw [hok, hoff]; rfl
      have h2 : S.deliver fr to lost again = S := by unfold NetS.deliver; rw [if_pos hok, if_pos hoff]
      rw [h1, h2]
      exact deliver_off h wf fr to lost again hfr6 hto6 hok (.inl hoff)
    | false =>
      cases hq : S.queues fr to with
      | nil =>
        have h1 : S.deliverC fr to = false := by unfold NetS.deliverC; rw [hok, hoff, hq]; rfl
        have h2 : S.deliver fr to lost again = S := by unfold NetS.deliver; rw [if_pos hok, if_neg (by rw [hoff]; simp), hq]
        rw [h1, h2]
        exact deliver_off h wf fr to lost again hfr6 hto6 hok (.inr ⟨hoff, hq⟩)
      | cons m ms =>
        have hok' := hok
        unfold NetS.okB at hok'
        simp only [Bool.and_eq_true, Bool.not_eq_true', decide_eq_true_eq, decide_eq_false_iff_not] at hok'
        obtain ⟨⟨ha, hb⟩, hne⟩ := hok'
        have h1 : S.deliverC fr to = true := by unfold NetS.deliverC; rw [hok, hoff, hq]; rfl
        have hm := wf.msg fr to ha hb m (by rw [hq]; simp)
        have h100 : (S.queues fr to).length ≤ 200 := by have := wf.qlen fr to ha hb; omega
        have h2 : S.deliver fr to lost again = if lost then (if again && !lost then S else S.pop fr to) else (if again && !lost then S else S.pop fr to).recv fr to m := by
          unfold NetS.deliver; rw [if_pos hok, if_neg (by rw [hoff]; simp), hq]
          cases lost <;> cases again <;> rfl
        rw [h1, h2]
        have hml : m.texts.length ≤ 1000 := Nat.le_trans (nodup_length _ _ hm.1 hm.2.1) wf.all
        refine deliver_go h wf (S1 := if again && !lost then S else S.pop fr to) ?_ ?_ fr to lost again hfr6 hto6 m hok hoff ?_ hml ?_
        · split
          · exact wf
          · exact wf.pop fr to
        · split <;> rfl
        · split
          · exact hm.2.1
          · exact hm.2.1
        · intro W hE
          cases hst : (again && !lost) with
          | true => exact first_stay (h.ext hE) ha hb hq h100
          | false => exact first_pop (h.ext hE) ha hb hq h100
end Go.Proofs.Ytcipfpebjeakfaa
