/-
  Contract: Send.
-/
import Derived.Test.YtcipfpebjeakfaaNetH
namespace Go.Proofs.Ytcipfpebjeakfaa
open Go Go.RowKit Go.WideMaps
open Go.Maps (Keyed)

section
variable {P : Program} {ops : Array Oper} {a : Act} {w : World}
theorem yldI_len {i : Nat} {o : Oper} {t E : TypeId} {x : Operand} {v : Value} {xs : List Value} {size n : Nat} (ho : nth ops.toList i = some o) (hg : Region.wanted o (yielded ops a.tmps) = true)
    (hop : o.op = .call { callee := .builtin .len, args := #[x], argTypes := #[t] }) (hx : a.eval x = v) (ht : P.underlying t = some (.slice E)) (hrow : Row w E size v xs) (hsz : 0 < size) (hn : xs.length = n * size) :
    YldI P ops i (.int .i64 n) a w := by
  obtain ⟨ad, c, rfl, _, _⟩ := hrow.len hsz hn
  refine yldI_of ho hg ?_
  have he : execOp a.eval o = (do pure (.value (← Builtin.len_ #[t] o.type #[.slice ad n c]))) := by
    rw [execOp_builtin1 hop, ← hx]
    simp only [List.map_toArray, List.map_cons, List.map_nil]
    rfl
  rw [he]
  simp [Builtin.len_, run_underlying ht, goInt]
end

attribute [local irreducible] World.cell? World.frozen? isAggB _root_.Go.Program.underlying

theorem cut_hit {n : Nat} {off : Nat → Nat → Bool} {m : List (Value × Value)} (h : CutOk n off m) (hs : ∀ i j, off i j = off j i) {a b : Nat} (ha : a < n) (hb : b < n) (hne : a ≠ b) (ho : off a b = true) : (pairV (min a b) (max a b), Value.bool true) ∈ m := by
  have h1 : pairV (min a b) (max a b) ∈ m.map (·.1) := by
    refine h.2 _ _ (by omega) (by omega) ?_
    rcases Nat.lt_or_ge a b with hl | hl
    · rw [Nat.min_eq_left (by omega), Nat.max_eq_right (by omega)]; exact ho
    · rw [Nat.min_eq_right (by omega), Nat.max_eq_left (by omega), hs]; exact ho
  obtain ⟨⟨k, v⟩, hk, he⟩ := List.mem_map.1 h1
  simp only at he
  subst he
  rw [(h.1 _ _ hk).1] at hk
  exact hk
theorem cut_miss {n : Nat} {off : Nat → Nat → Bool} {m : List (Value × Value)} (h : CutOk n off m) (hs : ∀ i j, off i j = off j i) {a b : Nat} (ho : off a b = false) : pairV (min a b) (max a b) ∉ m.map (·.1) := by
  intro hin
  obtain ⟨⟨k, v⟩, hk, he⟩ := List.mem_map.1 hin
  simp only at he
  subst he
  obtain ⟨_, i, j, h2, h3, h4, h5⟩ := h.1 _ _ hk
  obtain ⟨e1, e2⟩ := pairV_inj h4
  rw [← e1, ← e2] at h5
  rcases Nat.lt_or_ge a b with hl | hl
  · rw [Nat.min_eq_left (by omega), Nat.max_eq_right (by omega), ho] at h5; cases h5
  · rw [Nat.min_eq_right (by omega), Nat.max_eq_left (by omega), hs, ho] at h5; cases h5
theorem pairs_mem {n a b : Nat} (ha : a < n) (hb : b < n) : (a, b) ∈ pairs n := by
  unfold pairs
  simp [ha, hb]
theorem queue_in {L : Lay} {n a b : Nat} (ha : a < n) (hb : b < n) : (pairV a b, ptr (L.qcell a b)) ∈ (pairs n).map fun p => (pairV p.1 p.2, ptr (L.qcell p.1 p.2)) :=
  List.mem_map.2 ⟨(a, b), pairs_mem ha hb, rfl⟩

def NetS.msg (S : NetS) (a b : Nat) : Msg := ⟨S.lacks a b, (S.texts a).length, S.heard a b⟩
def NetS.send (S : NetS) (a b : Nat) : NetS := if S.okB a b then (if S.off a b then S else S.push a b (S.msg a b)) else S
def NetS.sendC (S : NetS) (a b : Nat) : Int := if S.okB a b then (if S.off a b then 28 else 0) else 1

set_option maxRecDepth 100000 in
set_option maxHeartbeats 1000000 in
theorem send_contract {w : World} {p : Nat} {L : Lay} {S : NetS} (h : NetAt w p L S) (wf : Wf S) (a b : Nat) (ha6 : a ≤ 1000) (hb6 : b ≤ 1000) (hq : ∀ i j, i < S.n → j < S.n → (S.queues i j).length ≤ 99) :
    Calls Try.prog 15 #[ptr p, .int .i64 a, .int .i64 b] w fun e w' => e = .returned (.int .i64 (S.sendC a b)) ∧ AddPost w.heap.size w p L (S.send a b) w' := by
  have hth := Lib.hid (there_contract (h.alloc (.cells #[.int .i64 a, .int .i64 b] 3)) [(a : Int), (b : Int)] (.slice (some ⟨w.heap.size, 0, none⟩) 2 2) (by simp) (Row.new w 3 [.int .i64 a, .int .i64 b] (by simp) (by simp)))
  rw [there2_iff] at hth
  by_cases hok : S.okB a b = true
  · have hok' := hok
    unfold NetS.okB at hok'
    simp only [Bool.and_eq_true, Bool.not_eq_true', decide_eq_true_eq, decide_eq_false_iff_not] at hok'
    obtain ⟨⟨ha, hb⟩, hne⟩ := hok'
    rw [decide_eq_true ha, decide_eq_true hb] at hth
    have hne' : ((a : Int) == (b : Int)) = false := by simp; omega
    have hb8 : (b : Int) < 8 := by have := wf.n8; omega
    have f0 := Lib.hid (show w.cell? ⟨p, 0, none⟩ = some L.nodes from h.net.cell (i := 0) rfl)
    have f1 := Lib.hid (show w.cell? ⟨p, 1, none⟩ = some (.map (some L.queues)) from h.net.cell (i := 1) rfl)
    have f2 := Lib.hid (show w.cell? ⟨p, 2, none⟩ = some (.map (some L.cut)) from h.net.cell (i := 2) rfl)
    have hl := fun W => line_contract a b (min a b) (max a b) W (by omega) (by omega) rfl rfl
    have hl' := Lib.hid hl
    have hk := Lib.hid (key66 (min a b) (max a b) (by omega) (by omega))
    have hk2 := Lib.hid (key66 a b (by omega) (by omega))
    have hin := Lib.hid (queue_in (L := L) ha hb)
    have hqs := h.queues
    obtain ⟨m, hm, hmok⟩ := h.cut
    have ha' := Lib.hid ha
    have hb' := Lib.hid hb
    have hne'' := Lib.hid hne
    cases hoff : S.off a b with
    | true =>
      have hcode : S.sendC a b = 28 := by unfold NetS.sendC; rw [if_pos hok, hoff]; rfl
      have hsend : S.send a b = S := by unfold NetS.send; rw [if_pos hok, hoff]; rfl
      rw [hcode, hsend]
      have hhit := Lib.hid (cut_hit hmok wf.sym ha hb hne hoff)
      clear hcode hsend hok hl hmok ha hb hne hoff
      unfold ptr at hth hin hqs ⊢
      go_enter Try.func15, Try.ntmps15
      go_wp2_with (first
        | (go_at_call 31; refine hth.out.mono ?_; rintro _ w1 ⟨rfl, hE1⟩; have hE := (Ext.alloc w (.cells #[.int .i64 a, .int .i64 b] 3)).then_ext hE1; have h1 := h.ext hE)
        | ((with_reducible change wpList _ _ _ (Oper.mk _ (Op.load _ _) _ _ _ _ :: _) _ _); refine BigFrame.wpList_want rfl (fun K hK => ?_); refine op_load1 rfl rfl Try.ag51 (hE.cell f1.out (fun h => h)) ?_; refine hK _ _ ?_; clear hK K)
        | ((with_reducible change wpList _ _ _ (Oper.mk _ (Op.lookup _ _ _ _) _ _ _ _ :: _) _ _); refine BigFrame.wpList_want rfl (fun K hK => ?_); refine op_lookup_hit (k := pairV a b) rfl rfl rfl Try.k66 Try.underlying51 (hqs.keep hE (fun h => h)) hk2.out hin.out ?_; refine hK _ _ ?_; clear hK K))
      refine wp_region_rt (by kernel_rfl) [0, 1, 3, 7, 0, 0, 48, 127, 255] (.rd 0 (.rd 1 (.rd 2 (.rd 3 (.rd 4 (.rd 5 (.e1 6 [1, 2, 3] (.rd 7 (.rd 8 (.nil)))))))))) (by kernel_rfl) ?_
      iterate 3 (refine cw_rd rfl rfl rfl rfl rfl (fun K hK => ?_); go_wp2_with fail)
      (refine cw_rd rfl rfl rfl rfl rfl (fun K hK => ?_); refine op_load1 rfl rfl Try.ag52 (cell_drew (hE.cell f2.out (fun h => h))) ?_; refine hK _ ?_; clear hK K)
      iterate 2 (refine cw_rd rfl rfl rfl rfl rfl (fun K hK => ?_); go_wp2_with fail)
      refine cw_e1 rfl rfl (fun K hK => ?_)
      go_wp2_with (first
        | (go_at_call 34; refine (hl'.out _).mono ?_; rintro _ w2 ⟨rfl, hE2⟩))
      have hEw : Ext w w2 := hE.drew.then_ext hE2
      refine ⟨?_, ?_⟩
      · (repeat (first | exact fl_nil | refine fl_skip rfl ?_ | (refine fl_take rfl ?_ ?_; (first | exact yldI_load1 rfl rfl rfl rfl Try.ag52 (hEw.cell f2.out (fun h => h)) | (refine yldI_of rfl rfl ?_; go_simp)))))
      (refine cw_rd rfl rfl rfl rfl rfl (fun K hK => ?_); refine op_lookup_hit (k := pairV (min a b) (max a b)) rfl rfl rfl Try.k66 Try.underlying52 (hm.keep hEw (fun h => h)) hk.out hhit.out ?_; refine hK _ ?_; clear hK K)
      iterate 1 (refine cw_rd rfl rfl rfl rfl rfl (fun K hK => ?_); go_wp2_with fail)
      refine cw_nil ?_
      go_wp2_with fail
      go_ret
      exact ⟨rfl, AddPost.of_ext h hEw⟩
    | false =>
      have hcode : S.sendC a b = 0 := by unfold NetS.sendC; rw [if_pos hok, hoff]; rfl
      have hsend : S.send a b = S.push a b (S.msg a b) := by unfold NetS.send; rw [if_pos hok, hoff]; rfl
      rw [hcode, hsend]
      have hmiss := Lib.hid (cut_miss hmok wf.sym hoff)
      obtain ⟨c, hc, hn⟩ := h.node a ha
      have g1 := Lib.hid (hc.cell hn.2.1)
      have gp := Lib.hid (peer_cells hn hb hc)
      have gq := Lib.hid (show w.cell? ⟨L.qcell a b, 0, none⟩ = some (L.qv a b) from (h.qcell a b ha hb).cell (i := 0) rfl)
      have hlen := Lib.hid (show (a + 1) * 1 ≤ ((List.range S.n).map fun i => ptr (L.node i)).length from by simp; omega)
      have hel0 := Lib.hid (node_at L ha)
      have hqrow := h.qrow a b ha hb
      have hql := Lib.hid (show (msgCells (L.mv a b) (S.queues a b)).length = (S.queues a b).length * 3 from msgCells_length _ _ (h.mlen a b ha hb))
      have hq99 : (S.queues a b).length ≤ 99 := hq a b ha hb
      have hqne : (((S.queues a b).length : Int) == 100) = false := by rw [beq_eq_false_iff_ne]; omega
      have htrow := h.texts a ha
      have htl := Lib.hid (show ((S.texts a).map Value.string).length = (S.texts a).length * 1 from by simp)
      clear hcode hsend hok hl hmok ha hb hne hoff hc hn hq
      unfold ptr at hth hin hqs hel0 ⊢
      go_enter Try.func15, Try.ntmps15
      go_wp2_with (first
        | (go_at_call 31; refine hth.out.mono ?_; rintro _ w1 ⟨rfl, hE1⟩; have hE := (Ext.alloc w (.cells #[.int .i64 a, .int .i64 b] 3)).then_ext hE1; have h1 := h.ext hE)
        | ((with_reducible change wpList _ _ _ (Oper.mk _ (Op.load _ _) _ _ _ _ :: _) _ _); refine BigFrame.wpList_want rfl (fun K hK => ?_); refine op_load1 rfl rfl Try.ag51 (hE.cell f1.out (fun h => h)) ?_; refine hK _ _ ?_; clear hK K)
        | ((with_reducible change wpList _ _ _ (Oper.mk _ (Op.lookup _ _ _ _) _ _ _ _ :: _) _ _); refine BigFrame.wpList_want rfl (fun K hK => ?_); refine op_lookup_hit (k := pairV a b) rfl rfl rfl Try.k66 Try.underlying51 (hqs.keep hE (fun h => h)) hk2.out hin.out ?_; refine hK _ _ ?_; clear hK K))
      refine wp_region_rt (by kernel_rfl) [0, 1, 3, 7, 0, 0, 48, 127, 255] (.rd 0 (.rd 1 (.rd 2 (.rd 3 (.rd 4 (.rd 5 (.e1 6 [1, 2, 3] (.rd 7 (.rd 8 (.nil)))))))))) (by kernel_rfl) ?_
      iterate 3 (refine cw_rd rfl rfl rfl rfl rfl (fun K hK => ?_); go_wp2_with fail)
      (refine cw_rd rfl rfl rfl rfl rfl (fun K hK => ?_); refine op_load1 rfl rfl Try.ag52 (cell_drew (hE.cell f2.out (fun h => h))) ?_; refine hK _ ?_; clear hK K)
      iterate 2 (refine cw_rd rfl rfl rfl rfl rfl (fun K hK => ?_); go_wp2_with fail)
      refine cw_e1 rfl rfl (fun K hK => ?_)
      go_wp2_with (first
        | (go_at_call 34; refine (hl'.out _).mono ?_; rintro _ w2 ⟨rfl, hE2⟩))
      have hEw : Ext w w2 := hE.drew.then_ext hE2
      refine ⟨?_, ?_⟩
      · (repeat (first | exact fl_nil | refine fl_skip rfl ?_ | (refine fl_take rfl ?_ ?_; (first | exact yldI_load1 rfl rfl rfl rfl Try.ag52 (hEw.cell f2.out (fun h => h)) | (refine yldI_of rfl rfl ?_; go_simp)))))
      (refine cw_rd rfl rfl rfl rfl rfl (fun K hK => ?_); refine op_lookup_miss (k := pairV (min a b) (max a b)) rfl rfl rfl Try.k66 Try.underlying52 (hm.keep hEw (fun h => h)) Try.z4 hk.out hmiss.out ?_; refine hK _ ?_; clear hK K)
      iterate 1 (refine cw_rd rfl rfl rfl rfl rfl (fun K hK => ?_); go_wp2_with fail)
      refine cw_nil ?_
      have h2 := h.ext hEw
      go_wp2_with (first
        | ((with_reducible change wpList _ _ _ (Oper.mk _ (Op.load _ _) _ _ _ _ :: _) _ _); refine BigFrame.wpList_want rfl (fun K hK => ?_); refine op_load1 rfl rfl Try.ag63 (hEw.cell gq.out (fun h => h)) ?_; refine hK _ _ ?_; clear hK K)
        | ((with_reducible change wpList _ _ _ (Oper.mk _ (Op.call (Call.mk (Callee.builtin Builtin.len) _ _)) _ _ _ _ :: _) _ _); refine BigFrame.wpList_want rfl (fun K hK => ?_); refine op_len_row rfl rfl Try.underlying63 (hqrow.keep hEw (fun _ _ h => h)) (by omega) hql.out ?_; refine hK _ _ ?_; clear hK K)
        | ((with_reducible change wpList _ _ _ (Oper.mk _ (Op.load _ _) _ _ _ _ :: _) _ _); refine BigFrame.wpList_want rfl (fun K hK => ?_); refine op_load1 rfl rfl Try.ag53 (hEw.cell f0.out (fun h => h)) ?_; refine hK _ _ ?_; clear hK K)
        | ((with_reducible change wpList _ _ _ (Oper.mk _ (Op.indexAddr _ _ _) _ _ _ _ :: _) _ _); refine BigFrame.wpList_want rfl (fun K hK => ?_); refine op_index_row (i := a) rfl rfl rfl Try.underlying53 Try.szE56 h2.nodes hlen.out (by omega) ?_; intro g k cs hel; refine hK _ _ ?_; clear hK K)
        | ((with_reducible change wpList _ _ _ (Oper.mk _ (Op.load _ _) _ _ _ _ :: _) _ _); refine BigFrame.wpList_want rfl (fun K hK => ?_); refine op_load1 rfl rfl Try.ag56 (hel.cell (j := 0) (by omega) hel0.out) ?_; refine hK _ _ ?_; clear hK K))
      have hEd := hEw.drew
      have hlk := Lib.hid (lacks_contract (h.ext hEd) wf a b ha6 hb6)
      refine wp_region_rt (by kernel_rfl) [0, 0, 0, 0, 14, 0, 32, 96, 224, 480, 0, 0, 1024, 5120, 15360, 31744, 64512, 131070, 262143] (.rd 0 (.rd 1 (.rd 2 (.rd 3 (.rd 5 (.rd 6 (.rd 7 (.rd 8 (.rd 9 (.rd 10 (.rd 11 (.rd 12 (.rd 13 (.rd 14 (.rd 15 (.rd 16 (.e1 4 [6, 7, 8, 9, 12, 13, 14, 15, 16] (.rd 17 (.e1 18 [] (.nil)))))))))))))))))))) (by kernel_rfl) ?_
      iterate 7 (refine cw_rd rfl rfl rfl rfl rfl (fun K hK => ?_); go_wp2_with fail)
      (refine cw_rd rfl rfl rfl rfl rfl (fun K hK => ?_); refine op_load1 rfl rfl Try.ag39 (hEd.cell g1.out (fun h => h)) ?_; refine hK _ ?_; clear hK K)
      (refine cw_rd rfl rfl rfl rfl rfl (fun K hK => ?_); refine op_len_row rfl rfl Try.underlying39 (htrow.keep hEd (fun _ _ h => h)) (by omega) htl.out ?_; refine hK _ ?_; clear hK K)
      iterate 6 (refine cw_rd rfl rfl rfl rfl rfl (fun K hK => ?_); go_wp2_with fail)
      (refine cw_rd rfl rfl rfl rfl rfl (fun K hK => ?_); refine op_load1 rfl rfl Try.ag3 (hEd.cell (gp.out 0 _ rfl) (fun h => h)) ?_; refine hK _ ?_; clear hK K)
      refine cw_e1 rfl rfl (fun K hK => ?_)
      go_wp2_with (first
        | (go_at_call 24; refine hlk.out.mono ?_; rintro _ w3 ⟨mv, rfl, hr3, hE3, hf3⟩))
      have hr3' := hr3
      obtain ⟨ad3, n3, c3, rfl, -⟩ := hr3
      have hr3 := hr3'
      have hEx : Ext w w3 := hEd.then_ext hE3
      have hsz := hEw.size
      have h3 := h.ext hEx
      have hpush := Lib.hid (push_contract (B := w.heap.size) (m := S.msg a b) h3 ha'.out hb'.out hr3 (fun b' hb => by
        have := hf3 b' hb
        have hge : w.heap.size ≤ b' := Nat.le_trans hEd.size this
        exact ⟨h.fresh b' hge, hge⟩) hEx.size (by omega))
      refine ⟨?_, ?_⟩
      · (repeat (first | exact fl_nil | refine fl_skip rfl ?_ | (refine fl_take rfl ?_ ?_; (first | exact yldI_load1 rfl rfl rfl rfl Try.ag39 (hEx.cell g1.out (fun h => h)) | exact yldI_load1 rfl rfl rfl rfl Try.ag3 (hEx.cell (gp.out 0 _ rfl) (fun h => h)) | exact yldI_len rfl rfl rfl rfl Try.underlying39 (htrow.keep hEx (fun _ _ h => h)) (by omega) htl.out | (refine yldI_of rfl rfl ?_; go_simp)))))
      iterate 1 (refine cw_rd rfl rfl rfl rfl rfl (fun K hK => ?_); go_wp2_with fail)
      refine cw_e1 rfl rfl (fun K hK => ?_)
      unfold ptr at hpush
      go_wp2_with (first
        | (go_at_call 35; refine hpush.out.mono ?_; rintro _ w4 ⟨rfl, hpost⟩))
      refine ⟨fl_none, ?_⟩
      refine cw_nil ?_
      go_wp2_with fail
      go_ret
      exact ⟨rfl, AddPost.after (LayTo.same (Nat.le_refl _) hEx fun _ _ h => h.elim) hpost (Nat.le_refl _)⟩
  · have hf : S.okB a b = false := by simpa using hok
    have hcode : S.sendC a b = 1 := by unfold NetS.sendC; rw [hf]; rfl
    have hcut : S.send a b = S := by unfold NetS.send; rw [hf]; rfl
    rw [hcode, hcut]
    by_cases hab : a < S.n ∧ b < S.n
    · have heq : ((a : Int) == (b : Int)) = true := by
        have : a = b := by
          unfold NetS.okB at hf
          rw [decide_eq_true hab.1, decide_eq_true hab.2] at hf
          simpa using hf
        simp [this]
      rw [decide_eq_true hab.1, decide_eq_true hab.2] at hth
      clear hok hab hf hcode hcut
      unfold ptr at hth ⊢
      go_enter Try.func15, Try.ntmps15
      go_wp2_with (first
        | (go_at_call 31; refine hth.out.mono ?_; rintro _ w1 ⟨rfl, hE1⟩))
      go_ret
      exact ⟨rfl, AddPost.of_ext h ((Ext.alloc w _).then_ext hE1)⟩
    · have hf2 : (decide (a < S.n) && decide (b < S.n)) = false := by
        by_cases h1 : a < S.n <;> by_cases h2 : b < S.n <;> simp_all
      rw [hf2] at hth
      clear hok hab hf hf2 hcode hcut
      unfold ptr at hth ⊢
      go_enter Try.func15, Try.ntmps15
      go_wp2_with (first
        | (go_at_call 31; refine hth.out.mono ?_; rintro _ w1 ⟨rfl, hE1⟩))
      go_ret
      exact ⟨rfl, AddPost.of_ext h ((Ext.alloc w _).then_ext hE1)⟩
end Go.Proofs.Ytcipfpebjeakfaa
