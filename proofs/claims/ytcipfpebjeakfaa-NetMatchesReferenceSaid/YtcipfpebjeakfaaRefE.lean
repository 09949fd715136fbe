/-
  Contract of the reference: Send.
-/
import Derived.Test.YtcipfpebjeakfaaRefD
namespace Go.Proofs.Ytcipfpebjeakfaa
open Go Go.RowKit Go.WideMaps

section
variable {P : Program} {o : Oper} {a : Act} {w : World} {K : Act → World → Prop} {Q : Exit → Act → World → Prop} {t : TypeId} {z : Value}
theorem op_alloc (ho : o.op = .alloc t) (hz : (P.info? t).bind (·.zero) = some z)
    (h : ∀ g w', Blk w' g t z.cells → w.heap.size ≤ g → Ext w w' → K (a.put o.dst (.pointer (some ⟨g, 0, none⟩))) w') : o.wp P a w K Q := by
  refine op_run (Instr.alloc t true (.tuple #[])) _ (w.alloc (.cells z.cells t)) ?_ ?_ (h _ _ (obj_new w _) (Nat.le_refl _) (Ext.alloc w _))
  · obtain ⟨dst, op, type, pos, after, guard⟩ := o; cases ho; rfl
  · cases hi : P.info? t with
    | none => rw [hi] at hz; cases hz
    | some i =>
      rw [hi] at hz
      simp only [Option.bind_some] at hz
      simp [Instr.alloc, zeroValue, typeInfo, hi, hz, newVar, newRow]
end

theorem run_len {P : Program} {o : Oper} {a : Act} {w : World} {t E : TypeId} {x : Operand} {v : Value} {xs : List Value} {size n : Nat} (hop : o.op = .call { callee := .builtin .len, args := #[x], argTypes := #[t] }) (hx : a.eval x = v) (ht : P.underlying t = some (.slice E)) (hrow : Row w E size v xs) (hsz : 0 < size) (hn : xs.length = n * size) :
    (execOp a.eval o).run P w = .ok (.value (.int .i64 n)) w := by
  obtain ⟨ad, c, rfl, _, _⟩ := hrow.len hsz hn
  have he : execOp a.eval o = (do pure (.value (← Builtin.len_ #[t] o.type #[.slice ad n c]))) := by
    rw [execOp_builtin1 hop, ← hx]
    simp only [List.map_toArray, List.map_cons, List.map_nil]
    rfl
  rw [he]
  simp [Builtin.len_, run_underlying ht, goInt]

theorem run_ldN {P : Program} {o : Oper} {a : Act} {w : World} {t : TypeId} {x : Operand} {p : Addr} {vs : List Value} (hop : o.op = .load t x) (hx : a.eval x = .pointer (some p)) (ht : isAggB P t = some true)
    (hs : (P.info? t).map (·.size) = some vs.length) (hc : ∀ j v, vs[j]? = some v → w.cell? (p.add j) = some v) : (execOp a.eval o).run P w = .ok (.value (.agg vs.toArray)) w := by
  rw [execOp_load hop, hx]; simp [run_loadN ht hs hc]
theorem OwnR.since {w w2 W : World} {E : TypeId} {size : Nat} {v : Value} {xs : List Value} (h : OwnR w2 W E size v xs) (hE : Ext w w2) : OwnR w W E size v xs := ⟨h.row, fun b hb => Nat.le_trans hE.size (h.new b hb), hE.then_ext h.ext⟩
theorem msgCells_one : ∀ (vs : List Value) (ms : List Msg), (∀ v ∈ vs, v.oneCell' = true) → ∀ u ∈ msgCells vs ms, u.oneCell' = true
  | [], _, _, u, hu => by simp [msgCells] at hu
  | _ :: _, [], _, u, hu => by simp [msgCells] at hu
  | v :: vs, m :: ms, h, u, hu => by
    simp only [msgCells, List.mem_cons] at hu
    rcases hu with rfl | rfl | rfl | hu
    · exact h _ (by simp)
    · rfl
    · rfl
    · exact msgCells_one vs ms (fun v hv => h v (by simp [hv])) u hu

theorem Try.z87 : (Try.prog.info? 87).bind (·.zero) = some (.agg #[.slice none 0 0, .int .i64 0, .int .i64 0]) := by kernel_rfl
theorem Try.sz85 : (Try.prog.info? 85).map (·.size) = some 1 := by kernel_rfl
theorem Try.z74 : (Try.prog.info? 74).bind (·.zero) = some (.agg #[.slice none 0 0, .slice none 0 0, .slice none 0 0, .slice none 0 0]) := by kernel_rfl
theorem Try.in87 : (Try.prog.info? 87).map (fun i => (i.zero, i.size, i.bytes)) = some (some (.agg #[.slice none 0 0, .int .i64 0, .int .i64 0]), 3, 40) := by kernel_rfl

theorem msgVals_length (R : RLay) (i j n : Nat) : (msgVals R i j n).length = n := by simp [msgVals]
theorem Blk.storeAll {w' : World} {g : Nat} {t : TypeId} {cs : Array Value} {vs : List Value} (h : Blk w' g t (overw cs 0 vs)) (hl : vs.length = cs.size) : Blk w' g t vs.toArray := by
  have : overw cs 0 vs = vs.toArray := by
    apply Array.ext_getElem?
    intro i
    rw [overw_get cs vs 0 i (by omega)]
    by_cases hi : i < vs.length
    · rw [if_pos ⟨Nat.zero_le _, by omega⟩]; simp
    · rw [if_neg (by omega)]
      rw [Array.getElem?_eq_none (by omega), Array.getElem?_eq_none (by simpa using Nat.le_of_not_lt hi)]
  rw [this] at h
  exact h

attribute [local irreducible] World.cell? World.frozen? isAggB _root_.Go.Program.underlying

/-- One message more. -/
theorem RefPost.push {w W w' : World} {q : Nat} {R : RLay} {S : NetS} (h : RefAt w q R S) {i j : Nat} (hi : i < S.n) (hj : j < S.n) {v mv : Value} {m : Msg} (ho : OwnR w W 87 3 v (msgCells (msgVals R i j (S.queues i j).length) (S.queues i j) ++ [mv, .int .i64 m.length, .int .i64 m.heard]))
    (hm : Own w W mv m.texts) (ht : Touch (fun b => rowBlock (R.val (.qrow i)) = some b) W w') (hn : RowN w' 85 1 (R.val (.qrow i)) S.n (upd2 (fun j _ => R.val (.q i j)) j 0 v)) : RefPost w.heap.size w q R (S.push i j m) w' := by
  have h1 := h.ext ho.ext
  have nv : ∀ b, rowBlock v = some b → R.tag b = .oth := fun b hb => h.fresh b (ho.new b hb)
  have nm : ∀ b, rowBlock mv = some b → R.tag b = .oth := fun b hb => h.fresh b (hm.new b hb)
  have ap : ∀ b, R.tag b = .oth → ¬ rowBlock (R.val (.qrow i)) = some b := fun b hb e => by
    have := h.tag (.qrow i) hi b e
    rw [hb] at this; simp [RowId.tagOf] at this
  have hrv := ho.row.keep ht fun b hb => ap b (nv b hb)
  have hrm := hm.row.keep ht fun b hb => ap b (nm b hb)
  have hlen : (S.queues i j ++ [m]).length = (S.queues i j).length + 1 := by simp
  have hcells : msgCells (msgVals R i j (S.queues i j).length) (S.queues i j) ++ [mv, .int .i64 m.length, .int .i64 m.heard] = msgCells ((List.range (S.queues i j ++ [m]).length).map fun k => if k < (S.queues i j).length then R.val (.msg i j k) else mv) (S.queues i j ++ [m]) := by
    rw [msgCells_app _ _ _ _ (msgVals_length _ _ _ _)]
    congr 1
    rw [hlen, List.range_succ, List.map_append]
    congr 1
    · unfold msgVals
      refine List.map_congr_left fun k hk => ?_
      rw [if_pos (List.mem_range.1 hk)]
    · simp
  rw [hcells] at hrv
  refine ⟨_, h1.setQ hi (u := mv) (mv := fun k => if k < (S.queues i j).length then R.val (.msg i j k) else mv) (ms := S.queues i j ++ [m]) ht hn hrv (fun k hk m' hm' => ?_) (fun b hb => hrm.lt hb) (fun b hb => .inl (nv b hb)) (fun b hb => .inl (nm b hb)) (fun k hk b hb => ?_),
    Nat.le_refl _, fun b hb => ?_, (Touch.of_ext ho.ext).trans ht fun b _ hb => .inr (.inr ⟨.qrow i, h.tag (.qrow i) hi b hb⟩)⟩
  · by_cases e : k < (S.queues i j).length
    · rw [if_pos e]
      rw [List.getElem?_append_left e] at hm'
      exact (h1.other (r0 := .qrow i) hi (r := .msg i j k) ⟨hi, hj, e⟩ ht (by simp [RowId.tagOf])) m' hm'
    · rw [if_neg e]
      have e2 : k = (S.queues i j).length := by omega
      subst e2
      rw [List.getElem?_append_right (Nat.le_refl _)] at hm'
      simp at hm'
      subst hm'
      exact hrm
  · by_cases e : k < (S.queues i j).length
    · simp only [if_pos e] at hb
      exact .inr (h.tag (.msg i j k) ⟨hi, hj, e⟩ b hb)
    · simp only [if_neg e] at hb
      exact .inl hb
  · show tagNew v (tagNew mv R.tag) b = R.tag b
    rw [tagNew_old fun e => by have := ho.new b e; omega, tagNew_old fun e => by have := hm.new b e; omega]

set_option maxRecDepth 100000 in
set_option maxHeartbeats 4000000 in
theorem send_ref {w : World} {q : Nat} {R : RLay} {S : NetS} (h : RefAt w q R S) (wf : Wf S) (a b : Nat) (ha6 : a ≤ 1000) (hb6 : b ≤ 1000) (hq99 : ∀ i j, (S.queues i j).length ≤ 99) :
    Calls Try.prog 16 #[ptr q, .int .i64 a, .int .i64 b] w fun e w' => e = .returned (.int .i64 (S.sendC a b)) ∧ RefPost w.heap.size w q R (S.send a b) w' := by
  have c1 := pair_ref h a b ha6 hb6
  cases hok : S.okB a b with
  | false =>
    have hcode : S.sendC a b = 1 := by unfold NetS.sendC; rw [hok]; rfl
    have hsend : S.send a b = S := by unfold NetS.send; rw [hok]; rfl
    rw [hok] at c1
    rw [hcode, hsend]
    clear hok hcode hsend
    go_enter Try.func16, Try.ntmps16
    ((first | go_at_call 36 | (go_wp2_with fail; go_at_call 36)); refine (c1).mono ?_; rintro _ _ ⟨rfl, rfl⟩)
    go_wp2_with fail
    go_ret
    exact ⟨rfl, RefPost.of_ext h (Touch.refl _ w)⟩
  | true =>
    obtain ⟨ha, hb, hne⟩ := NetS.okB_iff.1 hok
    rw [hok] at c1
    have f0 := Lib.hid h.f0
    have f1 := Lib.hid h.f1
    have f2 := Lib.hid h.f2
    have rO : RowN w 76 1 (R.val .off) S.n (fun i _ => R.val (.orow i)) := h.row .off trivial
    obtain ⟨ga, ka, hea⟩ := rO.elem ha (by omega)
    have hca := Lib.hid (RowN.one rO hea ha)
    have rA : RowN w 4 1 (R.val (.orow a)) S.n (fun j _ => .bool (S.off a j)) := h.row (.orow a) ha
    obtain ⟨gx, kx, hex⟩ := rA.elem hb (by omega)
    have hcx := Lib.hid (RowN.one rA hex hb)
    have hea' := Lib.hid hea
    have hex' := Lib.hid hex
    cases hoff : S.off a b with
    | true =>
      rw [hoff] at hcx
      have hcode : S.sendC a b = 28 := by unfold NetS.sendC; rw [if_pos hok, hoff]; rfl
      have hsend : S.send a b = S := by unfold NetS.send; rw [if_pos hok, hoff]; rfl
      rw [hcode, hsend]
      clear hcode hsend hok hea hex rO rA hoff
      go_enter Try.func16, Try.ntmps16
      ((first | go_at_call 36 | (go_wp2_with fail; go_at_call 36)); refine (c1).mono ?_; rintro _ _ ⟨rfl, rfl⟩)
      clear c1
      unfold ptr
      go_wp2_with (first
        | ((with_reducible change wpList _ _ _ (Oper.mk _ (Op.load _ _) _ _ _ _ :: _) _ _); refine BigFrame.wpList_want rfl (fun K hK => ?_); refine op_load1 rfl rfl Try.ag69 f2.out ?_; refine hK _ _ ?_; clear hK K)
        | ((with_reducible change wpList _ _ _ (Oper.mk _ (Op.indexAddr _ _ _) _ _ _ _ :: _) _ _); refine BigFrame.wpList_want rfl (fun K hK => ?_); refine op_elem rfl rfl rfl Try.underlying69 Try.szE76 hea'.out ?_; refine hK _ _ ?_; clear hK K)
        | ((with_reducible change wpList _ _ _ (Oper.mk _ (Op.load _ _) _ _ _ _ :: _) _ _); refine BigFrame.wpList_want rfl (fun K hK => ?_); refine op_load1 rfl rfl Try.ag76 hca.out ?_; refine hK _ _ ?_; clear hK K)
        | ((with_reducible change wpList _ _ _ (Oper.mk _ (Op.indexAddr _ _ _) _ _ _ _ :: _) _ _); refine BigFrame.wpList_want rfl (fun K hK => ?_); refine op_elem rfl rfl rfl Try.underlying76 Try.szE4 hex'.out ?_; refine hK _ _ ?_; clear hK K)
        | ((with_reducible change wpList _ _ _ (Oper.mk _ (Op.load _ _) _ _ _ _ :: _) _ _); refine BigFrame.wpList_want rfl (fun K hK => ?_); refine op_load1 rfl rfl Try.ag4 hcx.out ?_; refine hK _ _ ?_; clear hK K))
      go_ret
      exact ⟨rfl, RefPost.of_ext h (Touch.refl _ w)⟩
    | false =>
      rw [hoff] at hcx
      have hcode : S.sendC a b = 0 := by unfold NetS.sendC; rw [if_pos hok, hoff]; rfl
      have hsend := Lib.hid (show S.send a b = S.push a b (S.msg a b) from by unfold NetS.send; rw [if_pos hok, hoff]; rfl)
      rw [hcode]
      have rQ : RowN w 75 1 (R.val .queues) S.n (fun i _ => R.val (.qrow i)) := h.row .queues trivial
      obtain ⟨gq, kq, heq⟩ := rQ.elem ha (by omega)
      have hcq := Lib.hid (RowN.one rQ heq ha)
      have rB : RowN w 85 1 (R.val (.qrow a)) S.n (fun j _ => R.val (.q a j)) := h.row (.qrow a) ha
      obtain ⟨gz, kz, hez⟩ := rB.elem hb (by omega)
      have hcz := Lib.hid (RowN.one rB hez hb)
      have rM := h.row (.q a b) ⟨ha, hb⟩
      simp only [RowId.At] at rM
      have hql := Lib.hid (show (msgCells (msgVals R a b (S.queues a b).length) (S.queues a b)).length = (S.queues a b).length * 3 from msgCells_length _ _ (msgVals_length _ _ _ _))
      have hqq := hq99 a b
      have hqne : (((S.queues a b).length : Int) == 100) = false := by rw [beq_eq_false_iff_ne]; omega
      obtain ⟨g, k, he⟩ := h.nodeElem ha
      have hct := Lib.hid (show w.cell? ⟨g, k, none⟩ = some (R.val (.texts a)) from h.nodeCells ha he 0 _ rfl)
      have hch := Lib.hid (show w.cell? ⟨g, k + 1, none⟩ = some (R.val (.heard a)) from h.nodeCells ha he 1 _ rfl)
      have rH : RowN w 3 1 (R.val (.heard a)) S.n (fun j _ => .int .i64 (S.heard a j)) := h.row (.heard a) ha
      obtain ⟨gh, kh, heh⟩ := rH.elem hb (by omega)
      have hcc := Lib.hid (RowN.one rH heh hb)
      have rT := h.row (.texts a) ha
      simp only [RowId.At] at rT
      have htl := Lib.hid (show ((S.texts a).map Value.string).length = (S.texts a).length * 1 from by simp)
      have heq' := Lib.hid heq
      have hez' := Lib.hid hez
      have heh' := Lib.hid heh
      have he' := Lib.hid he
      have ha' := Lib.hid ha
      have hb' := Lib.hid hb
      have hhd : S.heard a b ≤ 1000 := wf.heard a b ha hb
      have htl2 : (S.texts a).length ≤ 1000 := wf.textsLen ha
      have c2 := fun W (hE : Ext w W) => lacks_ref (h.ext hE) wf a b ha6 hb6
      have c2 := Lib.hid c2
      clear hcode hok hea hex rO rA hoff heq hez heh he rQ rH ha hb hne hq99
      go_enter Try.func16, Try.ntmps16
      ((first | go_at_call 36 | (go_wp2_with fail; go_at_call 36)); refine (c1).mono ?_; rintro _ _ ⟨rfl, rfl⟩)
      clear c1
      unfold ptr at c2 ⊢
      go_upto_region 7 with (first
        | ((with_reducible change wpList _ _ _ (Oper.mk _ (Op.load _ _) _ _ _ _ :: _) _ _); refine BigFrame.wpList_want rfl (fun K hK => ?_); refine op_load1 rfl rfl Try.ag69 f2.out ?_; refine hK _ _ ?_; clear hK K)
        | ((with_reducible change wpList _ _ _ (Oper.mk _ (Op.indexAddr _ _ _) _ _ _ _ :: _) _ _); refine BigFrame.wpList_want rfl (fun K hK => ?_); refine op_elem rfl rfl rfl Try.underlying69 Try.szE76 hea'.out ?_; refine hK _ _ ?_; clear hK K)
        | ((with_reducible change wpList _ _ _ (Oper.mk _ (Op.load _ _) _ _ _ _ :: _) _ _); refine BigFrame.wpList_want rfl (fun K hK => ?_); refine op_load1 rfl rfl Try.ag76 hca.out ?_; refine hK _ _ ?_; clear hK K)
        | ((with_reducible change wpList _ _ _ (Oper.mk _ (Op.indexAddr _ _ _) _ _ _ _ :: _) _ _); refine BigFrame.wpList_want rfl (fun K hK => ?_); refine op_elem rfl rfl rfl Try.underlying76 Try.szE4 hex'.out ?_; refine hK _ _ ?_; clear hK K)
        | ((with_reducible change wpList _ _ _ (Oper.mk _ (Op.load _ _) _ _ _ _ :: _) _ _); refine BigFrame.wpList_want rfl (fun K hK => ?_); refine op_load1 rfl rfl Try.ag4 hcx.out ?_; refine hK _ _ ?_; clear hK K)
        | ((with_reducible change wpList _ _ _ (Oper.mk _ (Op.load _ _) _ _ _ _ :: _) _ _); refine BigFrame.wpList_want rfl (fun K hK => ?_); refine op_load1 rfl rfl Try.ag68 f1.out ?_; refine hK _ _ ?_; clear hK K)
        | ((with_reducible change wpList _ _ _ (Oper.mk _ (Op.indexAddr _ _ _) _ _ _ _ :: _) _ _); refine BigFrame.wpList_want rfl (fun K hK => ?_); refine op_elem rfl rfl rfl Try.underlying68 Try.szE75 heq'.out ?_; refine hK _ _ ?_; clear hK K)
        | ((with_reducible change wpList _ _ _ (Oper.mk _ (Op.load _ _) _ _ _ _ :: _) _ _); refine BigFrame.wpList_want rfl (fun K hK => ?_); refine op_load1 rfl rfl Try.ag75 hcq.out ?_; refine hK _ _ ?_; clear hK K)
        | ((with_reducible change wpList _ _ _ (Oper.mk _ (Op.indexAddr _ _ _) _ _ _ _ :: _) _ _); refine BigFrame.wpList_want rfl (fun K hK => ?_); refine op_elem rfl rfl rfl Try.underlying75 Try.szE85 hez'.out ?_; refine hK _ _ ?_; clear hK K)
        | ((with_reducible change wpList _ _ _ (Oper.mk _ (Op.load _ _) _ _ _ _ :: _) _ _); refine BigFrame.wpList_want rfl (fun K hK => ?_); refine op_load1 rfl rfl Try.ag85 hcz.out ?_; refine hK _ _ ?_; clear hK K)
        | ((with_reducible change wpList _ _ _ (Oper.mk _ (Op.call (Call.mk (Callee.builtin Builtin.len) _ _)) _ _ _ _ :: _) _ _); refine BigFrame.wpList_want rfl (fun K hK => ?_); refine op_len_row rfl rfl Try.underlying85 rM (by omega) hql.out ?_; refine hK _ _ ?_; clear hK K))
      go_cut [7] from 8 (fun u W => ∃ gm ad n c, u = .pointer (some ⟨gm, 0, none⟩) ∧ Blk W gm 87 #[.slice ad n c, .int .i64 (S.texts a).length, .int .i64 (S.heard a b)] ∧ Own w W (.slice ad n c) (S.lacks a b))
      case first =>
        have hone : ∀ ad n c, ∀ u ∈ [Value.slice ad n c, .int .i64 (S.texts a).length, .int .i64 (S.heard a b)], u.oneCell' = true := fun ad n c u hu => by
          simp only [List.mem_cons, List.not_mem_nil, or_false] at hu
          rcases hu with rfl | rfl | rfl <;> rfl
        replace hone := Lib.hid hone
        refine wp_region_rt (by kernel_rfl) [0, 0, 0, 7, 0, 16, 48, 112, 0, 496, 1008, 2032, 4080, 0, 8192, 24576, 57344, 0, 253952, 516096, 1040384, 0, 4186112, 8380416, 16777215, 0, 67108863] (.rd 0 (.rd 1 (.rd 2 (.rd 4 (.rd 5 (.rd 6 (.rd 7 (.rd 8 (.rd 9 (.rd 10 (.rd 11 (.rd 12 (.rd 13 (.rd 14 (.rd 15 (.rd 16 (.rd 17 (.rd 18 (.rd 19 (.rd 20 (.rd 21 (.rd 22 (.rd 23 (.e2 3 [5, 6, 7, 9, 10, 11, 12, 14, 15, 16, 18, 19, 20, 22, 23] (.rd 24 (.e1 25 [5, 6, 7, 9, 10, 11, 12, 14, 15, 16, 18, 19, 20, 22, 23, 24] (.e1 26 [] (.nil)))) 25 [5, 6, 7, 9, 10, 11, 12, 14, 15, 16, 18, 19, 20, 22, 23] (.e1 3 [5, 6, 7, 9, 10, 11, 12, 14, 15, 16, 18, 19, 20, 22, 23] (.rd 24 (.e1 26 [] (.nil)))))))))))))))))))))))))))) (by kernel_rfl) ?_
        iterate 6 (refine cw_rd rfl rfl rfl rfl rfl (fun K hK => ?_); go_wp2_with fail)
        (refine cw_rd rfl rfl rfl rfl rfl (fun K hK => ?_); refine op_load1 rfl rfl Try.ag67 (cell_drew f0.out) ?_; refine op_norm rfl ?_; go_wp2_with fail)
        iterate 1 (refine cw_rd rfl rfl rfl rfl rfl (fun K hK => ?_); go_wp2_with fail)
        (refine cw_rd rfl rfl rfl rfl rfl (fun K hK => ?_); refine op_elem rfl rfl rfl Try.underlying67 Try.szE74 he'.out ?_; refine op_norm rfl ?_; go_wp2_with fail)
        iterate 1 (refine cw_rd rfl rfl rfl rfl rfl (fun K hK => ?_); go_wp2_with fail)
        (refine cw_rd rfl rfl rfl rfl rfl (fun K hK => ?_); refine op_load1 rfl rfl Try.ag39 (cell_drew hct.out) ?_; refine op_norm rfl ?_; go_wp2_with fail)
        (refine cw_rd rfl rfl rfl rfl rfl (fun K hK => ?_); refine op_len_row rfl rfl Try.underlying39 rT.drew (by omega) htl.out ?_; refine op_norm rfl ?_; go_wp2_with fail)
        iterate 3 (refine cw_rd rfl rfl rfl rfl rfl (fun K hK => ?_); go_wp2_with fail)
        (refine cw_rd rfl rfl rfl rfl rfl (fun K hK => ?_); refine op_load1 rfl rfl Try.ag67 (cell_drew f0.out) ?_; refine op_norm rfl ?_; go_wp2_with fail)
        iterate 1 (refine cw_rd rfl rfl rfl rfl rfl (fun K hK => ?_); go_wp2_with fail)
        (refine cw_rd rfl rfl rfl rfl rfl (fun K hK => ?_); refine op_elem rfl rfl rfl Try.underlying67 Try.szE74 he'.out ?_; refine op_norm rfl ?_; go_wp2_with fail)
        iterate 1 (refine cw_rd rfl rfl rfl rfl rfl (fun K hK => ?_); go_wp2_with fail)
        (refine cw_rd rfl rfl rfl rfl rfl (fun K hK => ?_); refine op_load1 rfl rfl Try.ag72 (cell_drew hch.out) ?_; refine op_norm rfl ?_; go_wp2_with fail)
        iterate 1 (refine cw_rd rfl rfl rfl rfl rfl (fun K hK => ?_); go_wp2_with fail)
        (refine cw_rd rfl rfl rfl rfl rfl (fun K hK => ?_); refine op_elem rfl rfl rfl Try.underlying72 Try.szE3' heh'.out ?_; refine op_norm rfl ?_; go_wp2_with fail)
        (refine cw_rd rfl rfl rfl rfl rfl (fun K hK => ?_); refine op_load1 rfl rfl Try.ag3 (cell_drew hcc.out) ?_; refine op_norm rfl ?_; go_wp2_with fail)
        have hE : Ext w w.drew := (Touch.refl _ w).drew
        refine cw_e2 ?_ ?_
        · have c3 := c2.out _ hE
          refine cw_e1 rfl rfl (fun K hK => ?_)
          go_wp2_with (first | (go_at_call 25; refine c3.mono ?_; rintro _ w3 ⟨mv, rfl, hr3, hE3, hf3⟩; have hr3' := hr3; obtain ⟨ad3, n3, c3', rfl, -⟩ := hr3'))
          have hF : ∀ x, rowBlock (.slice ad3 n3 c3') = some x → w.heap.size ≤ x := fun x hx => hf3 x hx
          replace hE := hE.then_ext hE3
          refine ⟨?_, ?_⟩
          · (repeat (first | exact fl_nil | refine fl_skip rfl ?_ | (refine fl_take rfl ?_ ?_; (refine yldI_of rfl rfl ?_; first | exact run_ld rfl rfl Try.ag67 (hE.cell f0.out (fun h => h)) | exact run_ld rfl rfl Try.ag39 (hE.cell hct.out (fun h => h)) | exact run_ld rfl rfl Try.ag72 (hE.cell hch.out (fun h => h)) | exact run_ld rfl rfl Try.ag3 (hE.cell hcc.out (fun h => h)) | exact run_el rfl rfl rfl Try.underlying67 Try.szE74 he'.out | exact run_el rfl rfl rfl Try.underlying72 Try.szE3' heh'.out | exact run_len rfl rfl Try.underlying39 (rT.keep hE (fun _ _ h => h)) (by omega) htl.out |  go_simp))))
          iterate 1 (refine cw_rd rfl rfl rfl rfl rfl (fun K hK => ?_); go_wp2_with fail)
          refine cw_e1 rfl rfl (fun K hK => ?_)
          refine op_alloc rfl Try.z87 ?_
          intro gm w4 hb4 hg4 hE4
          refine op_norm rfl ?_
          go_wp2_with fail
          have hE' := hE.then_ext hE4
          replace hr3 := hr3.keep hE4 (fun _ _ h => h)
          have hsz := hE.size
          clear hE c3 hE3 hf3
          have hE := hE'
          refine ⟨?_, ?_⟩
          · (repeat (first | exact fl_nil | refine fl_skip rfl ?_ | (refine fl_take rfl ?_ ?_; (refine yldI_of rfl rfl ?_; first | exact run_ld rfl rfl Try.ag67 (hE.cell f0.out (fun h => h)) | exact run_ld rfl rfl Try.ag39 (hE.cell hct.out (fun h => h)) | exact run_ld rfl rfl Try.ag72 (hE.cell hch.out (fun h => h)) | exact run_ld rfl rfl Try.ag3 (hE.cell hcc.out (fun h => h)) | exact run_el rfl rfl rfl Try.underlying67 Try.szE74 he'.out | exact run_el rfl rfl rfl Try.underlying72 Try.szE3' heh'.out | exact run_len rfl rfl Try.underlying39 (rT.keep hE (fun _ _ h => h)) (by omega) htl.out |  go_simp))))
          refine cw_e1 rfl rfl (fun K hK => ?_)
          refine op_storeN (g := gm) (i := 0) (T := 87) (vs := [.slice ad3 n3 c3', .int .i64 (S.texts a).length, .int .i64 (S.heard a b)]) rfl rfl rfl Try.szE87 (hone.out _ _ _) hb4 (show 0 + 3 ≤ 3 from by omega) ?_
          intro w5 hb5 ht5 hz5
          refine op_done rfl ?_
          refine hK _ _ ?_
          clear hK K
          refine ⟨fl_none, ?_⟩
          refine cw_nil ?_
          go_wp2_with fail
          go_meet
          case rel =>
            have hgw : w.heap.size ≤ gm := Nat.le_trans hsz hg4
            have hne : ∀ x, rowBlock (.slice ad3 n3 c3') = some x → ¬ x = gm := fun x hx e => by
              obtain ⟨cs, hcs⟩ := hr3.blk hx
              rw [e] at hcs
              have h1 : _ = _ := hcs
              have h2 : _ = _ := hb4
              rw [h1] at h2
              cases h2
            exact ⟨gm, ad3, n3, c3', rfl, hb5.storeAll rfl, hr3.keep ht5 hne, hF, hE.trans ht5 fun x hx e => by omega⟩
        · refine cw_e1 rfl rfl (fun K hK => ?_)
          refine op_alloc rfl Try.z87 ?_
          intro gm w4 hb4 hg4 hE4
          refine op_norm rfl ?_
          go_wp2_with fail
          have hsz := hE.size
          replace hE := hE.then_ext hE4
          refine ⟨?_, ?_⟩
          · (repeat (first | exact fl_nil | refine fl_skip rfl ?_ | (refine fl_take rfl ?_ ?_; (refine yldI_of rfl rfl ?_; first | exact run_ld rfl rfl Try.ag67 (hE.cell f0.out (fun h => h)) | exact run_ld rfl rfl Try.ag39 (hE.cell hct.out (fun h => h)) | exact run_ld rfl rfl Try.ag72 (hE.cell hch.out (fun h => h)) | exact run_ld rfl rfl Try.ag3 (hE.cell hcc.out (fun h => h)) | exact run_el rfl rfl rfl Try.underlying67 Try.szE74 he'.out | exact run_el rfl rfl rfl Try.underlying72 Try.szE3' heh'.out | exact run_len rfl rfl Try.underlying39 (rT.keep hE (fun _ _ h => h)) (by omega) htl.out |  go_simp))))
          have c3 := c2.out _ hE
          refine cw_e1 rfl rfl (fun K hK => ?_)
          go_wp2_with (first | (go_at_call 25; refine c3.mono ?_; rintro _ w3 ⟨mv, rfl, hr3, hE3, hf3⟩; have hr3' := hr3; obtain ⟨ad3, n3, c3', rfl, -⟩ := hr3'))
          have hsz' := hE.size
          have hF : ∀ x, rowBlock (.slice ad3 n3 c3') = some x → w.heap.size ≤ x := fun x hx => Nat.le_trans hsz' (hf3 x hx)
          replace hE := hE.then_ext hE3
          replace hb4 : Blk w3 gm 87 _ := hE3.obj hb4 (fun h => h)
          clear c3 hE3 hf3
          refine ⟨?_, ?_⟩
          · (repeat (first | exact fl_nil | refine fl_skip rfl ?_ | (refine fl_take rfl ?_ ?_; (refine yldI_of rfl rfl ?_; first | exact run_ld rfl rfl Try.ag67 (hE.cell f0.out (fun h => h)) | exact run_ld rfl rfl Try.ag39 (hE.cell hct.out (fun h => h)) | exact run_ld rfl rfl Try.ag72 (hE.cell hch.out (fun h => h)) | exact run_ld rfl rfl Try.ag3 (hE.cell hcc.out (fun h => h)) | exact run_el rfl rfl rfl Try.underlying67 Try.szE74 he'.out | exact run_el rfl rfl rfl Try.underlying72 Try.szE3' heh'.out | exact run_len rfl rfl Try.underlying39 (rT.keep hE (fun _ _ h => h)) (by omega) htl.out |  go_simp))))
          iterate 1 (refine cw_rd rfl rfl rfl rfl rfl (fun K hK => ?_); go_wp2_with fail)
          refine cw_e1 rfl rfl (fun K hK => ?_)
          refine op_storeN (g := gm) (i := 0) (T := 87) (vs := [.slice ad3 n3 c3', .int .i64 (S.texts a).length, .int .i64 (S.heard a b)]) rfl rfl rfl Try.szE87 (hone.out _ _ _) hb4 (show 0 + 3 ≤ 3 from by omega) ?_
          intro w5 hb5 ht5 hz5
          refine op_done rfl ?_
          refine hK _ _ ?_
          clear hK K
          refine ⟨fl_none, ?_⟩
          refine cw_nil ?_
          go_wp2_with fail
          go_meet
          case rel =>
            have hgw : w.heap.size ≤ gm := Nat.le_trans hsz hg4
            have hne : ∀ x, rowBlock (.slice ad3 n3 c3') = some x → ¬ x = gm := fun x hx e => by
              obtain ⟨cs, hcs⟩ := hr3.blk hx
              rw [e] at hcs
              have h1 : _ = _ := hcs
              have h2 : _ = _ := hb4
              rw [h1] at h2
              cases h2
            exact ⟨gm, ad3, n3, c3', rfl, hb5.storeAll rfl, hr3.keep ht5 hne, hF, hE.trans ht5 fun x hx e => by omega⟩
      case rest =>
        obtain ⟨gm, ad, n, c, rfl, hbm, hmv⟩ := hcut
        have f1c := Lib.hid (hmv.ext.cell f1.out (fun h => h))
        have hcqc := Lib.hid (hmv.ext.cell hcq.out (fun h => h))
        have hczc := Lib.hid (hmv.ext.cell hcz.out (fun h => h))
        have rB : RowN wc 85 1 (R.val (.qrow a)) S.n (fun j _ => R.val (.q a j)) := RowN.keep (h.row (.qrow a) ha'.out) hmv.ext (fun _ _ h => h)
        replace rM := rM.keep hmv.ext (fun _ _ h => h)
        have hcm := Lib.hid (blk_cells (vs := [.slice ad n c, .int .i64 (S.texts a).length, .int .i64 (S.heard a b)]) hbm)
        have hones := Lib.hid (msgCells_one (msgVals R a b (S.queues a b).length) (S.queues a b) (fun u hu => by
          unfold msgVals at hu
          obtain ⟨k, hk, rfl⟩ := List.mem_map.1 hu
          have hk' := List.mem_range.1 hk
          exact row_one (h.row (.msg a b k) ⟨ha'.out, hb'.out, hk'⟩ _ (List.getElem?_eq_getElem hk'))))
        have hone3 := Lib.hid (show ∀ u ∈ [Value.slice ad n c, .int .i64 (S.texts a).length, .int .i64 (S.heard a b)], u.oneCell' = true from fun u hu => by
          simp only [List.mem_cons, List.not_mem_nil, or_false] at hu
          rcases hu with rfl | rfl | rfl <;> rfl)
        clear c2 rT hct hch hcc f0 f2 hca hcx hcq hcz f1 hbm
        go_wp2_with fail
        refine wp_region_rt (by kernel_rfl) [0, 1, 3, 7, 0, 31, 63, 0, 0, 0, 512, 1536, 3584, 0, 15872, 32256, 0, 130560, 261632, 524032, 0, 1048576, 4194048, 8388607, 16777215] (.rd 0 (.rd 1 (.rd 2 (.rd 3 (.rd 4 (.rd 5 (.rd 6 (.rd 7 (.rd 9 (.rd 10 (.rd 11 (.rd 12 (.rd 13 (.rd 14 (.rd 15 (.rd 16 (.rd 17 (.rd 18 (.rd 20 (.e2 8 [1, 2, 3, 5, 6, 10, 11, 12, 14, 15, 17, 18, 20] (.e2 19 [1, 2, 3, 5, 6, 20] (.e1 21 [1, 2, 3, 5, 6, 10, 11, 12, 14, 15, 17, 18] (.e1 22 [1, 2, 3, 5, 6] (.rd 23 (.e1 24 [] (.nil))))) 21 [1, 2, 3, 5, 6, 10, 11, 12, 14, 15, 17, 18] (.e1 19 [1, 2, 3, 5, 6, 20] (.e1 22 [1, 2, 3, 5, 6] (.rd 23 (.e1 24 [] (.nil)))))) 21 [1, 2, 3, 5, 6, 10, 11, 12, 14, 15, 17, 18] (.e1 8 [1, 2, 3, 5, 6, 10, 11, 12, 14, 15, 17, 18, 20] (.e1 19 [1, 2, 3, 5, 6, 20] (.e1 22 [1, 2, 3, 5, 6] (.rd 23 (.e1 24 [] (.nil)))))))))))))))))))))))))) (by kernel_rfl) ?_
        iterate 3 (refine cw_rd rfl rfl rfl rfl rfl (fun K hK => ?_); go_wp2_with fail)
        (refine cw_rd rfl rfl rfl rfl rfl (fun K hK => ?_); refine op_load1 rfl rfl Try.ag68 (cell_drew f1c.out) ?_; refine op_norm rfl ?_; go_wp2_with fail)
        iterate 1 (refine cw_rd rfl rfl rfl rfl rfl (fun K hK => ?_); go_wp2_with fail)
        (refine cw_rd rfl rfl rfl rfl rfl (fun K hK => ?_); refine op_elem rfl rfl rfl Try.underlying68 Try.szE75 heq'.out ?_; refine op_norm rfl ?_; go_wp2_with fail)
        (refine cw_rd rfl rfl rfl rfl rfl (fun K hK => ?_); refine op_load1 rfl rfl Try.ag75 (cell_drew hcqc.out) ?_; refine op_norm rfl ?_; go_wp2_with fail)
        iterate 4 (refine cw_rd rfl rfl rfl rfl rfl (fun K hK => ?_); go_wp2_with fail)
        (refine cw_rd rfl rfl rfl rfl rfl (fun K hK => ?_); refine op_load1 rfl rfl Try.ag68 (cell_drew f1c.out) ?_; refine op_norm rfl ?_; go_wp2_with fail)
        iterate 1 (refine cw_rd rfl rfl rfl rfl rfl (fun K hK => ?_); go_wp2_with fail)
        (refine cw_rd rfl rfl rfl rfl rfl (fun K hK => ?_); refine op_elem rfl rfl rfl Try.underlying68 Try.szE75 heq'.out ?_; refine op_norm rfl ?_; go_wp2_with fail)
        (refine cw_rd rfl rfl rfl rfl rfl (fun K hK => ?_); refine op_load1 rfl rfl Try.ag75 (cell_drew hcqc.out) ?_; refine op_norm rfl ?_; go_wp2_with fail)
        iterate 1 (refine cw_rd rfl rfl rfl rfl rfl (fun K hK => ?_); go_wp2_with fail)
        (refine cw_rd rfl rfl rfl rfl rfl (fun K hK => ?_); refine op_elem rfl rfl rfl Try.underlying75 Try.szE85 hez'.out ?_; refine op_norm rfl ?_; go_wp2_with fail)
        (refine cw_rd rfl rfl rfl rfl rfl (fun K hK => ?_); refine op_load1 rfl rfl Try.ag85 (cell_drew hczc.out) ?_; refine op_norm rfl ?_; go_wp2_with fail)
        (refine cw_rd rfl rfl rfl rfl rfl (fun K hK => ?_); refine op_loadN (vs := [.slice ad n c, .int .i64 (S.texts a).length, .int .i64 (S.heard a b)]) rfl rfl Try.ag87 Try.szE87 (fun j v hv => cell_drew (hcm.out j v hv)) ?_; refine op_norm rfl ?_; go_wp2_with fail)
        have hE : Ext wc wc.drew := (Touch.refl _ wc).drew
        obtain ⟨i8, hi8, hz8, hsz8, hby8⟩ := info_parts Try.in87
        refine cw_e2 ?_ ?_
        · refine cw_e1 rfl rfl (fun K hK => ?_)
          refine op_build0 rfl Try.underlying85 hi8 ?_
          intro vE wE rE nE xE
          refine op_norm rfl ?_
          go_wp2_with fail
          try replace rT1 := rT1.keep xE (fun _ _ h => h)
          replace hE := hE.then_ext xE
          rw [hsz8] at rE
          have oE : OwnR _ _ 87 3 vE [] := ⟨rE, (fun b hb => by rw [nE] at hb; cases hb), hE⟩
          clear rE xE
          refine ⟨?_, ?_⟩
          · (repeat (first | exact fl_nil | refine fl_skip rfl ?_ | (refine fl_take rfl ?_ ?_; (refine yldI_of rfl rfl ?_; first | exact run_ld rfl rfl Try.ag68 (hE.cell f1c.out (fun h => h)) | exact run_ld rfl rfl Try.ag75 (hE.cell hcqc.out (fun h => h)) | exact run_ld rfl rfl Try.ag85 (hE.cell hczc.out (fun h => h)) | exact run_el rfl rfl rfl Try.underlying68 Try.szE75 heq'.out | exact run_el rfl rfl rfl Try.underlying75 Try.szE85 hez'.out | exact run_ldN rfl rfl Try.ag87 Try.szE87 (fun j v hv => hE.cell (hcm.out j v hv) (fun h => h)) |  go_simp))))
          refine cw_e2 ?_ ?_
          · refine cw_e1 rfl rfl (fun K hK => ?_)
            refine op_append_own rfl rfl rfl Try.underlying85 hi8 hz8 hsz8 hby8 rfl (by omega) (by omega) oE (rM.keep hE (fun _ _ h => h)) hones.out (by simp only [List.length_nil]; rw [hql.out]; omega) ?_
            intro vA wA oA tA
            refine op_norm rfl ?_
            go_wp2_with fail
            try replace rT1 := rT1.keep (ext_none nE tA) (fun _ _ h => h)
            replace hE := oA.ext
            clear tA oE nE
            refine ⟨?_, ?_⟩
            · (repeat (first | exact fl_nil | refine fl_skip rfl ?_ | (refine fl_take rfl ?_ ?_; (refine yldI_of rfl rfl ?_; first | exact run_ld rfl rfl Try.ag68 (hE.cell f1c.out (fun h => h)) | exact run_ld rfl rfl Try.ag75 (hE.cell hcqc.out (fun h => h)) | exact run_ld rfl rfl Try.ag85 (hE.cell hczc.out (fun h => h)) | exact run_el rfl rfl rfl Try.underlying68 Try.szE75 heq'.out | exact run_el rfl rfl rfl Try.underlying75 Try.szE85 hez'.out | exact run_ldN rfl rfl Try.ag87 Try.szE87 (fun j v hv => hE.cell (hcm.out j v hv) (fun h => h)) |  go_simp))))
            refine cw_e1 rfl rfl (fun K hK => ?_)
            refine op_build3 rfl rfl Try.underlying85 hi8 hz8 hsz8 rfl ?_
            intro vT wT rT1 fT xT
            refine op_norm rfl ?_
            go_wp2_with fail
            try replace oE := oE.then xT
            try replace oA := oA.then xT
            replace hE := hE.then_ext xT
            clear xT fT
            refine ⟨?_, ?_⟩
            · (repeat (first | exact fl_nil | refine fl_skip rfl ?_ | (refine fl_take rfl ?_ ?_; (refine yldI_of rfl rfl ?_; first | exact run_ld rfl rfl Try.ag68 (hE.cell f1c.out (fun h => h)) | exact run_ld rfl rfl Try.ag75 (hE.cell hcqc.out (fun h => h)) | exact run_ld rfl rfl Try.ag85 (hE.cell hczc.out (fun h => h)) | exact run_el rfl rfl rfl Try.underlying68 Try.szE75 heq'.out | exact run_el rfl rfl rfl Try.underlying75 Try.szE85 hez'.out | exact run_ldN rfl rfl Try.ag87 Try.szE87 (fun j v hv => hE.cell (hcm.out j v hv) (fun h => h)) |  go_simp))))
            refine cw_e1 rfl rfl (fun K hK => ?_)
            refine op_append_own rfl rfl rfl Try.underlying85 hi8 hz8 hsz8 hby8 rfl (by omega) (by omega) oA rT1 (hone3.out) (by simp only [List.nil_append, List.length_cons, List.length_nil]; rw [hql.out]; omega) ?_
            intro vB wB oB tB
            refine op_norm rfl ?_
            go_wp2_with fail
            replace hE := oB.ext
            rw [List.nil_append] at oB
            clear tB oA rT1
            refine ⟨?_, ?_⟩
            · (repeat (first | exact fl_nil | refine fl_skip rfl ?_ | (refine fl_take rfl ?_ ?_; (refine yldI_of rfl rfl ?_; first | exact run_ld rfl rfl Try.ag68 (hE.cell f1c.out (fun h => h)) | exact run_ld rfl rfl Try.ag75 (hE.cell hcqc.out (fun h => h)) | exact run_ld rfl rfl Try.ag85 (hE.cell hczc.out (fun h => h)) | exact run_el rfl rfl rfl Try.underlying68 Try.szE75 heq'.out | exact run_el rfl rfl rfl Try.underlying75 Try.szE85 hez'.out | exact run_ldN rfl rfl Try.ag87 Try.szE87 (fun j v hv => hE.cell (hcm.out j v hv) (fun h => h)) |  go_simp))))
            (refine cw_rd rfl rfl rfl rfl rfl (fun K hK => ?_); refine op_elem rfl rfl rfl Try.underlying75 Try.szE85 hez'.out ?_; refine op_norm rfl ?_; go_wp2_with fail)
            refine cw_e1 rfl rfl (fun K hK => ?_)
            refine op_store_rowN (d := 0) (u := vB) rfl rfl rfl Try.sz85 (row_one oB.row) (rB.keep hE (fun _ _ h => h)) hez'.out hb'.out (by omega) ?_
            intro wS hS tS
            refine op_done rfl ?_
            refine hK _ _ ?_
            clear hK K
            refine ⟨fl_none, ?_⟩
            refine cw_nil ?_
            go_wp2_with fail
            go_ret
            refine ⟨rfl, ?_⟩
            rw [hsend.out]
            exact RefPost.push h ha'.out hb'.out (m := S.msg a b) (oB.since hmv.ext) (hmv.then hE) tS hS
          · refine cw_e1 rfl rfl (fun K hK => ?_)
            refine op_build3 rfl rfl Try.underlying85 hi8 hz8 hsz8 rfl ?_
            intro vT wT rT1 fT xT
            refine op_norm rfl ?_
            go_wp2_with fail
            try replace oE := oE.then xT
            try replace oA := oA.then xT
            replace hE := hE.then_ext xT
            clear xT fT
            refine ⟨?_, ?_⟩
            · (repeat (first | exact fl_nil | refine fl_skip rfl ?_ | (refine fl_take rfl ?_ ?_; (refine yldI_of rfl rfl ?_; first | exact run_ld rfl rfl Try.ag68 (hE.cell f1c.out (fun h => h)) | exact run_ld rfl rfl Try.ag75 (hE.cell hcqc.out (fun h => h)) | exact run_ld rfl rfl Try.ag85 (hE.cell hczc.out (fun h => h)) | exact run_el rfl rfl rfl Try.underlying68 Try.szE75 heq'.out | exact run_el rfl rfl rfl Try.underlying75 Try.szE85 hez'.out | exact run_ldN rfl rfl Try.ag87 Try.szE87 (fun j v hv => hE.cell (hcm.out j v hv) (fun h => h)) |  go_simp))))
            refine cw_e1 rfl rfl (fun K hK => ?_)
            refine op_append_own rfl rfl rfl Try.underlying85 hi8 hz8 hsz8 hby8 rfl (by omega) (by omega) oE (rM.keep hE (fun _ _ h => h)) hones.out (by simp only [List.length_nil]; rw [hql.out]; omega) ?_
            intro vA wA oA tA
            refine op_norm rfl ?_
            go_wp2_with fail
            try replace rT1 := rT1.keep (ext_none nE tA) (fun _ _ h => h)
            replace hE := oA.ext
            clear tA oE nE
            refine ⟨?_, ?_⟩
            · (repeat (first | exact fl_nil | refine fl_skip rfl ?_ | (refine fl_take rfl ?_ ?_; (refine yldI_of rfl rfl ?_; first | exact run_ld rfl rfl Try.ag68 (hE.cell f1c.out (fun h => h)) | exact run_ld rfl rfl Try.ag75 (hE.cell hcqc.out (fun h => h)) | exact run_ld rfl rfl Try.ag85 (hE.cell hczc.out (fun h => h)) | exact run_el rfl rfl rfl Try.underlying68 Try.szE75 heq'.out | exact run_el rfl rfl rfl Try.underlying75 Try.szE85 hez'.out | exact run_ldN rfl rfl Try.ag87 Try.szE87 (fun j v hv => hE.cell (hcm.out j v hv) (fun h => h)) |  go_simp))))
            refine cw_e1 rfl rfl (fun K hK => ?_)
            refine op_append_own rfl rfl rfl Try.underlying85 hi8 hz8 hsz8 hby8 rfl (by omega) (by omega) oA rT1 (hone3.out) (by simp only [List.nil_append, List.length_cons, List.length_nil]; rw [hql.out]; omega) ?_
            intro vB wB oB tB
            refine op_norm rfl ?_
            go_wp2_with fail
            replace hE := oB.ext
            rw [List.nil_append] at oB
            clear tB oA rT1
            refine ⟨?_, ?_⟩
            · (repeat (first | exact fl_nil | refine fl_skip rfl ?_ | (refine fl_take rfl ?_ ?_; (refine yldI_of rfl rfl ?_; first | exact run_ld rfl rfl Try.ag68 (hE.cell f1c.out (fun h => h)) | exact run_ld rfl rfl Try.ag75 (hE.cell hcqc.out (fun h => h)) | exact run_ld rfl rfl Try.ag85 (hE.cell hczc.out (fun h => h)) | exact run_el rfl rfl rfl Try.underlying68 Try.szE75 heq'.out | exact run_el rfl rfl rfl Try.underlying75 Try.szE85 hez'.out | exact run_ldN rfl rfl Try.ag87 Try.szE87 (fun j v hv => hE.cell (hcm.out j v hv) (fun h => h)) |  go_simp))))
            (refine cw_rd rfl rfl rfl rfl rfl (fun K hK => ?_); refine op_elem rfl rfl rfl Try.underlying75 Try.szE85 hez'.out ?_; refine op_norm rfl ?_; go_wp2_with fail)
            refine cw_e1 rfl rfl (fun K hK => ?_)
            refine op_store_rowN (d := 0) (u := vB) rfl rfl rfl Try.sz85 (row_one oB.row) (rB.keep hE (fun _ _ h => h)) hez'.out hb'.out (by omega) ?_
            intro wS hS tS
            refine op_done rfl ?_
            refine hK _ _ ?_
            clear hK K
            refine ⟨fl_none, ?_⟩
            refine cw_nil ?_
            go_wp2_with fail
            go_ret
            refine ⟨rfl, ?_⟩
            rw [hsend.out]
            exact RefPost.push h ha'.out hb'.out (m := S.msg a b) (oB.since hmv.ext) (hmv.then hE) tS hS
        · refine cw_e1 rfl rfl (fun K hK => ?_)
          refine op_build3 rfl rfl Try.underlying85 hi8 hz8 hsz8 rfl ?_
          intro vT wT rT1 fT xT
          refine op_norm rfl ?_
          go_wp2_with fail
          try replace oE := oE.then xT
          try replace oA := oA.then xT
          replace hE := hE.then_ext xT
          clear xT fT
          refine ⟨?_, ?_⟩
          · (repeat (first | exact fl_nil | refine fl_skip rfl ?_ | (refine fl_take rfl ?_ ?_; (refine yldI_of rfl rfl ?_; first | exact run_ld rfl rfl Try.ag68 (hE.cell f1c.out (fun h => h)) | exact run_ld rfl rfl Try.ag75 (hE.cell hcqc.out (fun h => h)) | exact run_ld rfl rfl Try.ag85 (hE.cell hczc.out (fun h => h)) | exact run_el rfl rfl rfl Try.underlying68 Try.szE75 heq'.out | exact run_el rfl rfl rfl Try.underlying75 Try.szE85 hez'.out | exact run_ldN rfl rfl Try.ag87 Try.szE87 (fun j v hv => hE.cell (hcm.out j v hv) (fun h => h)) |  go_simp))))
          refine cw_e1 rfl rfl (fun K hK => ?_)
          refine op_build0 rfl Try.underlying85 hi8 ?_
          intro vE wE rE nE xE
          refine op_norm rfl ?_
          go_wp2_with fail
          try replace rT1 := rT1.keep xE (fun _ _ h => h)
          replace hE := hE.then_ext xE
          rw [hsz8] at rE
          have oE : OwnR _ _ 87 3 vE [] := ⟨rE, (fun b hb => by rw [nE] at hb; cases hb), hE⟩
          clear rE xE
          refine ⟨?_, ?_⟩
          · (repeat (first | exact fl_nil | refine fl_skip rfl ?_ | (refine fl_take rfl ?_ ?_; (refine yldI_of rfl rfl ?_; first | exact run_ld rfl rfl Try.ag68 (hE.cell f1c.out (fun h => h)) | exact run_ld rfl rfl Try.ag75 (hE.cell hcqc.out (fun h => h)) | exact run_ld rfl rfl Try.ag85 (hE.cell hczc.out (fun h => h)) | exact run_el rfl rfl rfl Try.underlying68 Try.szE75 heq'.out | exact run_el rfl rfl rfl Try.underlying75 Try.szE85 hez'.out | exact run_ldN rfl rfl Try.ag87 Try.szE87 (fun j v hv => hE.cell (hcm.out j v hv) (fun h => h)) |  go_simp))))
          refine cw_e1 rfl rfl (fun K hK => ?_)
          refine op_append_own rfl rfl rfl Try.underlying85 hi8 hz8 hsz8 hby8 rfl (by omega) (by omega) oE (rM.keep hE (fun _ _ h => h)) hones.out (by simp only [List.length_nil]; rw [hql.out]; omega) ?_
          intro vA wA oA tA
          refine op_norm rfl ?_
          go_wp2_with fail
          try replace rT1 := rT1.keep (ext_none nE tA) (fun _ _ h => h)
          replace hE := oA.ext
          clear tA oE nE
          refine ⟨?_, ?_⟩
          · (repeat (first | exact fl_nil | refine fl_skip rfl ?_ | (refine fl_take rfl ?_ ?_; (refine yldI_of rfl rfl ?_; first | exact run_ld rfl rfl Try.ag68 (hE.cell f1c.out (fun h => h)) | exact run_ld rfl rfl Try.ag75 (hE.cell hcqc.out (fun h => h)) | exact run_ld rfl rfl Try.ag85 (hE.cell hczc.out (fun h => h)) | exact run_el rfl rfl rfl Try.underlying68 Try.szE75 heq'.out | exact run_el rfl rfl rfl Try.underlying75 Try.szE85 hez'.out | exact run_ldN rfl rfl Try.ag87 Try.szE87 (fun j v hv => hE.cell (hcm.out j v hv) (fun h => h)) |  go_simp))))
          refine cw_e1 rfl rfl (fun K hK => ?_)
          refine op_append_own rfl rfl rfl Try.underlying85 hi8 hz8 hsz8 hby8 rfl (by omega) (by omega) oA rT1 (hone3.out) (by simp only [List.nil_append, List.length_cons, List.length_nil]; rw [hql.out]; omega) ?_
          intro vB wB oB tB
          refine op_norm rfl ?_
          go_wp2_with fail
          replace hE := oB.ext
          rw [List.nil_append] at oB
          clear tB oA rT1
          refine ⟨?_, ?_⟩
          · (repeat (first | exact fl_nil | refine fl_skip rfl ?_ | (refine fl_take rfl ?_ ?_; (refine yldI_of rfl rfl ?_; first | exact run_ld rfl rfl Try.ag68 (hE.cell f1c.out (fun h => h)) | exact run_ld rfl rfl Try.ag75 (hE.cell hcqc.out (fun h => h)) | exact run_ld rfl rfl Try.ag85 (hE.cell hczc.out (fun h => h)) | exact run_el rfl rfl rfl Try.underlying68 Try.szE75 heq'.out | exact run_el rfl rfl rfl Try.underlying75 Try.szE85 hez'.out | exact run_ldN rfl rfl Try.ag87 Try.szE87 (fun j v hv => hE.cell (hcm.out j v hv) (fun h => h)) |  go_simp))))
          (refine cw_rd rfl rfl rfl rfl rfl (fun K hK => ?_); refine op_elem rfl rfl rfl Try.underlying75 Try.szE85 hez'.out ?_; refine op_norm rfl ?_; go_wp2_with fail)
          refine cw_e1 rfl rfl (fun K hK => ?_)
          refine op_store_rowN (d := 0) (u := vB) rfl rfl rfl Try.sz85 (row_one oB.row) (rB.keep hE (fun _ _ h => h)) hez'.out hb'.out (by omega) ?_
          intro wS hS tS
          refine op_done rfl ?_
          refine hK _ _ ?_
          clear hK K
          refine ⟨fl_none, ?_⟩
          refine cw_nil ?_
          go_wp2_with fail
          go_ret
          refine ⟨rfl, ?_⟩
          rw [hsend.out]
          exact RefPost.push h ha'.out hb'.out (m := S.msg a b) (oB.since hmv.ext) (hmv.then hE) tS hS
end Go.Proofs.Ytcipfpebjeakfaa
