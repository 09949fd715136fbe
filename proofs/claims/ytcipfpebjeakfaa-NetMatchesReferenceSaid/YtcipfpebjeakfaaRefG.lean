/-
  Contract of the reference: Deliver.
-/
import Derived.Test.YtcipfpebjeakfaaRefF
namespace Go.Proofs.Ytcipfpebjeakfaa
open Go Go.RowKit Go.WideMaps

section
variable {P : Program} {o : Oper} {a : Act} {w : World} {K : Act → World → Prop} {Q : Exit → Act → World → Prop} {t E : TypeId} {size : Nat} {v : Value}
/-- A whole element is written. -/
theorem op_store_rowNs {x y : Operand} {n i g k : Nat} {f : Nat → Nat → Value} {vs : List Value} (ho : o.op = .store t x y) (hx : a.eval x = .pointer (some ⟨g, k, none⟩)) (hy : a.eval y = .agg vs.toArray) (hs : (P.info? t).map (·.size) = some vs.length)
    (h1 : ∀ u ∈ vs, u.oneCell' = true) (hl : vs.length = size) (hr : RowN w E size v n f) (he : Elem v size i g k) (hi : i < n)
    (h : ∀ w', RowN w' E size v n (fun i' j' => if i' = i then vs.getD j' undef else f i' j') → Touch (fun b => rowBlock v = some b) w w' → K (a.put o.dst undef) w') : o.wp P a w K Q := by
  obtain ⟨xs, hrow, hxl, hf⟩ := hr
  obtain ⟨ad, n', c, rfl, r1, r2, r3, r4, r5⟩ := hrow
  obtain ⟨i0, n2, c2, e1, rfl, hin, hnc⟩ := he.eq
  injection e1 with e1 e2 e3
  subst e1 e2 e3
  obtain ⟨g', i0', cs, e4, hb, hfit, hcs⟩ := r5 (by omega)
  injection e4 with e4
  injection e4 with e4 e5
  subst e4 e5
  have hmul : (i + 1) * size ≤ c * size := Nat.mul_le_mul_right _ (by omega)
  have hmul2 : (i + 1) * size ≤ n * size := Nat.mul_le_mul_right _ hi
  rw [Nat.add_mul] at hmul hmul2
  refine op_storeN ho hx hy hs h1 hb (by omega) fun w' hb' ht hz => h w' ⟨(List.range xs.length).map fun j => if i * size ≤ j ∧ j < i * size + size then vs.getD (j - i * size) undef else xs.getD j undef,
    ⟨_, _, _, rfl, by simpa using r1, r2, r3, r4, fun hc => ⟨g, i0, _, rfl, hb', by rw [overw_size]; exact hfit, fun j z hz' => ?_⟩⟩, by simpa using hxl, fun i' j' hi' hj' => ?_⟩ (ht.mono fun b _ e => by subst e; exact he.block)
  · have hj : j < xs.length := by have := (List.getElem?_eq_some_iff.1 hz').1; simpa using this
    rw [List.getElem?_map, List.getElem?_range hj] at hz'
    simp only [Option.map_some, Option.some.injEq] at hz'
    rw [overw_get _ _ _ _ (by omega)]
    by_cases hc2 : i * size ≤ j ∧ j < i * size + size
    · rw [if_pos hc2] at hz'
      rw [if_pos (by omega)]
      have hlt : j - i * size < vs.length := by omega
      rw [show i0 + j - (i0 + i * size) = j - i * size from by omega, List.getElem?_eq_getElem hlt, ← hz']
      simp [List.getD, hlt]
    · rw [if_neg hc2] at hz'
      rw [if_neg (by omega)]
      refine hcs j z ?_
      rw [← hz']
      simp [List.getD, hj]
  · have hlt : i' * size + j' < xs.length := (List.getElem?_eq_some_iff.1 (hf i' j' hi' hj')).1
    rw [List.getElem?_map, List.getElem?_range hlt]
    simp only [Option.map_some, Option.some.injEq]
    by_cases e : i' = i
    · subst e
      rw [if_pos ⟨by omega, by omega⟩, if_pos rfl]
      congr 1
      omega
    · rw [if_neg, if_neg e]
      · have h8 := hf i' j' hi' hj'
        simp [List.getD, h8]
      · intro hc2
        have hs0 : 0 < size := by omega
        have h6 : (i' * size + j') / size = i' := by rw [Nat.mul_comm, Nat.mul_add_div hs0, Nat.div_eq_of_lt hj', Nat.add_zero]
        have h7 : (i' * size + j') / size = i := by
          refine Nat.div_eq_of_lt_le hc2.1 ?_
          rw [Nat.add_mul]; omega
        exact e (h6 ▸ h7)
end
theorem alike_refl (S : NetS) : Alike S S := ⟨rfl, rfl, rfl, fun _ _ => rfl, rfl, rfl, rfl, rfl⟩

attribute [local irreducible] World.cell? World.frozen? isAggB _root_.Go.Program.underlying

/-- The oldest message is taken out. -/
theorem RefPost.pop {w W w' : World} {q : Nat} {R : RLay} {S : NetS} (h : RefAt w q R S) {i j : Nat} (hi : i < S.n) (hj : j < S.n) {v : Value} {m : Msg} {ms : List Msg} (hq : S.queues i j = m :: ms) (hE : Ext w W)
    (hr : Row W 87 3 v ((msgCells (msgVals R i j (S.queues i j).length) (S.queues i j)).drop 3)) (hb : ∀ b, rowBlock v = some b → rowBlock (R.val (.q i j)) = some b)
    (ht : Touch (fun b => rowBlock (R.val (.qrow i)) = some b) W w') (hn : RowN w' 85 1 (R.val (.qrow i)) S.n (upd2 (fun j _ => R.val (.q i j)) j 0 v)) :
    ∃ R1, RefAt w' q R1 (S.pop i j) ∧ RTo w.heap.size w w' R R1 ∧ R1.tag = tagNew v (tagNew (.slice none 0 0) R.tag) := by
  have h1 := h.ext hE
  have nv : ∀ b, rowBlock v = some b → R.tag b = .data := fun b hx => h.tag (.q i j) ⟨hi, hj⟩ b (hb b hx)
  have ap : ∀ b, R.tag b = .data → ¬ rowBlock (R.val (.qrow i)) = some b := fun b hx e => by
    have := h.tag (.qrow i) hi b e
    rw [hx] at this; simp [RowId.tagOf] at this
  have hrv := hr.keep ht fun b hx => ap b (nv b hx)
  have hcells : (msgCells (msgVals R i j (S.queues i j).length) (S.queues i j)).drop 3 = msgCells ((List.range ms.length).map fun k => R.val (.msg i j (k + 1))) ms := by
    rw [hq]
    simp [msgVals, List.range_succ_eq_map, msgCells]
    rfl
  rw [hcells] at hrv
  have hlen : (S.queues i j).length = ms.length + 1 := by rw [hq]; rfl
  have hset := h1.setQ (j := j) hi (u := .slice none 0 0) (mv := fun k => R.val (.msg i j (k + 1))) (ms := ms) ht hn hrv
    (fun k hk m' hm' => (h1.other (r0 := .qrow i) hi (r := .msg i j (k + 1)) ⟨hi, hj, by omega⟩ ht (by simp [RowId.tagOf])) m' (by rw [hq]; simpa using hm'))
    (fun b hb => by simp [rowBlock] at hb) (fun b hx => .inr (nv b hx)) (fun b hb => by simp [rowBlock] at hb)
    (fun k hk b hx => .inr (h.tag (.msg i j (k + 1)) ⟨hi, hj, by omega⟩ b hx))
  refine ⟨_, hset.like ⟨rfl, rfl, rfl, fun _ _ => rfl, rfl, rfl, ?_, rfl⟩, ⟨Nat.le_refl _, fun b hb => ?_, (Touch.of_ext hE).trans ht fun b _ hb => .inr (.inr ⟨.qrow i, h.tag (.qrow i) hi b hb⟩)⟩, rfl⟩
  · show upd2 S.queues i j (S.queues i j).tail = upd2 S.queues i j ms
    rw [hq]; rfl
  · show tagNew v (tagNew (.slice none 0 0) R.tag) b = R.tag b
    by_cases e : rowBlock v = some b
    · rw [tagNew_new e, nv b e]
    · rw [tagNew_old e, tagNew_old (by simp [rowBlock])]

set_option maxRecDepth 100000 in
set_option maxHeartbeats 4000000 in
theorem deliver_ref_off {w : World} {q : Nat} {R : RLay} {S : NetS} (h : RefAt w q R S) (a b : Nat) (lost again : Bool) (ha6 : a ≤ 1000) (hb6 : b ≤ 1000) (hc : S.deliverC a b = false) :
    Calls Try.prog 18 #[ptr q, .int .i64 a, .int .i64 b, .bool lost, .bool again] w fun e w' => e = .returned (.bool false) ∧ w = w' := by
  have c1 := pair_ref h a b ha6 hb6
  cases hok : S.okB a b with
  | false =>
    rw [hok] at c1
    clear hok hc
    go_enter Try.func18, Try.ntmps18
    ((first | go_at_call 36 | (go_wp2_with fail; go_at_call 36)); refine (c1).mono ?_; rintro _ _ ⟨rfl, rfl⟩)
    go_wp2_with fail
    go_ret
    exact ⟨rfl, rfl⟩
  | true =>
    obtain ⟨ha, hb, hne⟩ := NetS.okB_iff.1 hok
    rw [hok] at c1
    have f1 := Lib.hid h.f1
    have f2 := Lib.hid h.f2
    have rO : RowN w 76 1 (R.val .off) S.n (fun i _ => R.val (.orow i)) := h.row .off trivial
    obtain ⟨ga, ka, hea⟩ := rO.elem ha (by omega)
    have hca := Lib.hid (RowN.one rO hea ha)
    have rA : RowN w 4 1 (R.val (.orow a)) S.n (fun j _ => .bool (S.off a j)) := h.row (.orow a) ha
    obtain ⟨gx, kx, hex⟩ := rA.elem hb (by omega)
    have hcx := Lib.hid (RowN.one rA hex hb)
    have hea' := Lib.hid hea
    have hex' := Lib.hid hex
    cases hoff : S.off a b with
    | true =>
      rw [hoff] at hcx
      clear hok hc hea hex rO rA hoff
      go_enter Try.func18, Try.ntmps18
      ((first | go_at_call 36 | (go_wp2_with fail; go_at_call 36)); refine (c1).mono ?_; rintro _ _ ⟨rfl, rfl⟩)
      clear c1
      unfold ptr
      go_wp2_with (first
        | ((with_reducible change wpList _ _ _ (Oper.mk _ (Op.load _ _) _ _ _ _ :: _) _ _); refine BigFrame.wpList_want rfl (fun K hK => ?_); refine op_load1 rfl rfl Try.ag69 f2.out ?_; refine hK _ _ ?_; clear hK K)
        | ((with_reducible change wpList _ _ _ (Oper.mk _ (Op.indexAddr _ _ _) _ _ _ _ :: _) _ _); refine BigFrame.wpList_want rfl (fun K hK => ?_); refine op_elem rfl rfl rfl Try.underlying69 Try.szE76 hea'.out ?_; refine hK _ _ ?_; clear hK K)
        | ((with_reducible change wpList _ _ _ (Oper.mk _ (Op.load _ _) _ _ _ _ :: _) _ _); refine BigFrame.wpList_want rfl (fun K hK => ?_); refine op_load1 rfl rfl Try.ag76 hca.out ?_; refine hK _ _ ?_; clear hK K)
        | ((with_reducible change wpList _ _ _ (Oper.mk _ (Op.indexAddr _ _ _) _ _ _ _ :: _) _ _); refine BigFrame.wpList_want rfl (fun K hK => ?_); refine op_elem rfl rfl rfl Try.underlying76 Try.szE4 hex'.out ?_; refine hK _ _ ?_; clear hK K)
        | ((with_reducible change wpList _ _ _ (Oper.mk _ (Op.load _ _) _ _ _ _ :: _) _ _); refine BigFrame.wpList_want rfl (fun K hK => ?_); refine op_load1 rfl rfl Try.ag4 hcx.out ?_; refine hK _ _ ?_; clear hK K))
      go_ret
      exact ⟨rfl, rfl⟩
    | false =>
      rw [hoff] at hcx
      have hq := NetS.deliverC_none hc hok hoff
      have rQ : RowN w 75 1 (R.val .queues) S.n (fun i _ => R.val (.qrow i)) := h.row .queues trivial
      obtain ⟨gq, kq, heq⟩ := rQ.elem ha (by omega)
      have hcq := Lib.hid (RowN.one rQ heq ha)
      have rB : RowN w 85 1 (R.val (.qrow a)) S.n (fun j _ => R.val (.q a j)) := h.row (.qrow a) ha
      obtain ⟨gz, kz, hez⟩ := rB.elem hb (by omega)
      have hcz := Lib.hid (RowN.one rB hez hb)
      have rM := h.row (.q a b) ⟨ha, hb⟩
      simp only [RowId.At] at rM
      rw [hq] at rM
      have heq' := Lib.hid heq
      have hez' := Lib.hid hez
      clear hok hc hea hex rO rA hoff hq heq hez rQ rB
      go_enter Try.func18, Try.ntmps18
      ((first | go_at_call 36 | (go_wp2_with fail; go_at_call 36)); refine (c1).mono ?_; rintro _ _ ⟨rfl, rfl⟩)
      clear c1
      unfold ptr
      go_wp2_with (first
        | ((with_reducible change wpList _ _ _ (Oper.mk _ (Op.load _ _) _ _ _ _ :: _) _ _); refine BigFrame.wpList_want rfl (fun K hK => ?_); refine op_load1 rfl rfl Try.ag69 f2.out ?_; refine hK _ _ ?_; clear hK K)
        | ((with_reducible change wpList _ _ _ (Oper.mk _ (Op.indexAddr _ _ _) _ _ _ _ :: _) _ _); refine BigFrame.wpList_want rfl (fun K hK => ?_); refine op_elem rfl rfl rfl Try.underlying69 Try.szE76 hea'.out ?_; refine hK _ _ ?_; clear hK K)
        | ((with_reducible change wpList _ _ _ (Oper.mk _ (Op.load _ _) _ _ _ _ :: _) _ _); refine BigFrame.wpList_want rfl (fun K hK => ?_); refine op_load1 rfl rfl Try.ag76 hca.out ?_; refine hK _ _ ?_; clear hK K)
        | ((with_reducible change wpList _ _ _ (Oper.mk _ (Op.indexAddr _ _ _) _ _ _ _ :: _) _ _); refine BigFrame.wpList_want rfl (fun K hK => ?_); refine op_elem rfl rfl rfl Try.underlying76 Try.szE4 hex'.out ?_; refine hK _ _ ?_; clear hK K)
        | ((with_reducible change wpList _ _ _ (Oper.mk _ (Op.load _ _) _ _ _ _ :: _) _ _); refine BigFrame.wpList_want rfl (fun K hK => ?_); refine op_load1 rfl rfl Try.ag4 hcx.out ?_; refine hK _ _ ?_; clear hK K)
        | ((with_reducible change wpList _ _ _ (Oper.mk _ (Op.load _ _) _ _ _ _ :: _) _ _); refine BigFrame.wpList_want rfl (fun K hK => ?_); refine op_load1 rfl rfl Try.ag68 f1.out ?_; refine hK _ _ ?_; clear hK K)
        | ((with_reducible change wpList _ _ _ (Oper.mk _ (Op.indexAddr _ _ _) _ _ _ _ :: _) _ _); refine BigFrame.wpList_want rfl (fun K hK => ?_); refine op_elem rfl rfl rfl Try.underlying68 Try.szE75 heq'.out ?_; refine hK _ _ ?_; clear hK K)
        | ((with_reducible change wpList _ _ _ (Oper.mk _ (Op.load _ _) _ _ _ _ :: _) _ _); refine BigFrame.wpList_want rfl (fun K hK => ?_); refine op_load1 rfl rfl Try.ag75 hcq.out ?_; refine hK _ _ ?_; clear hK K)
        | ((with_reducible change wpList _ _ _ (Oper.mk _ (Op.indexAddr _ _ _) _ _ _ _ :: _) _ _); refine BigFrame.wpList_want rfl (fun K hK => ?_); refine op_elem rfl rfl rfl Try.underlying75 Try.szE85 hez'.out ?_; refine hK _ _ ?_; clear hK K)
        | ((with_reducible change wpList _ _ _ (Oper.mk _ (Op.load _ _) _ _ _ _ :: _) _ _); refine BigFrame.wpList_want rfl (fun K hK => ?_); refine op_load1 rfl rfl Try.ag85 hcz.out ?_; refine hK _ _ ?_; clear hK K)
        | ((with_reducible change wpList _ _ _ (Oper.mk _ (Op.call (Call.mk (Callee.builtin Builtin.len) _ _)) _ _ _ _ :: _) _ _); refine BigFrame.wpList_want rfl (fun K hK => ?_); refine op_len_row (n := 0) rfl rfl Try.underlying85 rM (by omega) rfl ?_; refine hK _ _ ?_; clear hK K))
      go_ret
      exact ⟨rfl, rfl⟩
end Go.Proofs.Ytcipfpebjeakfaa
