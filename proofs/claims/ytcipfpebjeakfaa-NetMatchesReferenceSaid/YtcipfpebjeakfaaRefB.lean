/-
  Contracts of the reference: node, pair, Has, Lacks.
-/
import Derived.Test.YtcipfpebjeakfaaRefA
namespace Go.Proofs.Ytcipfpebjeakfaa
open Go Go.RowKit Go.WideMaps

theorem Try.ag45 : isAggB Try.prog 45 = some false := by kernel_rfl
theorem Try.ag67 : isAggB Try.prog 67 = some false := by kernel_rfl
theorem Try.ag68 : isAggB Try.prog 68 = some false := by kernel_rfl
theorem Try.ag69 : isAggB Try.prog 69 = some false := by kernel_rfl
theorem Try.ag72 : isAggB Try.prog 72 = some false := by kernel_rfl
theorem Try.ag75 : isAggB Try.prog 75 = some false := by kernel_rfl
theorem Try.ag76 : isAggB Try.prog 76 = some false := by kernel_rfl
theorem Try.ag85 : isAggB Try.prog 85 = some false := by kernel_rfl
theorem Try.ag74 : isAggB Try.prog 74 = some true := by kernel_rfl
theorem Try.ag87 : isAggB Try.prog 87 = some true := by kernel_rfl
theorem Try.szE74 : (Try.prog.info? 74).map (·.size) = some 4 := by kernel_rfl
theorem Try.szE75 : (Try.prog.info? 75).map (·.size) = some 1 := by kernel_rfl
theorem Try.szE76 : (Try.prog.info? 76).map (·.size) = some 1 := by kernel_rfl
theorem Try.szE85 : (Try.prog.info? 85).map (·.size) = some 1 := by kernel_rfl
theorem Try.szE87 : (Try.prog.info? 87).map (·.size) = some 3 := by kernel_rfl
theorem Try.szE3' : (Try.prog.info? 3).map (·.size) = some 1 := by kernel_rfl
theorem Try.szE4 : (Try.prog.info? 4).map (·.size) = some 1 := by kernel_rfl

section
variable {w w' : World} {q : Nat} {R : RLay} {S : NetS}
theorem RefAt.f0 (h : RefAt w q R S) : w.cell? ⟨q, 0, none⟩ = some (R.val .nodes) := h.net.cell (i := 0) rfl
theorem RefAt.f1 (h : RefAt w q R S) : w.cell? ⟨q, 1, none⟩ = some (R.val .queues) := h.net.cell (i := 1) rfl
theorem RefAt.f2 (h : RefAt w q R S) : w.cell? ⟨q, 2, none⟩ = some (R.val .off) := h.net.cell (i := 2) rfl
theorem RefAt.f3 (h : RefAt w q R S) : w.cell? ⟨q, 3, none⟩ = some (R.val .all) := h.net.cell (i := 3) rfl
theorem RefAt.nodesLen (h : RefAt w q R S) : ∃ ad c, R.val .nodes = .slice ad S.n c ∧ S.n ≤ c := RowN.len (h.row .nodes trivial) (by omega)
theorem RefAt.nodeElem (h : RefAt w q R S) {i : Nat} (hi : i < S.n) : ∃ g k, Elem (R.val .nodes) 4 i g k := RowN.elem (h.row .nodes trivial) hi (by omega)
theorem RefAt.nodeCells (h : RefAt w q R S) {i g k : Nat} (hi : i < S.n) (he : Elem (R.val .nodes) 4 i g k) :
    ∀ j u, [R.val (.texts i), R.val (.heard i), R.val (.known i), R.val (.got i)][j]? = some u → w.cell? ((⟨g, k, none⟩ : Addr).add j) = some u :=
  RowN.cells (h.row .nodes trivial) he hi rfl fun j u hu => by
    rcases j with _ | _ | _ | _ | j
    · simp at hu; subst hu; rfl
    · simp at hu; subst hu; rfl
    · simp at hu; subst hu; rfl
    · simp at hu; subst hu; rfl
    · simp at hu
theorem RowN.one {E n : Nat} {v : Value} {f : Nat → Nat → Value} (h : RowN w E 1 v n f) {i g k : Nat} (he : Elem v 1 i g k) (hi : i < n) : w.cell? ⟨g, k, none⟩ = some (f i 0) := h.cell he hi (j := 0) (by omega)
end

theorem RowN.oneCell {w : World} {E size n : Nat} {v : Value} {f : Nat → Nat → Value} (h : RowN w E size v n f) : v.oneCell' = true := by
  obtain ⟨xs, hr, _⟩ := h
  exact row_one hr
theorem RefAt.nodeOne {w : World} {q : Nat} {R : RLay} {S : NetS} (h : RefAt w q R S) {i : Nat} (hi : i < S.n) : ∀ u ∈ [R.val (.texts i), R.val (.heard i), R.val (.known i), R.val (.got i)], u.oneCell' = true := by
  intro u hu
  simp only [List.mem_cons, List.not_mem_nil, or_false] at hu
  rcases hu with rfl | rfl | rfl | rfl
  · exact row_one (show Row w 9 1 _ _ from h.row (.texts i) hi)
  · exact RowN.oneCell (h.row (.heard i) hi)
  · exact RowN.oneCell (h.row (.known i) hi)
  · exact RowN.oneCell (h.row (.got i) hi)
theorem Ext.new {w w' : World} {o : Obj} (h : Touch (· = w.heap.size) (w.alloc o) w') : Ext w w' := (Ext.alloc w o).trans h fun b hb e => by omega
theorem overw4 (a b c d v0 v1 v2 v3 : Value) : overw #[a, b, c, d] 0 [v0, v1, v2, v3] = #[v0, v1, v2, v3] := rfl
theorem overw3 (a b c v0 v1 v2 : Value) : overw #[a, b, c] 0 [v0, v1, v2] = #[v0, v1, v2] := rfl

theorem op_len_slice {P : Program} {o : Oper} {a : Act} {w : World} {K : Act → World → Prop} {Q : Exit → Act → World → Prop} {t E : TypeId} {x : Operand} {v : Value} {ad : Option Addr} {n c : Nat} (ho : o.op = .call { callee := .builtin .len, args := #[x], argTypes := #[t] }) (hx : a.eval x = v) (hv : v = .slice ad n c)
    (ht : P.underlying t = some (.slice E)) (h : K (a.put o.dst (.int .i64 n)) w) : o.wp P a w K Q := by
  subst hv
  refine op_run (Builtin.len_ #[t] o.type #[.slice ad n c]) _ w ?_ ?_ h
  · rw [execOp_builtin1 ho, ← hx]
    simp only [List.map_toArray, List.map_cons, List.map_nil]
    rfl
  · simp [Builtin.len_, run_underlying ht, goInt]

attribute [local irreducible] World.cell? World.frozen? isAggB _root_.Go.Program.underlying

set_option maxRecDepth 100000 in
set_option maxHeartbeats 1000000 in
theorem node_ref {w : World} {q : Nat} {R : RLay} {S : NetS} (h : RefAt w q R S) (i : Nat) (_hi6 : i ≤ 1000) :
    Calls Try.prog 33 #[ptr q, .int .i64 i] w fun e w' => e = .returned (.bool (decide (i < S.n))) ∧ w = w' := by
  have f0 := Lib.hid h.f0
  obtain ⟨ad, c, hv, _⟩ := h.nodesLen
  have hv' := Lib.hid hv
  clear hv
  unfold ptr
  go_enter Try.func33, Try.ntmps33
  go_wp2_with (first
    | ((with_reducible change wpList _ _ _ (Oper.mk _ (Op.load _ _) _ _ _ _ :: _) _ _); refine BigFrame.wpList_want rfl (fun K hK => ?_); refine op_load1 rfl rfl Try.ag67 f0.out ?_; refine hK _ _ ?_; clear hK K)
    | ((with_reducible change wpList _ _ _ (Oper.mk _ (Op.call (Call.mk (Callee.builtin Builtin.len) _ _)) _ _ _ _ :: _) _ _); refine BigFrame.wpList_want rfl (fun K hK => ?_); refine op_len_slice rfl rfl hv'.out Try.underlying67 ?_; refine hK _ _ ?_; clear hK K))
  go_ret
  refine ⟨?_, rfl⟩
  congr 2

set_option maxRecDepth 100000 in
set_option maxHeartbeats 1000000 in
theorem pair_ref {w : World} {q : Nat} {R : RLay} {S : NetS} (h : RefAt w q R S) (a b : Nat) (ha6 : a ≤ 1000) (hb6 : b ≤ 1000) :
    Calls Try.prog 36 #[ptr q, .int .i64 a, .int .i64 b] w fun e w' => e = .returned (.bool (S.okB a b)) ∧ w = w' := by
  have c1 := node_ref h a ha6
  have c2 := node_ref h b hb6
  by_cases ha : a < S.n
  · rw [decide_eq_true ha] at c1
    by_cases hb : b < S.n
    · rw [decide_eq_true hb] at c2
      by_cases hab : a = b
      · have hok : S.okB a b = false := by unfold NetS.okB; simp [hab]
        have hab' : ((a : Int) != (b : Int)) = false := by simp [hab]
        rw [hok]
        clear hab hok
        go_enter Try.func36, Try.ntmps36
        ((first | go_at_call 33 | (go_wp2_with fail; go_at_call 33)); refine (c1).mono ?_; rintro _ _ ⟨rfl, rfl⟩)
        ((first | go_at_call 33 | (go_wp2_with fail; go_at_call 33)); refine (c2).mono ?_; rintro _ _ ⟨rfl, rfl⟩)
        go_wp2_with fail
        go_ret
        exact ⟨rfl, rfl⟩
      · have hok : S.okB a b = true := NetS.okB_iff.2 ⟨ha, hb, hab⟩
        have hab' : ((a : Int) != (b : Int)) = true := by simp; omega
        rw [hok]
        clear hab hok
        go_enter Try.func36, Try.ntmps36
        ((first | go_at_call 33 | (go_wp2_with fail; go_at_call 33)); refine (c1).mono ?_; rintro _ _ ⟨rfl, rfl⟩)
        ((first | go_at_call 33 | (go_wp2_with fail; go_at_call 33)); refine (c2).mono ?_; rintro _ _ ⟨rfl, rfl⟩)
        go_wp2_with fail
        go_ret
        exact ⟨rfl, rfl⟩
    · have hok : S.okB a b = false := by unfold NetS.okB; simp [hb]
      rw [decide_eq_false hb] at c2
      rw [hok]
      clear hok
      go_enter Try.func36, Try.ntmps36
      ((first | go_at_call 33 | (go_wp2_with fail; go_at_call 33)); refine (c1).mono ?_; rintro _ _ ⟨rfl, rfl⟩)
      ((first | go_at_call 33 | (go_wp2_with fail; go_at_call 33)); refine (c2).mono ?_; rintro _ _ ⟨rfl, rfl⟩)
      go_wp2_with fail
      go_ret
      exact ⟨rfl, rfl⟩
  · have hok : S.okB a b = false := by unfold NetS.okB; simp [ha]
    rw [decide_eq_false ha] at c1
    rw [hok]
    clear hok
    go_enter Try.func36, Try.ntmps36
    ((first | go_at_call 33 | (go_wp2_with fail; go_at_call 33)); refine (c1).mono ?_; rintro _ _ ⟨rfl, rfl⟩)
    go_wp2_with fail
    go_ret
    exact ⟨rfl, rfl⟩

set_option maxRecDepth 100000 in
set_option maxHeartbeats 1000000 in
theorem has_ref {w : World} {q : Nat} {R : RLay} {S : NetS} (h : RefAt w q R S) (i : Nat) (hi6 : i ≤ 1000) :
    Calls Try.prog 23 #[ptr q, .int .i64 i] w fun e w' => ∃ v', e = .returned v' ∧ w = w' ∧ Row w 9 1 v' ((S.hasL i).map .string) := by
  have c1 := node_ref h i hi6
  by_cases hi : i < S.n
  · rw [decide_eq_true hi] at c1
    have f0 := Lib.hid h.f0
    obtain ⟨g, k, he⟩ := h.nodeElem hi
    have he' := Lib.hid he
    have hc := Lib.hid (show w.cell? ⟨g, k, none⟩ = some (R.val (.texts i)) from h.nodeCells hi he 0 _ rfl)
    have hrow := Lib.hid (show Row w 9 1 (R.val (.texts i)) ((S.hasL i).map .string) from by unfold NetS.hasL; rw [if_pos hi]; exact h.row (.texts i) hi)
    clear he
    go_enter Try.func23, Try.ntmps23
    ((first | go_at_call 33 | (go_wp2_with fail; go_at_call 33)); refine (c1).mono ?_; rintro _ _ ⟨rfl, rfl⟩)
    clear c1
    unfold ptr
    go_wp2_with (first
      | ((with_reducible change wpList _ _ _ (Oper.mk _ (Op.load _ _) _ _ _ _ :: _) _ _); refine BigFrame.wpList_want rfl (fun K hK => ?_); refine op_load1 rfl rfl Try.ag67 f0.out ?_; refine hK _ _ ?_; clear hK K)
      | ((with_reducible change wpList _ _ _ (Oper.mk _ (Op.indexAddr _ _ _) _ _ _ _ :: _) _ _); refine BigFrame.wpList_want rfl (fun K hK => ?_); refine op_elem rfl rfl rfl Try.underlying67 Try.szE74 he'.out ?_; refine hK _ _ ?_; clear hK K)
      | ((with_reducible change wpList _ _ _ (Oper.mk _ (Op.load _ _) _ _ _ _ :: _) _ _); refine BigFrame.wpList_want rfl (fun K hK => ?_); refine op_load1 rfl rfl Try.ag39 hc.out ?_; refine hK _ _ ?_; clear hK K))
    go_ret
    exact ⟨_, rfl, rfl, hrow.out⟩
  · rw [decide_eq_false hi] at c1
    have hrow := Lib.hid (show Row w 9 1 (.slice none 0 0) ((S.hasL i).map .string) from by unfold NetS.hasL; rw [if_neg hi]; exact Row.nil _ _ _)
    go_enter Try.func23, Try.ntmps23
    ((first | go_at_call 33 | (go_wp2_with fail; go_at_call 33)); refine (c1).mono ?_; rintro _ _ ⟨rfl, rfl⟩)
    go_wp2_with fail
    go_ret
    exact ⟨_, rfl, rfl, hrow.out⟩

theorem kept_len (p : ByteArray → Bool) (xs : List ByteArray) : (kept p xs).length ≤ xs.length := List.length_filter_le _ _
theorem kept_app (p : ByteArray → Bool) (xs : List ByteArray) (x : ByteArray) : kept p (xs ++ [x]) = kept p xs ++ if p x then [] else [x] := by
  unfold kept
  rw [List.filter_append]
  congr 1
  cases h : p x <;> simp [h]

set_option maxRecDepth 100000 in
set_option maxHeartbeats 4000000 in
theorem lacks_ref {w : World} {q : Nat} {R : RLay} {S : NetS} (h : RefAt w q R S) (wf : Wf S) (a b : Nat) (ha6 : a ≤ 1000) (hb6 : b ≤ 1000) :
    Calls Try.prog 25 #[ptr q, .int .i64 a, .int .i64 b] w fun e w' => ListPost w (S.lacks a b) e w' := by
  have c1 := pair_ref h a b ha6 hb6
  cases hok : S.okB a b with
  | false =>
    rw [hok] at c1
    have hl : S.lacks a b = [] := by
      unfold NetS.lacks
      rw [if_neg]
      intro hh
      rw [NetS.okB_iff.2 hh] at hok
      cases hok
    rw [hl]
    clear hok hl
    go_enter Try.func25, Try.ntmps25
    go_wp2_with fail
    ((first | go_at_call 36 | (go_wp2_with fail; go_at_call 36)); refine (c1).mono ?_; rintro _ _ ⟨rfl, rfl⟩)
    go_wp2_with fail
    go_ret
    exact ⟨_, rfl, Row.nil _ _ _, Touch.refl _ w, fun b hb => by simp [rowBlock] at hb⟩
  | true =>
    rw [hok] at c1
    obtain ⟨ha, hb, hne⟩ := NetS.okB_iff.1 hok
    have f0 := Lib.hid h.f0
    obtain ⟨g, k, he⟩ := h.nodeElem ha
    have hc := Lib.hid (h.nodeCells ha he)
    have he' := Lib.hid he
    have hkn := Lib.hid (show RowId.At w R S (.known a) from h.row (.known a) ha)
    obtain ⟨gk, kk, hek⟩ := RowN.elem hkn.out hb (by omega)
    have hck := Lib.hid (show w.cell? ⟨gk, kk, none⟩ = some (.int .i64 (S.known a b)) from RowN.one hkn.out hek hb)
    have hgt := Lib.hid (show RowId.At w R S (.got a) from h.row (.got a) ha)
    obtain ⟨gg, kg, heg⟩ := RowN.elem hgt.out hb (by omega)
    have hcg := Lib.hid (show w.cell? ⟨gg, kg, none⟩ = some (R.val (.gotT a b)) from RowN.one hgt.out heg hb)
    have hek' := Lib.hid hek
    have heg' := Lib.hid heg
    have rT := h.row (.texts a) ha
    have rG := h.row (.gotT a b) ⟨ha, hb⟩
    simp only [RowId.At] at rT rG
    have hlk := Lib.hid (show S.lacks a b = kept (fun s => inB s (S.sets (.got a b))) ((S.texts a).drop (min (S.known a b) (S.texts a).length)) from by unfold NetS.lacks; rw [if_pos ⟨ha, hb, hne⟩])
    have htl : (S.texts a).length ≤ 1000 := wf.textsLen ha
    have hkl : S.known a b ≤ 1000 := wf.known a b ha hb
    have hgl : (S.sets (.got a b)).length ≤ 1000 := Nat.le_trans (nodup_length _ _ (wf.gotN a b ha hb) (wf.got a b ha hb)) wf.all
    clear he hek heg hkn hgt hok
    generalize S.lacks a b = res at hlk ⊢
    generalize S.texts a = xs at rT hlk htl
    generalize S.sets (.got a b) = ys at rG hlk hgl
    generalize S.known a b = kn at hck hlk hkl
    have htlen := Lib.hid (show (xs.map Value.string).length = xs.length * 1 from by simp)
    have hone := Lib.hid (h.nodeOne ha)
    generalize R.val (.texts a) = vt at rT hc hone
    generalize R.val (.heard a) = vh at hc hone
    generalize R.val (.known a) = vk at hc hek' hone
    generalize R.val (.got a) = vg at hc heg' hone
    generalize R.val (.gotT a b) = vgt at hcg rG
    go_enter Try.func25, Try.ntmps25
    go_wp2_with fail
    ((first | go_at_call 36 | (go_wp2_with fail; go_at_call 36)); refine (c1).mono ?_; rintro _ _ ⟨rfl, rfl⟩)
    clear c1
    unfold ptr
    go_wp2_with (first
      | ((with_reducible change wpList _ _ _ (Oper.mk _ (Op.load _ _) _ _ _ _ :: _) _ _); refine BigFrame.wpList_want rfl (fun K hK => ?_); refine op_load1 rfl rfl Try.ag67 f0.out ?_; refine hK _ _ ?_; clear hK K)
      | ((with_reducible change wpList _ _ _ (Oper.mk _ (Op.indexAddr _ _ _) _ _ _ _ :: _) _ _); refine BigFrame.wpList_want rfl (fun K hK => ?_); refine op_elem rfl rfl rfl Try.underlying67 Try.szE74 he'.out ?_; refine hK _ _ ?_; clear hK K)
      | ((with_reducible change wpList _ _ _ (Oper.mk _ (Op.load _ _) _ _ _ _ :: _) _ _); refine BigFrame.wpList_want rfl (fun K hK => ?_); refine op_loadN (p := ⟨g, k, none⟩) (vs := [vt, vh, vk, vg]) rfl rfl Try.ag74 Try.szE74 hc.out ?_; refine hK _ _ ?_; clear hK K)
      | ((with_reducible change wpList _ _ _ (Oper.mk _ (Op.store _ _ _) _ _ _ _ :: _) _ _); refine BigFrame.wpList_want rfl (fun K hK => ?_); refine op_storeN (g := w.heap.size) (i := 0) (T := 74) (vs := [vt, vh, vk, vg]) rfl rfl rfl Try.szE74 hone.out (obj_new w _) (by simp) ?_; intro w2 hb2 ht2 hz2; refine hK _ _ ?_; clear hK K; rw [overw4] at hb2; have hE2 := Ext.new ht2; have b0 := Lib.hid (hb2.cell (i := 0) rfl); have b2 := Lib.hid (hb2.cell (i := 2) rfl); have b3 := Lib.hid (hb2.cell (i := 3) rfl))
      | ((with_reducible change wpList _ _ _ (Oper.mk _ (Op.load _ _) _ _ _ _ :: _) _ _); refine BigFrame.wpList_want rfl (fun K hK => ?_); refine op_load1 rfl rfl Try.ag72 b2.out ?_; refine hK _ _ ?_; clear hK K)
      | ((with_reducible change wpList _ _ _ (Oper.mk _ (Op.indexAddr _ _ _) _ _ _ _ :: _) _ _); refine BigFrame.wpList_want rfl (fun K hK => ?_); refine op_elem rfl rfl rfl Try.underlying72 Try.szE3' hek'.out ?_; refine hK _ _ ?_; clear hK K)
      | ((with_reducible change wpList _ _ _ (Oper.mk _ (Op.load _ _) _ _ _ _ :: _) _ _); refine BigFrame.wpList_want rfl (fun K hK => ?_); refine op_load1 rfl rfl Try.ag3 (hE2.cell hck.out (fun h => h)) ?_; refine hK _ _ ?_; clear hK K))
    have rT2 := rT.keep hE2 (fun _ _ h => h)
    have rG2 := rG.keep hE2 (fun _ _ h => h)
    have hcg2 := Lib.hid (hE2.cell hcg.out (fun h => h))
    clear rT rG hck hcg hc he' hone hb2 ht2 hz2
    go_loopw [7, 9] (fun u v W => ∃ d : Nat, v = .int .i64 ((kn + d : Nat) : Int) ∧ (d = 0 ∨ kn + d ≤ xs.length) ∧ Own w2 W u (kept (fun s => inB s ys) ((xs.drop kn).take d))) (fun _ v _ => xs.length - (intOf v).toNat)
    case atStart => exact ⟨0, rfl, .inl rfl, by simpa [kept] using Own.nil (Touch.refl _ w2)⟩
    case round =>
      obtain ⟨d, rfl, hd, ho⟩ := hrel
      have hol : (kept (fun s => inB s ys) ((xs.drop kn).take d)).length ≤ 1000 := by
        have h1 := kept_len (fun s => inB s ys) ((xs.drop kn).take d)
        rw [List.length_take, List.length_drop] at h1
        omega
      have hB0 := Lib.hid (ho.ext.cell b0.out (fun h => h))
      have hB3 := Lib.hid (ho.ext.cell b3.out (fun h => h))
      have rTW := rT2.keep ho.ext (fun _ _ h => h)
      by_cases hlt : kn + d < xs.length
      · have hxb := Lib.hid (show (kn + d + 1) * 1 ≤ (xs.map Value.string).length from by rw [htlen.out]; omega)
        have hx := Lib.hid (show (xs.map Value.string)[(kn + d) * 1 + 0]? = some (.string xs[kn + d]) from by simp [hlt])
        have hnext : (xs.drop kn).take (d + 1) = (xs.drop kn).take d ++ [xs[kn + d]] := by
          rw [List.take_succ_eq_append_getElem (by rw [List.length_drop]; omega), List.getElem_drop]
        have hka := kept_app (fun s => inB s ys) ((xs.drop kn).take d) xs[kn + d]
        rw [← hnext] at hka
        replace hka := Lib.hid hka
        have rGD := (rG2.keep ho.ext (fun _ _ h => h)).drew
        have rTD := rTW.drew
        have hin := in_contract (w := wr.drew) xs[kn + d] rGD (by omega)
        have hsz : ((kn + d : Nat) : Int) = (kn : Int) + (d : Int) := by omega
        clear hnext
        generalize hj : kn + d = j at hlt hxb hx hka hin ⊢
        go_wp2_with (first
          | ((with_reducible change wpList _ _ _ (Oper.mk _ (Op.load _ _) _ _ _ _ :: _) _ _); refine BigFrame.wpList_want rfl (fun K hK => ?_); refine op_load1 rfl rfl Try.ag39 hB0.out ?_; refine hK _ _ ?_; clear hK K)
          | ((with_reducible change wpList _ _ _ (Oper.mk _ (Op.call (Call.mk (Callee.builtin Builtin.len) _ _)) _ _ _ _ :: _) _ _); refine BigFrame.wpList_want rfl (fun K hK => ?_); refine op_len_row rfl rfl Try.underlying39 rTW (by omega) htlen.out ?_; refine hK _ _ ?_; clear hK K))
        refine wp_region_rt (by kernel_rfl) [0, 1, 0, 7, 15, 0, 32, 0, 224, 480, 1023, 2047] (.rd 0 (.rd 1 (.rd 2 (.rd 3 (.rd 4 (.rd 5 (.rd 6 (.rd 7 (.rd 8 (.rd 9 (.e1 10 [] (.rd 11 (.nil))))))))))))) (by kernel_rfl) ?_
        iterate 1 (refine cw_rd rfl rfl rfl rfl rfl (fun K hK => ?_); go_wp2_with fail)
        (refine cw_rd rfl rfl rfl rfl rfl (fun K hK => ?_); refine op_load1 rfl rfl Try.ag45 (cell_drew hB3.out) ?_; refine hK _ ?_; clear hK K)
        iterate 1 (refine cw_rd rfl rfl rfl rfl rfl (fun K hK => ?_); go_wp2_with fail)
        (refine cw_rd rfl rfl rfl rfl rfl (fun K hK => ?_); refine op_elem rfl rfl rfl Try.underlying45 Try.szE39 heg'.out ?_; refine hK _ ?_; clear hK K)
        (refine cw_rd rfl rfl rfl rfl rfl (fun K hK => ?_); refine op_load1 rfl rfl Try.ag39 (cell_drew (ho.ext.cell hcg2.out (fun h => h))) ?_; refine hK _ ?_; clear hK K)
        iterate 1 (refine cw_rd rfl rfl rfl rfl rfl (fun K hK => ?_); go_wp2_with fail)
        (refine cw_rd rfl rfl rfl rfl rfl (fun K hK => ?_); refine op_load1 rfl rfl Try.ag39 (cell_drew hB0.out) ?_; refine hK _ ?_; clear hK K)
        iterate 1 (refine cw_rd rfl rfl rfl rfl rfl (fun K hK => ?_); go_wp2_with fail)
        (refine cw_rd rfl rfl rfl rfl rfl (fun K hK => ?_); refine op_index_row (i := j) rfl rfl rfl Try.underlying39 Try.szE9 rTD hxb.out (by omega) ?_; intro g3 k3 cs3 hel3; refine hK _ ?_; clear hK K)
        (refine cw_rd rfl rfl rfl rfl rfl (fun K hK => ?_); refine op_load1 rfl rfl Try.ag9 (hel3.cell (j := 0) (by omega) hx.out) ?_; refine hK _ ?_; clear hK K)
        cases hib : inB xs[j] ys with
        | true =>
          rw [hib] at hin
          have hka' := hka.out
          rw [hib, if_pos rfl, List.append_nil] at hka'
          replace hka' := Lib.hid hka'
          clear hka hib
          refine cw_e1 rfl rfl (fun K hK => ?_)
          go_wp2_with (first | (go_at_call 29; refine hin.mono ?_; rintro _ _ ⟨rfl, rfl⟩))
          refine ⟨fl_none, ?_⟩
          iterate 1 (refine cw_rd rfl rfl rfl rfl rfl (fun K hK => ?_); go_wp2_with fail)
          refine cw_nil ?_
          go_wp2_with fail
          exact ⟨⟨d + 1, by go_num, .inr (by omega), by rw [hka'.out]; exact ho.then ((Touch.refl _ wr).drew)⟩, by simp [intOf]; omega⟩
        | false =>
          rw [hib] at hin
          have hka' := hka.out
          rw [hib, if_neg (by simp)] at hka'
          replace hka' := Lib.hid hka'
          clear hka hib
          have hor := (ho.then ((Touch.refl _ wr).drew)).then (Ext.alloc wr.drew (.cells #[.string xs[j]] 9))
          have hrs := Row.new wr.drew 9 [.string xs[j]] (by simp) (by simp)
          refine cw_e1 rfl rfl (fun K hK => ?_)
          go_wp2_with (first | (go_at_call 29; refine hin.mono ?_; rintro _ _ ⟨rfl, rfl⟩))
          refine ⟨fl_none, ?_⟩
          iterate 1 (refine cw_rd rfl rfl rfl rfl rfl (fun K hK => ?_); go_wp2_with fail)
          refine cw_nil ?_
          go_wp2_with (first
            | ((with_reducible change wpList _ _ _ (Oper.mk _ (Op.load _ _) _ _ _ _ :: _) _ _); refine BigFrame.wpList_want rfl (fun K hK => ?_); refine op_load1 rfl rfl Try.ag39 (cell_drew hB0.out) ?_; refine hK _ _ ?_; clear hK K)
            | ((with_reducible change wpList _ _ _ (Oper.mk _ (Op.indexAddr _ _ _) _ _ _ _ :: _) _ _); refine BigFrame.wpList_want rfl (fun K hK => ?_); refine op_index_row (i := j) rfl rfl rfl Try.underlying39 Try.szE9 rTD hxb.out (by omega) ?_; intro g5 k5 cs5 hel5; refine hK _ _ ?_; clear hK K)
            | ((with_reducible change wpList _ _ _ (Oper.mk _ (Op.load _ _) _ _ _ _ :: _) _ _); refine BigFrame.wpList_want rfl (fun K hK => ?_); refine op_load1 rfl rfl Try.ag9 (hel5.cell (j := 0) (by omega) hx.out) ?_; refine hK _ _ ?_; clear hK K)
            | ((with_reducible change wpList _ _ _ (Oper.mk _ (Op.call (Call.mk (Callee.builtin Builtin.append) _ _)) _ _ _ _ :: _) _ _); refine BigFrame.wpList_want rfl (fun K hK => ?_); refine op_append_texts (ys := [xs[j]]) rfl rfl rfl hor hrs (by simp only [List.length_cons, List.length_nil]; omega) ?_; intro v7 w7 o7 t7; refine hK _ _ ?_; clear hK K))
          exact ⟨⟨d + 1, by go_num, .inr (by omega), by rw [hka'.out]; exact o7⟩, by simp [intOf]; omega⟩
      · have hfin := Lib.hid (show res = kept (fun s => inB s ys) ((xs.drop kn).take d) from by
          rw [hlk.out]
          rcases Nat.le_total kn xs.length with h1 | h1
          · rw [Nat.min_eq_left h1, List.take_of_length_le (by rw [List.length_drop]; omega)]
          · rw [Nat.min_eq_right h1, List.drop_length, List.drop_eq_nil_of_le h1, List.take_nil])
        have hsz : ((kn + d : Nat) : Int) = (kn : Int) + (d : Int) := by omega
        generalize hj : kn + d = j at hlt ⊢
        go_wp2_with (first
          | ((with_reducible change wpList _ _ _ (Oper.mk _ (Op.load _ _) _ _ _ _ :: _) _ _); refine BigFrame.wpList_want rfl (fun K hK => ?_); refine op_load1 rfl rfl Try.ag39 hB0.out ?_; refine hK _ _ ?_; clear hK K)
          | ((with_reducible change wpList _ _ _ (Oper.mk _ (Op.call (Call.mk (Callee.builtin Builtin.len) _ _)) _ _ _ _ :: _) _ _); refine BigFrame.wpList_want rfl (fun K hK => ?_); refine op_len_row rfl rfl Try.underlying39 rTW (by omega) htlen.out ?_; refine hK _ _ ?_; clear hK K))
        go_ret
        have hsz2 := hE2.size
        exact ⟨_, rfl, by rw [hfin.out]; exact ho.row, hE2.then_ext ho.ext, fun b hb => by have := ho.new b hb; omega⟩
end Go.Proofs.Ytcipfpebjeakfaa
