/-
  Contracts of the reference: Put.
-/
import Derived.Test.YtcipfpebjeakfaaRefB
import Derived.Deep.CutRange
namespace Go.Proofs.Ytcipfpebjeakfaa
open Go Go.RowKit Go.WideMaps

def RefPost (B : Nat) (w : World) (q : Nat) (R : RLay) (S : NetS) (w' : World) : Prop := ∃ R', RefAt w' q R' S ∧ RTo B w w' R R'

section
variable {w w0 w' : World} {q : Nat} {R R1 : RLay} {S S1 S2 : NetS} {B : Nat}
theorem RefPost.of_ext (h : RefAt w q R S) (hE : Ext w w') : RefPost w.heap.size w q R S w' := ⟨R, h.ext hE, RTo.same (Nat.le_refl _) hE⟩
theorem RefPost.then (t1 : RTo B w w0 R R1) (h2 : RefPost w0.heap.size w0 q R1 S2 w') : RefPost B w q R S2 w' := by
  obtain ⟨R', h3, h4⟩ := h2
  exact ⟨R', h3, t1.trans (h4.less (Nat.le_trans t1.base t1.touch.size))⟩
/-- What the reference holds of a state. -/
structure Alike (S S' : NetS) : Prop where
  n : S'.n = S.n
  texts : S'.texts = S.texts
  all : S'.sets .all = S.sets .all
  got : ∀ i j, S'.sets (.got i j) = S.sets (.got i j)
  heard : S'.heard = S.heard
  known : S'.known = S.known
  queues : S'.queues = S.queues
  off : S'.off = S.off
theorem RefAt.like (h : RefAt w q R S) (e : Alike S S1) : RefAt w q R S1 where
  n8 := by rw [e.n]; exact h.n8
  fresh := h.fresh
  tnet := h.tnet
  net := h.net
  row := fun r hr => by
    have hok : r.ok S := by cases r <;> first | trivial | simpa [RowId.ok, e.n, e.queues] using hr
    have := h.row r hok
    cases r <;> simpa [RowId.At, e.n, e.texts, e.all, e.got, e.heard, e.known, e.queues, e.off] using this
  tag := fun r hr => h.tag r (by cases r <;> first | trivial | simpa [RowId.ok, e.n, e.queues] using hr)
theorem RefPost.like (h : RefPost B w q R S w') (e : Alike S S1) : RefPost B w q R S1 w' := by
  obtain ⟨R', h1, h2⟩ := h
  exact ⟨R', h1.like e, h2⟩

theorem RefAt.ltag (h : RefAt w q R S) {b : Nat} (hb : R.tag b ≠ .oth) : b < w.heap.size := by
  rcases Nat.lt_or_ge b w.heap.size with h' | h'
  · exact h'
  · exact absurd (h.fresh b h') hb
/-- A row of one's own shares no block with what the reference holds. -/
theorem RefAt.apart (h : RefAt w q R S) {r : RowId} (hr : r.ok S) {v : Value} {xs : List ByteArray} {W : World} (ho : Own w W v xs) {b : Nat} (hb : rowBlock v = some b) : ¬ rowBlock (R.val r) = some b := by
  intro he
  have h1 := h.tag r hr b he
  have h2 := h.fresh b (ho.new b hb)
  rw [h1] at h2
  exact r.tagOf_ne.1 h2

theorem RefPost.text {W : World} (h : RefAt w q R S) {i : Nat} (hi : i < S.n) {v : Value} {xs : List ByteArray} (ho : Own w W v xs) (ht : Touch (fun b => rowBlock (R.val .nodes) = some b) W w')
    (hn : RowN w' 74 4 (R.val .nodes) S.n (upd2 (nodeF R) i 0 v)) (e : Alike { S with texts := upd S.texts i xs } S1) : RefPost w.heap.size w q R S1 w' := by
  have h1 := h.ext ho.ext
  have hr := ho.row.keep ht fun b hb => h.apart (r := .nodes) trivial ho hb
  refine ⟨_, (h1.setText hi ht hn hr fun b hb => .inl (h.fresh b (ho.new b hb))).like e, Nat.le_refl _, fun b hb => tagNew_old fun e => by have := ho.new b e; omega, (Touch.of_ext ho.ext).trans ht fun b _ hb => .inr (.inr ⟨.nodes, h.tag .nodes trivial b hb⟩)⟩
theorem RefPost.got {W : World} (h : RefAt w q R S) {i j : Nat} (hi : i < S.n) {v : Value} {xs : List ByteArray} (ho : Own w W v xs) (ht : Touch (fun b => rowBlock (R.val (.got i)) = some b) W w')
    (hn : RowN w' 39 1 (R.val (.got i)) S.n (upd2 (fun j _ => R.val (.gotT i j)) j 0 v)) : RefPost w.heap.size w q R { S with sets := updS S.sets (.got i j) xs } w' := by
  have h1 := h.ext ho.ext
  have hr := ho.row.keep ht fun b hb => h.apart (r := .got i) hi ho hb
  refine ⟨_, h1.setGot hi ht hn hr fun b hb => .inl (h.fresh b (ho.new b hb)), Nat.le_refl _, fun b hb => tagNew_old fun e => by have := ho.new b e; omega, (Touch.of_ext ho.ext).trans ht fun b _ hb => .inr (.inr ⟨.got i, h.tag (.got i) hi b hb⟩)⟩
theorem RefPost.all {W w2 : World} (h : RefAt w q R S) {v : Value} {xs : List ByteArray} (hE : Ext w W) (hr : Row w2 9 1 v (xs.map .string)) (ht : Touch (fun b => rowBlock (R.val .all) = some b) W w2)
    (hs : rowBlock v = rowBlock (R.val .all) ∨ ∃ g, rowBlock v = some g ∧ W.heap.size ≤ g) (ht2 : Touch (· = q) w2 w') (hnet : Blk w' q 71 #[R.val .nodes, R.val .queues, R.val .off, v]) :
    RefPost w.heap.size w q R { S with sets := updS S.sets .all xs } w' := by
  have h1 := h.ext hE
  have hv : ∀ b, rowBlock v = some b → rowBlock (R.val .all) = some b ∨ R.tag b = .oth := by
    intro b hb
    rcases hs with hs | ⟨g, hg, hge⟩
    · exact .inl (by rw [← hs]; exact hb)
    · rw [hg] at hb; injection hb with hb; subst hb; exact .inr (h1.fresh _ hge)
  have hne : ∀ b, rowBlock v = some b → ¬ b = q := by
    intro b hb e
    subst e
    rcases hv b hb with h2 | h2
    · have := h.tag .all trivial b h2; rw [h.tnet] at this; cases this
    · rw [h.tnet] at h2; cases h2
  have htt : Touch (fun b => b = q ∨ rowBlock (R.val .all) = some b) W w' := (ht.mono (G := fun b => b = q ∨ rowBlock (R.val .all) = some b) fun _ _ h => .inr h).trans ht2 fun _ _ h => .inl h
  refine ⟨_, h1.setAll htt hnet (hr.keep ht2 hne) hv, Nat.le_refl _, fun b hb => ?_, (Touch.of_ext hE).trans htt fun b _ hb => ?_⟩
  · show (if rowBlock v = some b then RTag.row .all else R.tag b) = R.tag b
    by_cases e : rowBlock v = some b
    · rw [if_pos e]
      rcases hs with hs | ⟨g, hg, hge⟩
      · rw [h.tag .all trivial b (by rw [← hs]; exact e)]; rfl
      · rw [hg] at e; injection e with e; have := hE.size; omega
    · rw [if_neg e]
  · rcases hb with rfl | hb
    · exact .inr (.inl h.tnet)
    · exact .inr (.inr ⟨.all, h.tag .all trivial b hb⟩)
end

attribute [local irreducible] World.cell? World.frozen? isAggB _root_.Go.Program.underlying

theorem alike_add {S : NetS} {i : Nat} {s : ByteArray} (h : S.sets (.has i) = S.texts i) (hin : s ∉ S.texts i) : Alike { S with texts := upd S.texts i (S.texts i ++ [s]) } (S.add i s) := by
  have : S.add i s = { S with sets := updS S.sets (.has i) (S.sets (.has i) ++ [s]), texts := upd S.texts i (S.texts i ++ [s]) } := by
    unfold NetS.add; rw [if_neg (by rw [h]; exact hin)]
  rw [this]
  exact ⟨rfl, rfl, by simp [updS], fun i j => by simp [updS], rfl, rfl, rfl, rfl⟩
theorem add_same {S : NetS} {i : Nat} {s : ByteArray} (h : S.sets (.has i) = S.texts i) (hin : s ∈ S.texts i) : S.add i s = S := by
  unfold NetS.add; rw [if_pos (by rw [h]; exact hin)]

/-- What Put does behind 'all': the text to the node. -/
theorem fits_one {w W W' : World} {v : Value} {xs : List ByteArray} (o : Own w W v xs) (h : Ext W W') : Own w W' v xs := o.then h
theorem ext_none {W W' : World} {v : Value} (hv : rowBlock v = none) (h : Touch (fun b => rowBlock v = some b) W W') : Ext W W' := h.mono fun b _ e => by rw [hv] at e; cases e

section
variable {P : Program} {o : Oper} {a : Act} {w : World} {K : Act → World → Prop} {Q : Exit → Act → World → Prop} {t E : TypeId} {i : TypeInfo} {z : Value}
theorem execOp_buildSlice {ρ : Operand → Value} {n : Nat} {parts : Array (Nat × Operand)} (ho : o.op = .buildSlice t n parts) : execOp ρ o = (do pure (.value (← Instr.buildSlice t n (parts.map fun (i, x) => (i, ρ x))))) := by
  obtain ⟨dst, op, type, pos, after, guard⟩ := o; cases ho; rfl
/-- The frame written out by the walk. -/
theorem op_norm {dst : Option Tmp} {d : Tmp} {v : Value} (hd : dst = some d) (h : (Oper.mk (some d) (.assign (.const v)) 0 "" #[] none).wp Try.prog a w K (fun _ _ _ => False)) : K (a.put dst v) w := by
  subst hd; exact h
theorem op_done {dst : Option Tmp} {v : Value} (hd : dst = none) (h : K a w) : K (a.put dst v) w := by
  subst hd; exact h
/-- An empty slice of its own. -/
theorem op_build0 (ho : o.op = .buildSlice t 0 #[]) (ht : P.underlying t = some (.slice E)) (hi : P.info? E = some i)
    (h : ∀ v' w', Row w' E i.size v' [] → rowBlock v' = none → Ext w w' → K (a.put o.dst v') w') : o.wp P a w K Q := by
  refine op_run (Instr.buildSlice t 0 #[]) (.slice (some ⟨w.heap.size, 0, none⟩) 0 0) (w.alloc (.cells #[] E)) ?_ ?_ (h _ _ ?_ (by simp [rowBlock]) (Ext.alloc w _))
  · rw [execOp_buildSlice ho]; simp
  · have e0 : Array.range 0 = #[] := rfl
    simp [Instr.buildSlice, run_underlying ht, sizeOf, typeInfo, hi, Instr.fill, newRow, e0]
  · exact ⟨_, _, _, rfl, by simp, Nat.le_refl _, Nat.zero_le _, (fun h => by cases h), fun h => by omega⟩
/-- A slice of one element of one cell. -/
theorem op_build1 {x : Operand} {v : Value} (ho : o.op = .buildSlice t 1 #[(0, x)]) (hx : a.eval x = v) (ht : P.underlying t = some (.slice E)) (hi : P.info? E = some i) (hz : i.zero = some z) (hs : i.size = 1) (hzc : z.cells.size = 1) (h1 : v.oneCell' = true)
    (h : ∀ v' w', Row w' E 1 v' [v] → (∀ b, rowBlock v' = some b → w.heap.size ≤ b) → Ext w w' → K (a.put o.dst v') w') : o.wp P a w K Q := by
  have hcell : v.cells = #[v] := by cases v <;> first | rfl | (simp [Value.oneCell'] at h1; done)
  refine op_run (Instr.buildSlice t 1 #[(0, v)]) (.slice (some ⟨w.heap.size, 0, none⟩) 1 1) (w.alloc (.cells #[v] E)) ?_ ?_ (h _ _ (Row.new w E [v] (by simp) (by simp)) (fun b hb => by simp [rowBlock] at hb; omega) (Ext.alloc w _))
  · rw [execOp_buildSlice ho, ← hx]; simp
  · have e1 : Array.range 1 = #[0] := rfl
    simp [Instr.buildSlice, run_underlying ht, sizeOf, typeInfo, hi, hs, Instr.fill, newRow, hcell, zeroValue, hz, e1]
/-- A slice of one element of three cells. -/
theorem op_build3 {x : Operand} {a1 a2 a3 : Value} (ho : o.op = .buildSlice t 1 #[(0, x)]) (hx : a.eval x = .agg #[a1, a2, a3]) (ht : P.underlying t = some (.slice E)) (hi : P.info? E = some i) (hz : i.zero = some z) (hs : i.size = 3) (hzc : z.cells.size = 3)
    (h : ∀ v' w', Row w' E 3 v' [a1, a2, a3] → (∀ b, rowBlock v' = some b → w.heap.size ≤ b) → Ext w w' → K (a.put o.dst v') w') : o.wp P a w K Q := by
  have hb : Blk (w.alloc (.cells #[a1, a2, a3] E)) w.heap.size E #[a1, a2, a3] := obj_new w _
  refine op_run (Instr.buildSlice t 1 #[(0, .agg #[a1, a2, a3])]) (.slice (some ⟨w.heap.size, 0, none⟩) 1 1) (w.alloc (.cells #[a1, a2, a3] E)) ?_ ?_
    (h _ _ ⟨_, _, _, rfl, by simp, Nat.le_refl _, by unfold maxLen; omega, (fun e => by cases e), fun _ => ⟨_, 0, _, rfl, hb, by simp, fun j u hu => by simpa using hu⟩⟩ (fun b hb => by simp [rowBlock] at hb; omega) (Ext.alloc w _))
  · rw [execOp_buildSlice ho, ← hx]; simp
  · have e3 : Array.range 3 = #[0, 1, 2] := rfl
    have hc3 : (Value.agg #[a1, a2, a3]).cells = #[a1, a2, a3] := rfl
    simp [Instr.buildSlice, run_underlying ht, sizeOf, typeInfo, hi, hs, Instr.fill, newRow, zeroValue, hz, hc3, e3]
end

section
variable {P : Program} {o : Oper} {a : Act} {w : World} {t E : TypeId} {v : Value} {size : Nat}
theorem run_ld {x : Operand} {p : Addr} (hop : o.op = .load t x) (hx : a.eval x = .pointer (some p)) (ht : isAggB P t = some false) (hc : w.cell? p = some v) : (execOp a.eval o).run P w = .ok (.value v) w := by
  rw [execOp_load hop, hx]; simp [run_load1 ht hc]
theorem run_el {x y : Operand} {i g k : Nat} (hop : o.op = .indexAddr t x y) (hx : a.eval x = v) (hy : a.eval y = .int .i64 i)
    (ht : P.underlying t = some (.slice E)) (hs : (P.info? E).map (·.size) = some size) (he : Elem v size i g k) : (execOp a.eval o).run P w = .ok (.value (.pointer (some ⟨g, k, none⟩))) w := by
  rw [execOp_indexAddr hop, hx, hy]; simp [he.run ht hs]
end

set_option maxRecDepth 100000 in
set_option maxHeartbeats 4000000 in
theorem put_ref {w : World} {q : Nat} {R : RLay} {S : NetS} (h : RefAt w q R S) (wf : Wf S) (i : Nat) (s : ByteArray) (hi6 : i ≤ 1000) (hs : s.size ≤ 20000) (hall : (S.sets .all).length ≤ 900) :
    Calls Try.prog 14 #[ptr q, .int .i64 i, .string s] w fun e w' => e = .returned (.int .i64 (S.okI i)) ∧ RefPost w.heap.size w q R (S.put i s) w' := by
  have c1 := node_ref h i hi6
  by_cases hi : i < S.n
  · rw [decide_eq_true hi] at c1
    have hcode : S.okI i = 0 := by unfold NetS.okI; rw [if_pos hi]
    have hput : S.put i s = (S.know s).add i s := by unfold NetS.put; rw [if_pos hi]
    rw [hcode, hput]
    have f3 := Lib.hid h.f3
    have rA := h.row .all trivial
    simp only [RowId.At] at rA
    have c2 := in_contract s rA (by omega)
    have hs' : ¬ (20000 < (s.size : Int)) := by omega
    clear hcode hput
    go_enter Try.func14, Try.ntmps14
    ((first | go_at_call 33 | (go_wp2_with fail; go_at_call 33)); refine (c1).mono ?_; rintro _ _ ⟨rfl, rfl⟩)
    clear c1
    unfold ptr
    go_upto_if 20 with (first
      | ((with_reducible change wpList _ _ _ (Oper.mk _ (Op.load _ _) _ _ _ _ :: _) _ _); refine BigFrame.wpList_want rfl (fun K hK => ?_); refine op_load1 rfl rfl Try.ag39 f3.out ?_; refine hK _ _ ?_; clear hK K)
      | (go_at_call 29; refine c2.mono ?_; rintro _ _ ⟨rfl, rfl⟩))
    go_cut [] from 7 (fun W => RefPost w.heap.size w q R (S.know s) W)
    case first =>
      cases hib : inB s (S.sets .all) with
      | true =>
        go_wp2_with fail
        go_meet
        case rel =>
          have hin : s ∈ S.sets .all := by
            by_cases hin : s ∈ S.sets .all
            · exact hin
            · rw [inB_false hin] at hib; cases hib
          have hkn : S.know s = S := by unfold NetS.know; rw [if_pos hin]
          rw [hkn]
          exact RefPost.of_ext h (Touch.refl _ w)
      | false =>
        have hin : s ∉ S.sets .all := fun hin => by rw [inB_true hin] at hib; cases hib
        have hkn := Lib.hid (show S.know s = { S with sets := updS S.sets .all (S.sets .all ++ [s]) } from by unfold NetS.know; rw [if_neg hin])
        have hlen := Lib.hid (show ((S.sets .all).map Value.string).length = (S.sets .all).length * 1 from by simp)
        have hne : (((S.sets .all).length : Int) == 1000) = false := by rw [beq_eq_false_iff_ne]; omega
        have hbnd := Lib.hid (show (((S.sets .all).map Value.string).length + [Value.string s].length) * 16 ≤ 140737488355328 ∧ ((S.sets .all).map Value.string).length + [Value.string s].length ≤ maxLen from by
          unfold maxLen
          simp only [List.length_map, List.length_cons, List.length_nil]
          omega)
        have one1 : ∀ u ∈ [Value.string s], u.oneCell' = true := by simp [Value.oneCell']
        have hq := Lib.hid (show ∀ b, rowBlock (R.val .all) = some b → ¬ q = b from fun b hb e => by have := h.tag .all trivial b hb; rw [← e, h.tnet] at this; cases this)
        obtain ⟨i0, hi0, hz0, hz1', hz2⟩ := info_parts Try.in9
        clear hin hib c2
        go_wp2_with (first
          | ((with_reducible change wpList _ _ _ (Oper.mk _ (Op.load _ _) _ _ _ _ :: _) _ _); refine BigFrame.wpList_want rfl (fun K hK => ?_); refine op_load1 rfl rfl Try.ag39 f3.out ?_; refine hK _ _ ?_; clear hK K)
          | ((with_reducible change wpList _ _ _ (Oper.mk _ (Op.call (Call.mk (Callee.builtin Builtin.len) _ _)) _ _ _ _ :: _) _ _); refine BigFrame.wpList_want rfl (fun K hK => ?_); refine op_len_row rfl rfl Try.underlying39 rA (by omega) hlen.out ?_; refine hK _ _ ?_; clear hK K)
          | ((with_reducible change wpList _ _ _ (Oper.mk _ (Op.call (Call.mk (Callee.builtin Builtin.append) _ _)) _ _ _ _ :: _) _ _); refine BigFrame.wpList_want rfl (fun K hK => ?_); refine op_append (v := R.val .all) (sv := .slice (some ⟨w.heap.size, 0, none⟩) 1 1) (news := [.string s]) rfl rfl rfl Try.underlying39 hi0 hz0 hz1' hz2 rfl (by omega)
              (rA.alloc _) rfl rfl (fun ad had j u hu => by injection had with had; subst had; exact news_one w _ hu) (fun h => by cases h) one1 hbnd.out.1 hbnd.out.2 ?_; intro v2 w2 hr2 ht2 hs2; refine hK _ _ ?_; clear hK K)
          | ((with_reducible change wpList _ _ _ (Oper.mk _ (Op.store _ _ _) _ _ _ _ :: _) _ _); refine BigFrame.wpList_want rfl (fun K hK => ?_); refine op_store1 (g := q) (i := 3) (T := 71) rfl rfl rfl Try.sz39 (row_one hr2) (ht2.obj (obj_alloc h.net _) (fun e => hq.out _ e rfl)) (by simp) ?_; intro w3 hb3 ht3 hz3; refine hK _ _ ?_; clear hK K))
        go_meet
        case rel =>
          rw [hkn.out]
          refine RefPost.all h (Ext.alloc w _) (by rw [List.map_append]; exact hr2) ht2 ?_ ht3 hb3
          rcases hs2 with ⟨h1, _⟩ | ⟨h1, _⟩
          · exact .inl h1
          · exact .inr ⟨_, h1, Nat.le_refl _⟩
    case rest =>
      obtain ⟨R1, h1, t1⟩ := hcut
      have wf1 := wf.know hs (by omega)
      have hn1 : (S.know s).n = S.n := S.know_n s
      generalize hkS : S.know s = S1 at h1 wf1 hn1
      replace hkS := Lib.hid hkS
      have hi1 : i < S1.n := by rw [hn1]; exact hi
      clear c2 rA f3 hi h
      have f0 := Lib.hid h1.f0
      obtain ⟨g, k, he⟩ := h1.nodeElem hi1
      have he' := Lib.hid he
      have hc := Lib.hid (show wc.cell? ⟨g, k, none⟩ = some (R1.val (.texts i)) from h1.nodeCells hi1 he 0 _ rfl)
      have rT := h1.row (.texts i) hi1
      simp only [RowId.At] at rT
      have htl : (S1.texts i).length ≤ 1000 := wf1.textsLen hi1
      have c3 := in_contract s rT (by omega)
      have hhas := wf1.has i hi1
      clear he
      by_cases hin : s ∈ S1.texts i
      · have hadd := Lib.hid (add_same hhas hin)
        rw [inB_true hin] at c3
        clear hin
        ((first | go_at_call 29 | (go_wp2_with (first | ((with_reducible change wpList _ _ _ (Oper.mk _ (Op.load _ _) _ _ _ _ :: _) _ _); refine BigFrame.wpList_want rfl (fun K hK => ?_); refine op_load1 rfl rfl Try.ag67 f0.out ?_; refine hK _ _ ?_; clear hK K) | ((with_reducible change wpList _ _ _ (Oper.mk _ (Op.indexAddr _ _ _) _ _ _ _ :: _) _ _); refine BigFrame.wpList_want rfl (fun K hK => ?_); refine op_elem rfl rfl rfl Try.underlying67 Try.szE74 he'.out ?_; refine hK _ _ ?_; clear hK K) | ((with_reducible change wpList _ _ _ (Oper.mk _ (Op.load _ _) _ _ _ _ :: _) _ _); refine BigFrame.wpList_want rfl (fun K hK => ?_); refine op_load1 rfl rfl Try.ag39 hc.out ?_; refine hK _ _ ?_; clear hK K)); go_at_call 29)); refine (c3).mono ?_; rintro _ _ ⟨rfl, rfl⟩)
        go_wp2_with fail
        go_ret
        exact ⟨rfl, by rw [hkS.out, hadd.out]; exact RefPost.then t1 (RefPost.of_ext h1 (Touch.refl _ wc))⟩
      · have hadd := Lib.hid (alike_add hhas hin)
        have rowN : RowN wc 74 4 (R1.val .nodes) S1.n (nodeF R1) := h1.row .nodes trivial
        rw [inB_false hin] at c3
        clear hin
        ((first | go_at_call 29 | (go_wp2_with (first | ((with_reducible change wpList _ _ _ (Oper.mk _ (Op.load _ _) _ _ _ _ :: _) _ _); refine BigFrame.wpList_want rfl (fun K hK => ?_); refine op_load1 rfl rfl Try.ag67 f0.out ?_; refine hK _ _ ?_; clear hK K) | ((with_reducible change wpList _ _ _ (Oper.mk _ (Op.indexAddr _ _ _) _ _ _ _ :: _) _ _); refine BigFrame.wpList_want rfl (fun K hK => ?_); refine op_elem rfl rfl rfl Try.underlying67 Try.szE74 he'.out ?_; refine hK _ _ ?_; clear hK K) | ((with_reducible change wpList _ _ _ (Oper.mk _ (Op.load _ _) _ _ _ _ :: _) _ _); refine BigFrame.wpList_want rfl (fun K hK => ?_); refine op_load1 rfl rfl Try.ag39 hc.out ?_; refine hK _ _ ?_; clear hK K)); go_at_call 29)); refine (c3).mono ?_; rintro _ _ ⟨rfl, rfl⟩)
        clear c3
        go_wp2_with fail
        refine wp_region_rt (by kernel_rfl) [0, 1, 3, 7, 0, 0, 0, 64, 192, 448, 0, 1984, 4032, 8128, 16352, 0, 32768, 131040, 262143, 524287, 1048575] (.rd 0 (.rd 1 (.rd 2 (.rd 3 (.rd 4 (.rd 6 (.rd 7 (.rd 8 (.rd 9 (.rd 10 (.rd 11 (.rd 12 (.rd 13 (.rd 15 (.e2 5 [1, 2, 3, 7, 8, 9, 11, 12, 13] (.e2 14 [1, 2, 3] (.e1 16 [1, 2, 3, 7, 8, 9, 11, 12, 13] (.e1 17 [1, 2, 3] (.rd 18 (.rd 19 (.e1 20 [] (.nil)))))) 16 [1, 2, 3, 7, 8, 9, 11, 12, 13] (.e1 14 [1, 2, 3] (.e1 17 [1, 2, 3] (.rd 18 (.rd 19 (.e1 20 [] (.nil))))))) 16 [1, 2, 3, 7, 8, 9, 11, 12, 13] (.e1 5 [1, 2, 3, 7, 8, 9, 11, 12, 13] (.e1 14 [1, 2, 3] (.e1 17 [1, 2, 3] (.rd 18 (.rd 19 (.e1 20 [] (.nil)))))))))))))))))))))) (by kernel_rfl) ?_
        iterate 3 (refine cw_rd rfl rfl rfl rfl rfl (fun K hK => ?_); go_wp2_with fail)
        (refine cw_rd rfl rfl rfl rfl rfl (fun K hK => ?_); refine op_load1 rfl rfl Try.ag67 (cell_drew f0.out) ?_; refine op_norm rfl ?_; go_wp2_with fail)
        iterate 4 (refine cw_rd rfl rfl rfl rfl rfl (fun K hK => ?_); go_wp2_with fail)
        (refine cw_rd rfl rfl rfl rfl rfl (fun K hK => ?_); refine op_load1 rfl rfl Try.ag67 (cell_drew f0.out) ?_; refine op_norm rfl ?_; go_wp2_with fail)
        iterate 1 (refine cw_rd rfl rfl rfl rfl rfl (fun K hK => ?_); go_wp2_with fail)
        (refine cw_rd rfl rfl rfl rfl rfl (fun K hK => ?_); refine op_elem rfl rfl rfl Try.underlying67 Try.szE74 he'.out ?_; refine op_norm rfl ?_; go_wp2_with fail)
        iterate 1 (refine cw_rd rfl rfl rfl rfl rfl (fun K hK => ?_); go_wp2_with fail)
        (refine cw_rd rfl rfl rfl rfl rfl (fun K hK => ?_); refine op_load1 rfl rfl Try.ag39 (cell_drew hc.out) ?_; refine op_norm rfl ?_; go_wp2_with fail)
        iterate 1 (refine cw_rd rfl rfl rfl rfl rfl (fun K hK => ?_); go_wp2_with fail)
        have hE : Ext wc wc.drew := (Touch.refl _ wc).drew
        obtain ⟨i9, hi9, hz9, hsz9, _⟩ := info_parts Try.in9
        have hzc9 : (Value.string ⟨#[]⟩).cells.size = 1 := rfl
        refine cw_e2 ?_ ?_
        · refine cw_e1 rfl rfl (fun K hK => ?_)
          refine op_build0 rfl Try.underlying39 hi9 ?_
          intro vE wE rE nE xE
          refine op_norm rfl ?_
          go_wp2_with fail
          try replace rT1 := rT1.keep xE (fun _ _ h => h)
          replace hE := hE.then_ext xE
          rw [hsz9] at rE
          have oE : Own _ _ vE [] := ⟨rE, (fun b hb => by rw [nE] at hb; cases hb), hE⟩
          clear rE xE
          refine ⟨?_, ?_⟩
          · (repeat (first | exact fl_nil | refine fl_skip rfl ?_ | (refine fl_take rfl ?_ ?_; (refine yldI_of rfl rfl ?_; first | exact run_ld rfl rfl Try.ag67 (hE.cell f0.out (fun h => h)) | exact run_ld rfl rfl Try.ag39 (hE.cell hc.out (fun h => h)) | exact run_el rfl rfl rfl Try.underlying67 Try.szE74 he'.out |  go_simp))))
          refine cw_e2 ?_ ?_
          · refine cw_e1 rfl rfl (fun K hK => ?_)
            refine op_append_texts rfl rfl rfl oE (rT.keep hE (fun _ _ h => h)) (by simp only [List.length_nil]; omega) ?_
            intro vA wA oA tA
            refine op_norm rfl ?_
            go_wp2_with fail
            try replace rT1 := rT1.keep (ext_none nE tA) (fun _ _ h => h)
            replace hE := oA.ext
            clear tA oE nE
            refine ⟨?_, ?_⟩
            · (repeat (first | exact fl_nil | refine fl_skip rfl ?_ | (refine fl_take rfl ?_ ?_; (refine yldI_of rfl rfl ?_; first | exact run_ld rfl rfl Try.ag67 (hE.cell f0.out (fun h => h)) | exact run_ld rfl rfl Try.ag39 (hE.cell hc.out (fun h => h)) | exact run_el rfl rfl rfl Try.underlying67 Try.szE74 he'.out |  go_simp))))
            refine cw_e1 rfl rfl (fun K hK => ?_)
            refine op_build1 (v := .string s) rfl rfl Try.underlying39 hi9 hz9 hsz9 hzc9 rfl ?_
            intro vT wT rT1 fT xT
            refine op_norm rfl ?_
            go_wp2_with fail
            try replace oE := oE.then xT
            try replace oA := oA.then xT
            replace hE := hE.then_ext xT
            clear xT fT
            refine ⟨?_, ?_⟩
            · (repeat (first | exact fl_nil | refine fl_skip rfl ?_ | (refine fl_take rfl ?_ ?_; (refine yldI_of rfl rfl ?_; first | exact run_ld rfl rfl Try.ag67 (hE.cell f0.out (fun h => h)) | exact run_ld rfl rfl Try.ag39 (hE.cell hc.out (fun h => h)) | exact run_el rfl rfl rfl Try.underlying67 Try.szE74 he'.out |  go_simp))))
            refine cw_e1 rfl rfl (fun K hK => ?_)
            refine op_append_texts (ys := [s]) rfl rfl rfl oA rT1 (by simp only [List.nil_append, List.length_cons, List.length_nil]; omega) ?_
            intro vB wB oB tB
            refine op_norm rfl ?_
            go_wp2_with fail
            replace hE := oB.ext
            rw [List.nil_append] at oB
            clear tB oA rT1
            refine ⟨?_, ?_⟩
            · (repeat (first | exact fl_nil | refine fl_skip rfl ?_ | (refine fl_take rfl ?_ ?_; (refine yldI_of rfl rfl ?_; first | exact run_ld rfl rfl Try.ag67 (hE.cell f0.out (fun h => h)) | exact run_ld rfl rfl Try.ag39 (hE.cell hc.out (fun h => h)) | exact run_el rfl rfl rfl Try.underlying67 Try.szE74 he'.out |  go_simp))))
            (refine cw_rd rfl rfl rfl rfl rfl (fun K hK => ?_); refine op_elem rfl rfl rfl Try.underlying67 Try.szE74 he'.out ?_; refine op_norm rfl ?_; go_wp2_with fail)
            iterate 1 (refine cw_rd rfl rfl rfl rfl rfl (fun K hK => ?_); go_wp2_with fail)
            refine cw_e1 rfl rfl (fun K hK => ?_)
            refine op_store_rowN (d := 0) rfl rfl rfl Try.sz39 (row_one oB.row) (rowN.keep hE (fun _ _ h => h)) he'.out hi1 (by omega) ?_
            intro wS hS tS
            refine op_done rfl ?_
            refine hK _ _ ?_
            clear hK K
            refine ⟨fl_none, ?_⟩
            refine cw_nil ?_
            go_wp2_with fail
            go_ret
            exact ⟨rfl, by rw [hkS.out]; exact RefPost.then t1 (RefPost.text h1 hi1 oB tS hS hadd.out)⟩
          · refine cw_e1 rfl rfl (fun K hK => ?_)
            refine op_build1 (v := .string s) rfl rfl Try.underlying39 hi9 hz9 hsz9 hzc9 rfl ?_
            intro vT wT rT1 fT xT
            refine op_norm rfl ?_
            go_wp2_with fail
            try replace oE := oE.then xT
            try replace oA := oA.then xT
            replace hE := hE.then_ext xT
            clear xT fT
            refine ⟨?_, ?_⟩
            · (repeat (first | exact fl_nil | refine fl_skip rfl ?_ | (refine fl_take rfl ?_ ?_; (refine yldI_of rfl rfl ?_; first | exact run_ld rfl rfl Try.ag67 (hE.cell f0.out (fun h => h)) | exact run_ld rfl rfl Try.ag39 (hE.cell hc.out (fun h => h)) | exact run_el rfl rfl rfl Try.underlying67 Try.szE74 he'.out |  go_simp))))
            refine cw_e1 rfl rfl (fun K hK => ?_)
            refine op_append_texts rfl rfl rfl oE (rT.keep hE (fun _ _ h => h)) (by simp only [List.length_nil]; omega) ?_
            intro vA wA oA tA
            refine op_norm rfl ?_
            go_wp2_with fail
            try replace rT1 := rT1.keep (ext_none nE tA) (fun _ _ h => h)
            replace hE := oA.ext
            clear tA oE nE
            refine ⟨?_, ?_⟩
            · (repeat (first | exact fl_nil | refine fl_skip rfl ?_ | (refine fl_take rfl ?_ ?_; (refine yldI_of rfl rfl ?_; first | exact run_ld rfl rfl Try.ag67 (hE.cell f0.out (fun h => h)) | exact run_ld rfl rfl Try.ag39 (hE.cell hc.out (fun h => h)) | exact run_el rfl rfl rfl Try.underlying67 Try.szE74 he'.out |  go_simp))))
            refine cw_e1 rfl rfl (fun K hK => ?_)
            refine op_append_texts (ys := [s]) rfl rfl rfl oA rT1 (by simp only [List.nil_append, List.length_cons, List.length_nil]; omega) ?_
            intro vB wB oB tB
            refine op_norm rfl ?_
            go_wp2_with fail
            replace hE := oB.ext
            rw [List.nil_append] at oB
            clear tB oA rT1
            refine ⟨?_, ?_⟩
            · (repeat (first | exact fl_nil | refine fl_skip rfl ?_ | (refine fl_take rfl ?_ ?_; (refine yldI_of rfl rfl ?_; first | exact run_ld rfl rfl Try.ag67 (hE.cell f0.out (fun h => h)) | exact run_ld rfl rfl Try.ag39 (hE.cell hc.out (fun h => h)) | exact run_el rfl rfl rfl Try.underlying67 Try.szE74 he'.out |  go_simp))))
            (refine cw_rd rfl rfl rfl rfl rfl (fun K hK => ?_); refine op_elem rfl rfl rfl Try.underlying67 Try.szE74 he'.out ?_; refine op_norm rfl ?_; go_wp2_with fail)
            iterate 1 (refine cw_rd rfl rfl rfl rfl rfl (fun K hK => ?_); go_wp2_with fail)
            refine cw_e1 rfl rfl (fun K hK => ?_)
            refine op_store_rowN (d := 0) rfl rfl rfl Try.sz39 (row_one oB.row) (rowN.keep hE (fun _ _ h => h)) he'.out hi1 (by omega) ?_
            intro wS hS tS
            refine op_done rfl ?_
            refine hK _ _ ?_
            clear hK K
            refine ⟨fl_none, ?_⟩
            refine cw_nil ?_
            go_wp2_with fail
            go_ret
            exact ⟨rfl, by rw [hkS.out]; exact RefPost.then t1 (RefPost.text h1 hi1 oB tS hS hadd.out)⟩
        · refine cw_e1 rfl rfl (fun K hK => ?_)
          refine op_build1 (v := .string s) rfl rfl Try.underlying39 hi9 hz9 hsz9 hzc9 rfl ?_
          intro vT wT rT1 fT xT
          refine op_norm rfl ?_
          go_wp2_with fail
          try replace oE := oE.then xT
          try replace oA := oA.then xT
          replace hE := hE.then_ext xT
          clear xT fT
          refine ⟨?_, ?_⟩
          · (repeat (first | exact fl_nil | refine fl_skip rfl ?_ | (refine fl_take rfl ?_ ?_; (refine yldI_of rfl rfl ?_; first | exact run_ld rfl rfl Try.ag67 (hE.cell f0.out (fun h => h)) | exact run_ld rfl rfl Try.ag39 (hE.cell hc.out (fun h => h)) | exact run_el rfl rfl rfl Try.underlying67 Try.szE74 he'.out |  go_simp))))
          refine cw_e1 rfl rfl (fun K hK => ?_)
          refine op_build0 rfl Try.underlying39 hi9 ?_
          intro vE wE rE nE xE
          refine op_norm rfl ?_
          go_wp2_with fail
          try replace rT1 := rT1.keep xE (fun _ _ h => h)
          replace hE := hE.then_ext xE
          rw [hsz9] at rE
          have oE : Own _ _ vE [] := ⟨rE, (fun b hb => by rw [nE] at hb; cases hb), hE⟩
          clear rE xE
          refine ⟨?_, ?_⟩
          · (repeat (first | exact fl_nil | refine fl_skip rfl ?_ | (refine fl_take rfl ?_ ?_; (refine yldI_of rfl rfl ?_; first | exact run_ld rfl rfl Try.ag67 (hE.cell f0.out (fun h => h)) | exact run_ld rfl rfl Try.ag39 (hE.cell hc.out (fun h => h)) | exact run_el rfl rfl rfl Try.underlying67 Try.szE74 he'.out |  go_simp))))
          refine cw_e1 rfl rfl (fun K hK => ?_)
          refine op_append_texts rfl rfl rfl oE (rT.keep hE (fun _ _ h => h)) (by simp only [List.length_nil]; omega) ?_
          intro vA wA oA tA
          refine op_norm rfl ?_
          go_wp2_with fail
          try replace rT1 := rT1.keep (ext_none nE tA) (fun _ _ h => h)
          replace hE := oA.ext
          clear tA oE nE
          refine ⟨?_, ?_⟩
          · (repeat (first | exact fl_nil | refine fl_skip rfl ?_ | (refine fl_take rfl ?_ ?_; (refine yldI_of rfl rfl ?_; first | exact run_ld rfl rfl Try.ag67 (hE.cell f0.out (fun h => h)) | exact run_ld rfl rfl Try.ag39 (hE.cell hc.out (fun h => h)) | exact run_el rfl rfl rfl Try.underlying67 Try.szE74 he'.out |  go_simp))))
          refine cw_e1 rfl rfl (fun K hK => ?_)
          refine op_append_texts (ys := [s]) rfl rfl rfl oA rT1 (by simp only [List.nil_append, List.length_cons, List.length_nil]; omega) ?_
          intro vB wB oB tB
          refine op_norm rfl ?_
          go_wp2_with fail
          replace hE := oB.ext
          rw [List.nil_append] at oB
          clear tB oA rT1
          refine ⟨?_, ?_⟩
          · (repeat (first | exact fl_nil | refine fl_skip rfl ?_ | (refine fl_take rfl ?_ ?_; (refine yldI_of rfl rfl ?_; first | exact run_ld rfl rfl Try.ag67 (hE.cell f0.out (fun h => h)) | exact run_ld rfl rfl Try.ag39 (hE.cell hc.out (fun h => h)) | exact run_el rfl rfl rfl Try.underlying67 Try.szE74 he'.out |  go_simp))))
          (refine cw_rd rfl rfl rfl rfl rfl (fun K hK => ?_); refine op_elem rfl rfl rfl Try.underlying67 Try.szE74 he'.out ?_; refine op_norm rfl ?_; go_wp2_with fail)
          iterate 1 (refine cw_rd rfl rfl rfl rfl rfl (fun K hK => ?_); go_wp2_with fail)
          refine cw_e1 rfl rfl (fun K hK => ?_)
          refine op_store_rowN (d := 0) rfl rfl rfl Try.sz39 (row_one oB.row) (rowN.keep hE (fun _ _ h => h)) he'.out hi1 (by omega) ?_
          intro wS hS tS
          refine op_done rfl ?_
          refine hK _ _ ?_
          clear hK K
          refine ⟨fl_none, ?_⟩
          refine cw_nil ?_
          go_wp2_with fail
          go_ret
          exact ⟨rfl, by rw [hkS.out]; exact RefPost.then t1 (RefPost.text h1 hi1 oB tS hS hadd.out)⟩
  · rw [decide_eq_false hi] at c1
    have hcode : S.okI i = 1 := by unfold NetS.okI; rw [if_neg hi]
    have hput : S.put i s = S := by unfold NetS.put; rw [if_neg hi]
    rw [hcode, hput]
    clear hcode hput
    go_enter Try.func14, Try.ntmps14
    ((first | go_at_call 33 | (go_wp2_with fail; go_at_call 33)); refine (c1).mono ?_; rintro _ _ ⟨rfl, rfl⟩)
    go_wp2_with fail
    go_ret
    exact ⟨rfl, RefPost.of_ext h (Touch.refl _ w)⟩
end Go.Proofs.Ytcipfpebjeakfaa
