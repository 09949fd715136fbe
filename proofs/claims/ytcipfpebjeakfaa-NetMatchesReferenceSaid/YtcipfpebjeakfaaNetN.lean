/-
  Contract: New.
-/
import Derived.Test.YtcipfpebjeakfaaNetM
import Derived.Test.YtcipfpebjeakfaaNetK
namespace Go.Proofs.Ytcipfpebjeakfaa
open Go Go.RowKit Go.WideMaps
open Go.Maps (Keyed)

theorem op_makeMap {P : Program} {a : Act} {w : World} {K : Act → World → Prop} {Q : Exit → Act → World → Prop} {o : Oper} {t : TypeId} (ho : o.op = .makeMap t none)
    (h : K (a.put o.dst (.map (some w.heap.size))) (w.alloc (.map #[] 0))) : o.wp P a w K Q := by
  refine op_run (Instr.makeMap t none) _ _ ?_ (by rfl) h
  obtain ⟨dst, op, type, pos, after, guard⟩ := o; cases ho; rfl

attribute [local irreducible] World.cell? World.frozen? isAggB _root_.Go.Program.underlying

set_option maxRecDepth 100000 in
set_option maxHeartbeats 4000000 in
theorem new_bad {w : World} (n : Int) (hlo : -9223372036854775808 ≤ n) (hhi : n ≤ 9223372036854775807) (h : n < 1 ∨ 8 < n) :
    Calls Try.prog 11 #[.int .i64 n] w fun e w' => e = .returned (.tuple #[.pointer none, .int .i64 1]) ∧ w = w' := by
  by_cases h1 : n < 1
  · go_enter Try.func11, Try.ntmps11
    go_wp2_with fail
    go_ret2
    exact ⟨rfl, rfl⟩
  · have h2 : 8 < n := by omega
    go_enter Try.func11, Try.ntmps11
    go_wp2_with fail
    go_ret2
    exact ⟨rfl, rfl⟩

theorem pairs_new {L : Lay} {n a b : Nat} : pairV a b ∉ ((pairsTo n a b).map fun q => (pairV q.1 q.2, ptr (L.qcell q.1 q.2))).map (·.1) := by
  intro hin
  simp only [List.map_map, List.mem_map, Function.comp] at hin
  obtain ⟨q, hq, he⟩ := hin
  obtain ⟨e1, e2⟩ := pairV_inj he
  simp only [pairsTo, List.mem_append, List.mem_flatMap, List.mem_map, List.mem_range] at hq
  rcases hq with ⟨i, hi, j, hj, rfl⟩ | ⟨j, hj, rfl⟩
  · simp at e1; omega
  · simp at e2; omega

theorem NewAt.start (w : World) (n : Nat) : ∃ L, NewAt w.heap.size ((((w.alloc (.map #[] 0)).alloc (.map #[] 0)).alloc (.map #[] 0)).alloc
      (.cells #[.slice none 0 0, .map (some w.heap.size), .map (some (w.heap.size + 1)), .map (some (w.heap.size + 1 + 1))] 55)) (w.heap.size + 1 + 1 + 1) L n 0 false 0 := by
  have m0 := MapAt.new Try.prog 66 w 0
  have m1 := MapAt.new Try.prog 66 (w.alloc (.map #[] 0)) 0
  have m2 := MapAt.new Try.prog 9 ((w.alloc (.map #[] 0)).alloc (.map #[] 0)) 0
  have b3 := obj_new (((w.alloc (.map #[] 0)).alloc (.map #[] 0)).alloc (.map #[] 0)) (.cells #[.slice none 0 0, .map (some w.heap.size), .map (some (w.heap.size + 1)), .map (some (w.heap.size + 1 + 1))] 55)
  simp only [World.size_alloc] at m1 m2 b3
  refine ⟨Lay.mk (.slice none 0 0) w.heap.size (w.heap.size + 1) (fun _ => 0) (fun _ => w.heap.size + 1 + 1) (fun _ => undef) (fun _ _ => 0) (fun _ _ => undef) (fun _ _ => [])
    (fun x => if x = w.heap.size then .queues else if x = w.heap.size + 1 then .cut else if x = w.heap.size + 1 + 1 then .set .all else if x = w.heap.size + 1 + 1 + 1 then .net else .oth), ?_⟩
  exact {
    fresh := fun x hx => by
      simp only [World.size_alloc] at hx
      dsimp only
      rw [if_neg (by omega), if_neg (by omega), if_neg (by omega), if_neg (by omega)]
    old := fun x hx => by
      dsimp only
      rw [if_neg (by omega), if_neg (by omega), if_neg (by omega), if_neg (by omega)]
    tnet := by
      dsimp only
      rw [if_neg (by omega), if_neg (by omega), if_neg (by omega), if_pos rfl]
    net := b3
    tnodes := fun b hb => by simp [rowBlock] at hb
    nodes := Row.nil _ _ _
    tnode := fun i hi => by rcases hi with hi | hi; omega; cases hi.1
    node := fun i hi => by rcases hi with hi | hi; omega; cases hi.1
    tall := by
      dsimp only
      rw [if_neg (by omega), if_neg (by omega), if_pos rfl]
    all := m2.alloc _
    thas := fun i hi => by rcases hi with hi | hi; omega; cases hi.1
    has := fun i hi => by rcases hi with hi | hi; omega; cases hi.1
    tgot := fun i j hi => by rcases hi with hi | hi; omega; cases hi.1
    got := fun i j hi => by rcases hi with hi | hi; omega; cases hi.1
    tqueues := by dsimp only; rw [if_pos rfl]
    queues := by
      have := ((m0.alloc (.map #[] 0)).alloc (.map #[] 0)).alloc (.cells #[.slice none 0 0, .map (some w.heap.size), .map (some (w.heap.size + 1)), .map (some (w.heap.size + 1 + 1))] 55)
      simpa [pairsTo] using this
    tcut := by
      dsimp only
      rw [if_neg (by omega), if_pos rfl]
    cut := (m1.alloc _).alloc _
    tqcell := fun i j hi => by rcases hi with hi | hi; omega; cases hi.1
    qcell := fun i j hi => by rcases hi with hi | hi; omega; cases hi.1 }

def NewPost (w : World) (n : Nat) (e : Ending) (w' : World) : Prop :=
  ∃ p L, e = .returned (.tuple #[ptr p, .int .i64 0]) ∧ NetAt w' p L (NetS.fresh n) ∧ Ext w w' ∧ ∀ b, b < w.heap.size → L.tag b = .oth

theorem Try.sz53 : (Try.prog.info? 53).map (·.size) = some 1 := by kernel_rfl
theorem Try.zero61 : (Try.prog.info? 61).map (·.size) = some 26 := by kernel_rfl

set_option maxRecDepth 100000 in
set_option maxHeartbeats 4000000 in
theorem new_good {w : World} (n : Nat) (h1 : 1 ≤ n) (h8 : n ≤ 8) :
    Calls Try.prog 11 #[.int .i64 n] w fun e w' => NewPost w n e w' := by
  obtain ⟨i0, hi0, hz0, hz1, hz2⟩ := info_parts Try.in56
  have h8' : (n : Int) ≤ 8 := by omega
  have h1' : 1 ≤ (n : Int) := by omega
  go_enter Try.func11, Try.ntmps11
  go_wp2_with (first | ((with_reducible change wpList _ _ _ (Oper.mk _ (Op.makeMap _ _) _ _ _ _ :: _) _ _); refine BigFrame.wpList_want rfl (fun K hK => ?_); refine op_makeMap rfl ?_; refine hK _ _ ?_; clear hK K))
  go_loopw [20] (fun u W => ∃ a : Nat, u = .int .i64 a ∧ a ≤ n ∧ ∃ L, NewAt w.heap.size W (w.heap.size + 1 + 1 + 1) L n a false 0 ∧ Ext w W) (fun u _ => n - (intOf u).toNat)
  case atStart =>
    obtain ⟨L, hL⟩ := NewAt.start w n
    exact ⟨0, rfl, Nat.zero_le _, L, hL, Touch.alloc (Touch.alloc (Touch.alloc (Ext.alloc w _) _) _) _⟩
  case round =>
    obtain ⟨a, rfl, ha, L, hL, hE⟩ := hrel
    by_cases hlt : a < n
    · go_wp2_with (first | ((with_reducible change wpList _ _ _ (Oper.mk _ (Op.makeMap _ _) _ _ _ _ :: _) _ _); refine BigFrame.wpList_want rfl (fun K hK => ?_); refine op_makeMap rfl ?_; refine hK _ _ ?_; clear hK K))
      have hEn : Ext wr ((wr.alloc (.map #[] 0)).alloc (.cells #[.slice none 0 0, .map (some wr.heap.size), .int .i64 0, .int .i64 0, .map none, .int .i64 0, .int .i64 0, .map none, .int .i64 0, .int .i64 0, .map none, .int .i64 0, .int .i64 0, .map none,
        .int .i64 0, .int .i64 0, .map none, .int .i64 0, .int .i64 0, .map none, .int .i64 0, .int .i64 0, .map none, .int .i64 0, .int .i64 0, .map none] 61)) := Touch.alloc (Ext.alloc wr _) _
      have hbn := obj_new (wr.alloc (.map #[] 0)) (.cells #[.slice none 0 0, .map (some wr.heap.size), .int .i64 0, .int .i64 0, .map none, .int .i64 0, .int .i64 0, .map none, .int .i64 0, .int .i64 0, .map none, .int .i64 0, .int .i64 0, .map none,
        .int .i64 0, .int .i64 0, .map none, .int .i64 0, .int .i64 0, .map none, .int .i64 0, .int .i64 0, .map none, .int .i64 0, .int .i64 0, .map none] 61)
      simp only [World.size_alloc] at hbn
      have hL1 := hL.node1 (g1 := wr.heap.size) (g2 := wr.heap.size + 1) hEn (Nat.le_refl _) (by omega) (by simp) hE.size ((MapAt.new Try.prog 9 wr 0).alloc _) hbn (by rfl) (by rfl) (by rfl) (fun j hj => by
        have : j = 0 ∨ j = 1 ∨ j = 2 ∨ j = 3 ∨ j = 4 ∨ j = 5 ∨ j = 6 ∨ j = 7 := by omega
        rcases this with rfl | rfl | rfl | rfl | rfl | rfl | rfl | rfl <;> exact ⟨rfl, rfl⟩)
      have hsame := Lib.hid (show (upd L.node a (wr.heap.size + 1)) a = wr.heap.size + 1 from upd_same _ _ _)
      generalize hW0 : wr.heap.size + 1 = gn at hL1 hsame ⊢
      have hstart := Lib.hid (show ∃ L', NewAt w.heap.size ((wr.alloc (.map #[] 0)).alloc (.cells #[.slice none 0 0, .map (some wr.heap.size), .int .i64 0, .int .i64 0, .map none, .int .i64 0, .int .i64 0, .map none, .int .i64 0, .int .i64 0, .map none, .int .i64 0, .int .i64 0, .map none,
        .int .i64 0, .int .i64 0, .map none, .int .i64 0, .int .i64 0, .map none, .int .i64 0, .int .i64 0, .map none, .int .i64 0, .int .i64 0, .map none] 61)) (w.heap.size + 1 + 1 + 1) L' n a true 0 ∧ L'.node a = gn from ⟨_, hL1, hsame.out⟩)
      have hEw := hE.then_ext hEn
      clear hL1 hsame hbn hW0
      go_loopw [27] (fun u W => ∃ b : Nat, u = .int .i64 b ∧ b ≤ n ∧ (∃ L', NewAt w.heap.size W (w.heap.size + 1 + 1 + 1) L' n a true b ∧ L'.node a = gn) ∧ Ext w W) (fun u _ => n - (intOf u).toNat)
      case atStart => exact ⟨0, rfl, Nat.zero_le _, hstart.out, hEw⟩
      case round =>
        clear hstart hEw hEn hL hE
        obtain ⟨b, rfl, hb, ⟨L1, h1L, hgn⟩, hE1⟩ := hrel
        subst hgn
        have tn := Lib.hid (h1L.tnode a (.inr ⟨rfl, rfl⟩))
        have hpn := Lib.hid (show ¬ (w.heap.size + 1 + 1 + 1 = L1.node a) from fun e => by have := h1L.tnet; rw [e, tn.out] at this; cases this)
        have hqn := Lib.hid (show ¬ (L1.queues = L1.node a) from fun e => by have := h1L.tqueues; rw [e, tn.out] at this; cases this)
        have hnw := Lib.hid (show w.heap.size ≤ L1.node a from by
          rcases Nat.lt_or_ge (L1.node a) w.heap.size with h' | h'
          · have := h1L.old _ h'; rw [tn.out] at this; cases this
          · exact h')
        have hqw := Lib.hid (show w.heap.size ≤ L1.queues from by
          rcases Nat.lt_or_ge L1.queues w.heap.size with h' | h'
          · have := h1L.old _ h'; rw [h1L.tqueues] at this; cases this
          · exact h')
        obtain ⟨c, hc, hcs, _⟩ := h1L.node a (.inr ⟨rfl, rfl⟩)
        have hc' := Lib.hid hc
        have hcs' := Lib.hid hcs
        have hna := Lib.hid (obj_lt hc)
        have hqa := Lib.hid (h1L.queues.lt)
        have hEs := hE1.size
        clear hc hcs
        by_cases hbl : b < n
        · have hb8 : (b : Int) < 8 := by omega
          have f1 := Lib.hid (show wr.cell? ⟨w.heap.size + 1 + 1 + 1, 1, none⟩ = some (.map (some L1.queues)) from h1L.net.cell (i := 1) rfl)
          have hk := Lib.hid (key66 a b (by omega) (by omega))
          have hqs := h1L.queues
          go_wp2_with (first
            | ((with_reducible change wpList _ _ _ (Oper.mk _ (Op.makeMap _ _) _ _ _ _ :: _) _ _); refine BigFrame.wpList_want rfl (fun K hK => ?_); refine op_makeMap rfl ?_; refine hK _ _ ?_; clear hK K)
            | ((with_reducible change wpList _ _ _ (Oper.mk _ (Op.store _ _ _) _ _ _ _ :: _) _ _); refine BigFrame.wpList_want rfl (fun K hK => ?_); refine op_store1 (g := L1.node a) (i := 2 + b * 3 + 2) (T := 61) (cs := c) rfl rfl rfl Try.sz44 rfl (obj_alloc hc'.out _) (by rw [hcs'.out]; omega) ?_; intro w1 hb1 ht1 hz1; refine hK _ _ ?_; clear hK K)
            | ((with_reducible change wpList _ _ _ (Oper.mk _ (Op.load _ _) _ _ _ _ :: _) _ _); refine BigFrame.wpList_want rfl (fun K hK => ?_); refine op_load1 rfl rfl Try.ag51 (ht1.cell (cell_alloc f1.out _) hpn.out) ?_; refine hK _ _ ?_; clear hK K)
            | ((with_reducible change wpList _ _ _ (Oper.mk _ (Op.mapUpdate _ _ _ _) _ _ _ _ :: _) _ _); refine BigFrame.wpList_want rfl (fun K hK => ?_); refine op_update_miss (k := pairV a b) (v := ptr w1.heap.size) rfl rfl rfl rfl Try.k66 Try.underlying51 (((hqs.alloc _).keep ht1 hqn.out).alloc _) hk.out pairs_new ?_; intro w2 hm2 ht2 hz2; refine hK _ _ ?_; clear hK K))
          have hs1 := ht1.size
          have hs2 := ht2.size
          simp only [World.size_alloc] at hs1 hs2
          have hng : ¬ (wr.heap.size = L1.node a) := by have := hna.out; omega
          have hnq : ¬ (wr.heap.size = L1.queues) := by have := hqa.out; omega
          have hnq2 : ¬ (w1.heap.size = L1.queues) := by have := hqa.out; omega
          have htt : Touch (fun x => x = L1.node a ∨ x = L1.queues) wr w2 :=
            ((((Ext.alloc wr (.map #[] 0)).mono (G := fun x => x = L1.node a ∨ x = L1.queues) fun _ _ h => h.elim).trans ht1 fun _ _ h => .inl h).alloc _).trans ht2 fun _ _ h => .inr h
          have hm3 : MapAt Try.prog 9 w2 wr.heap.size [] := (((MapAt.new Try.prog 9 wr 0).keep ht1 hng).alloc _).keep ht2 hnq
          have hpeer := h1L.peer1 (g1 := wr.heap.size) (g2 := w1.heap.size) hbl h8 hEs hc'.out htt (Nat.le_refl _) (by omega) (by omega) hm3 (ht2.obj (obj_new w1 _) hnq2) (ht2.obj (obj_alloc hb1 _) (fun e => hqn.out e.symm)) hm2
          have hE2 : Ext w w2 := ((Touch.of_ext (F := fun x => x = L1.node a ∨ x = L1.queues) hE1).trans htt fun _ _ h => h).mono fun x hx h => by
            have := hnw.out; have := hqw.out
            rcases h with h | h <;> omega
          exact ⟨⟨b + 1, by go_num, hbl, ⟨_, hpeer, rfl⟩, hE2⟩, by simp [intOf]; omega⟩
        · have e : b = n := by omega
          subst e
          have f0 := Lib.hid (show wr.cell? ⟨w.heap.size + 1 + 1 + 1, 0, none⟩ = some L1.nodes from h1L.net.cell (i := 0) rfl)
          have one1 : ∀ u ∈ [ptr (L1.node a)], u.oneCell' = true := by simp [Value.oneCell']
          have hbnd := Lib.hid (show (((List.range a).map fun i => ptr (L1.node i)).length + [ptr (L1.node a)].length) * 8 ≤ 140737488355328 ∧ ((List.range a).map fun i => ptr (L1.node i)).length + [ptr (L1.node a)].length ≤ maxLen from by
            unfold maxLen; simp only [List.length_map, List.length_range, List.length_cons, List.length_nil]; omega)
          have hpr := Lib.hid (show ∀ x, rowBlock L1.nodes = some x → ¬ (w.heap.size + 1 + 1 + 1 = x) from fun x hx e => by have := h1L.tnodes x hx; rw [← e, h1L.tnet] at this; cases this)
          go_wp2_with (first
            | ((with_reducible change wpList _ _ _ (Oper.mk _ (Op.load _ _) _ _ _ _ :: _) _ _); refine BigFrame.wpList_want rfl (fun K hK => ?_); refine op_load1 rfl rfl Try.ag53 f0.out ?_; refine hK _ _ ?_; clear hK K)
            | ((with_reducible change wpList _ _ _ (Oper.mk _ (Op.call (Call.mk (Callee.builtin Builtin.append) _ _)) _ _ _ _ :: _) _ _); refine BigFrame.wpList_want rfl (fun K hK => ?_); refine op_append (v := L1.nodes) (sv := .slice (some ⟨wr.heap.size, 0, none⟩) 1 1) (news := [ptr (L1.node a)]) rfl rfl rfl Try.underlying53 hi0 hz0 hz1 hz2 rfl (by omega) (h1L.nodes.alloc _) rfl rfl
                (fun ad had j u hu => by injection had with had; subst had; exact news_one wr _ hu) (fun h => by cases h) one1 hbnd.out.1 hbnd.out.2 ?_; intro v2 w2 hr2 ht2 hs2'; refine hK _ _ ?_; clear hK K)
            | ((with_reducible change wpList _ _ _ (Oper.mk _ (Op.store _ _ _) _ _ _ _ :: _) _ _); refine BigFrame.wpList_want rfl (fun K hK => ?_); refine op_store1 (g := w.heap.size + 1 + 1 + 1) (i := 0) (T := 55) rfl rfl rfl Try.sz53 (row_one hr2) (ht2.obj (obj_alloc h1L.net _) (fun e => hpr.out _ e rfl)) (by simp) ?_; intro w3 hb3 ht3 hz3; refine hK _ _ ?_; clear hK K))
          have hs2 := ht2.size
          have hs3 := ht3.size
          simp only [World.size_alloc] at hs2
          have hnew : ∀ x, rowBlock v2 = some x → ¬ (x = w.heap.size + 1 + 1 + 1) := by
            intro x hx e
            rcases hs2' with ⟨h1, _⟩ | ⟨h1, _⟩
            · exact hpr.out x (by rw [← h1]; exact hx) e.symm
            · have h2 := h1.symm.trans hx
              injection h2 with h2
              have h3 := obj_lt h1L.net
              simp only [World.size_alloc] at h2
              omega
          have htt : Touch (fun x => x = w.heap.size + 1 + 1 + 1 ∨ rowBlock L1.nodes = some x) wr w3 :=
            (((Ext.alloc wr _).mono (G := fun x => x = w.heap.size + 1 + 1 + 1 ∨ rowBlock L1.nodes = some x) fun _ _ h => h.elim).trans ht2 fun _ _ h => .inr h).trans ht3 fun _ _ h => .inl h
          have hv : rowBlock v2 = rowBlock L1.nodes ∨ ∃ g, rowBlock v2 = some g ∧ wr.heap.size ≤ g ∧ g < w3.heap.size := by
            rcases hs2' with ⟨h1, _⟩ | ⟨h1, h2, _⟩
            · exact .inl h1
            · refine .inr ⟨_, h1, by simp, by simp only [World.size_alloc] at h2 ⊢; omega⟩
          have hrow := h1L.row1 (v := v2) hEs htt hb3 (hr2.keep ht3 hnew) hv
          have hE2 : Ext w w3 := ((Touch.of_ext (F := fun x => x = w.heap.size + 1 + 1 + 1 ∨ rowBlock L1.nodes = some x) hE1).trans htt fun _ _ h => h).mono fun x hx h => by
            rcases h with h | h
            · omega
            · have := h1L.old x hx; rw [h1L.tnodes x h] at this; cases this
          exact ⟨⟨a + 1, by go_num, hlt, _, hrow, hE2⟩, by simp [intOf]; omega⟩
    · have e : a = n := by omega
      subst e
      go_wp2_with fail
      go_ret2
      refine ⟨_, _, rfl, hL.done h8, hE, hL.old⟩
end Go.Proofs.Ytcipfpebjeakfaa
