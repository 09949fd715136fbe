/-
  The plain law and the walk: NetAgain.
-/
import Derived.Test.YtcipfpebjeakfaaNetU
namespace Go.Proofs.Ytcipfpebjeakfaa
open Go Go.RowKit Go.WideMaps

/-! ### a list of operations -/
def NetS.run (S : NetS) (l : List OpV) : NetS := l.foldl NetS.step S
theorem NetS.run_take (S : NetS) {l : List OpV} {k : Nat} (h : k < l.length) : S.run (l.take (k + 1)) = (S.run (l.take k)).step l[k] := by
  unfold NetS.run
  rw [List.take_succ_eq_append_getElem h, List.foldl_append]
  rfl

theorem Good.step {S : NetS} {k : Nat} (h : Good S k) (hk : k ≤ 98) (o : OpV) (ho : o.text.size ≤ 100) : Good (S.step o) (k + 1) := by
  unfold NetS.step
  split
  · exact h.put hk _ (by omega)
  · split
    · exact h.send hk _ _
    · split
      · exact (h.deliver _ _ _ _).more (by omega)
      · exact (h.cutTo _ _ _).more (by omega)
theorem NetS.put_n (S : NetS) (i : Nat) (s : ByteArray) : (S.put i s).n = S.n := by
  unfold NetS.put
  split
  · rw [NetS.add_n, NetS.know_n]
  · rfl
theorem NetS.send_n (S : NetS) (a b : Nat) : (S.send a b).n = S.n := by
  unfold NetS.send
  split
  · split <;> rfl
  · rfl
theorem NetS.cutTo_n (S : NetS) (a b : Nat) (v : Bool) : (S.cutTo a b v).n = S.n := by unfold NetS.cutTo; split <;> rfl
theorem NetS.recv_n (S : NetS) (fr to : Nat) (m : Msg) : (S.recv fr to m).n = S.n := NetS.recvs_n to fr m.texts S
theorem NetS.deliver_n (S : NetS) (fr to : Nat) (lost again : Bool) : (S.deliver fr to lost again).n = S.n := by
  unfold NetS.deliver
  split
  · split
    · rfl
    · split
      · rfl
      · split
        · rfl
        · split
          · exact NetS.recv_n _ _ _ _
          · rw [NetS.recv_n]; rfl
  · rfl
theorem NetS.step_n (S : NetS) (o : OpV) : (S.step o).n = S.n := by
  unfold NetS.step
  split
  · exact NetS.put_n _ _ _
  · split
    · exact NetS.send_n _ _ _
    · split
      · exact NetS.deliver_n _ _ _ _ _
      · exact NetS.cutTo_n _ _ _ _
theorem NetS.run_n : ∀ (l : List OpV) (S : NetS), (S.run l).n = S.n
  | [], _ => rfl
  | o :: l, S => by
    have := NetS.run_n l (S.step o)
    rw [NetS.step_n] at this
    exact this
theorem Good.run {S : NetS} (h : Good S 0) {l : List OpV} (hl : ∀ o ∈ l, o.text.size ≤ 100) : ∀ k, k ≤ l.length → k ≤ 98 → Good (S.run (l.take k)) k
  | 0, _, _ => by simpa [NetS.run] using h
  | k + 1, hk, hm => by
    rw [NetS.run_take S (by omega)]
    exact (h.run hl k (by omega) (by omega)).step (by omega) _ (hl _ (List.getElem_mem _))
theorem shortB_out {l : List OpV} {most : Nat} (h : shortB l most = true) : l.length ≤ most ∧ ∀ o ∈ l, o.text.size ≤ 100 := by
  unfold shortB at h
  simp only [Bool.and_eq_true, decide_eq_true_eq, List.all_eq_true] at h
  exact h

/-! ### the plain law -/
theorem upd2_self {α : Type} (f : Nat → Nat → α) (i j : Nat) : upd2 f i j (f i j) = f := by
  funext a b
  unfold upd2
  split
  · rename_i h; rw [h.1, h.2]
  · rfl
theorem NetS.add_in (S : NetS) (i : Nat) (s : ByteArray) : s ∈ (S.add i s).sets (.has i) := by
  unfold NetS.add
  split
  · assumption
  · simp [updS]
theorem NetS.add_more (S : NetS) (i : Nat) (s t : ByteArray) (x : SetId) (h : t ∈ S.sets x) : t ∈ (S.add i s).sets x := by
  unfold NetS.add
  split
  · exact h
  · by_cases e : x = .has i
    · subst e; simp [updS, h]
    · simpa [updS, e] using h
theorem NetS.ins_in (S : NetS) (i : SetId) (s : ByteArray) : s ∈ (S.ins i s).sets i := by
  unfold NetS.ins
  split
  · assumption
  · simp [updS]
theorem NetS.ins_more (S : NetS) (i : SetId) (s t : ByteArray) (x : SetId) (h : t ∈ S.sets x) : t ∈ (S.ins i s).sets x := by
  unfold NetS.ins
  split
  · exact h
  · by_cases e : x = i
    · subst e; simp [updS, h]
    · simpa [updS, e] using h
theorem NetS.recvs_more (to fr : Nat) : ∀ (l : List ByteArray) (S : NetS) (t : ByteArray) (x : SetId), t ∈ S.sets x → t ∈ (S.recvs to fr l).sets x
  | [], _, _, _, h => h
  | s :: l, S, t, x, h => NetS.recvs_more to fr l (S.recv1 to fr s) t x ((S.add to s).ins_more _ s t x (S.add_more to s t x h))
theorem NetS.recvs_in (to fr : Nat) : ∀ (l : List ByteArray) (S : NetS), ∀ s ∈ l, s ∈ (S.recvs to fr l).sets (.has to) ∧ s ∈ (S.recvs to fr l).sets (.got to fr)
  | [], _, _, h => by cases h
  | s :: l, S, t, ht => by
    rcases List.mem_cons.1 ht with rfl | ht
    · exact ⟨NetS.recvs_more to fr l (S.recv1 to fr t) _ _ ((S.add to t).ins_more _ _ _ _ (S.add_in to t)), NetS.recvs_more to fr l (S.recv1 to fr t) _ _ ((S.add to t).ins_in _ _)⟩
    · exact NetS.recvs_in to fr l (S.recv1 to fr s) t ht
theorem NetS.recvs_same (to fr : Nat) : ∀ (l : List ByteArray) (S : NetS), (∀ s ∈ l, s ∈ S.sets (.has to) ∧ s ∈ S.sets (.got to fr)) → S.recvs to fr l = S
  | [], _, _ => rfl
  | s :: l, S, h => by
    have h1 : S.recv1 to fr s = S := by
      obtain ⟨ha, hb⟩ := h s (by simp)
      unfold NetS.recv1 NetS.add
      rw [if_pos ha]
      unfold NetS.ins
      rw [if_pos hb]
    show (S.recv1 to fr s).recvs to fr l = S
    rw [h1]
    exact NetS.recvs_same to fr l S fun t ht => h t (by simp [ht])
theorem NetS.recv_of {S R : NetS} {fr to : Nat} {m : Msg} (h : S.recvs to fr m.texts = R) :
    S.recv fr to m = { R with heard := upd2 R.heard to fr (max (R.heard to fr) m.length), known := upd2 R.known to fr (max (R.known to fr) m.heard) } := by
  subst h; rfl
theorem NetS.recv_twice (S : NetS) (fr to : Nat) (m : Msg) : (S.recv fr to m).recv fr to m = S.recv fr to m := by
  have h1 : (S.recv fr to m).recvs to fr m.texts = S.recv fr to m := NetS.recvs_same to fr m.texts _ fun s hs => NetS.recvs_in to fr m.texts S s hs
  have h2 := NetS.recv_of h1
  have e1 : max ((S.recv fr to m).heard to fr) m.length = (S.recv fr to m).heard to fr := Nat.max_eq_left (by
    show m.length ≤ upd2 _ to fr _ to fr
    rw [upd2_same]; omega)
  have e2 : max ((S.recv fr to m).known to fr) m.heard = (S.recv fr to m).known to fr := Nat.max_eq_left (by
    show m.heard ≤ upd2 _ to fr _ to fr
    rw [upd2_same]; omega)
  rw [h2, e1, e2, upd2_self, upd2_self]

theorem NetS.deliver_eq {S : NetS} {a b : Nat} (h : S.deliverC a b = true) : S.okB a b = true ∧ S.off a b = false ∧ ∃ m ms, S.queues a b = m :: ms := by
  unfold NetS.deliverC at h
  simp only [Bool.and_eq_true, Bool.not_eq_true'] at h
  refine ⟨h.1.1, h.1.2, ?_⟩
  cases hq : S.queues a b with
  | nil => rw [hq] at h; simp at h
  | cons m ms => exact ⟨m, ms, rfl⟩
theorem NetS.recvs_off (to fr : Nat) : ∀ (l : List ByteArray) (S : NetS), (S.recvs to fr l).off = S.off
  | [], _ => rfl
  | s :: l, S => by
    have := NetS.recvs_off to fr l (S.recv1 to fr s)
    rw [show (S.recv1 to fr s).off = S.off by unfold NetS.recv1 NetS.ins; split <;> (unfold NetS.add; split <;> rfl)] at this
    exact this
theorem NetS.deliver_again {S : NetS} {a b : Nat} (h : S.deliverC a b = true) :
    (S.deliver a b false true).deliverC a b = true ∧ (S.deliver a b false true).deliver a b false true = S.deliver a b false true := by
  obtain ⟨h1, h2, m, ms, hq⟩ := NetS.deliver_eq h
  have hd : S.deliver a b false true = S.recv a b m := by
    unfold NetS.deliver
    rw [if_pos h1, if_neg (by rw [h2]; simp), hq]
    rfl
  have hn := S.recv_n a b m
  have hok : (S.recv a b m).okB a b = true := by unfold NetS.okB; rw [hn]; exact h1
  have hoff : (S.recv a b m).off a b = false := by
    have : (S.recv a b m).off = S.off := NetS.recvs_off b a m.texts S
    rw [this]; exact h2
  have hqq : (S.recv a b m).queues a b = m :: ms := by rw [NetS.recv_queues]; exact hq
  rw [hd]
  refine ⟨by unfold NetS.deliverC; rw [hok, hoff, hqq]; rfl, ?_⟩
  conv => lhs; unfold NetS.deliver
  rw [if_pos hok, if_neg (by rw [hoff]; simp), hqq]
  exact NetS.recv_twice S a b m
theorem NetS.views_pop (S : NetS) (a b : Nat) : (S.pop a b).views = S.views := rfl
theorem NetS.deliver_lost {S : NetS} {a b : Nat} (h : S.deliverC a b = true) : S.deliver a b true false = S.pop a b := by
  obtain ⟨h1, h2, m, ms, hq⟩ := NetS.deliver_eq h
  unfold NetS.deliver
  rw [if_pos h1, if_neg (by rw [h2]; simp), hq]
  rfl

attribute [local irreducible] World.cell? World.frozen? isAggB _root_.Go.Program.underlying

theorem Try.sz33 : (Try.prog.info? 33).map (·.size) = some 6 := by kernel_rfl
theorem Try.ag33 : isAggB Try.prog 33 = some true := by kernel_rfl

/-- A row that lies apart from the network. -/
structure Held (W : World) (L : Lay) (E : TypeId) (size : Nat) (v : Value) (xs : List Value) : Prop where
  row : Row W E size v xs
  tag : ∀ b, rowBlock v = some b → L.tag b = .oth
section
variable {W W' w : World} {p : Nat} {L L' : Lay} {S : NetS} {E : TypeId} {size : Nat} {v : Value} {xs : List Value}
theorem Held.new (h : NetAt w p L S) (hr : Row W E size v xs) (hf : ∀ b, rowBlock v = some b → w.heap.size ≤ b) : Held W L E size v xs := ⟨hr, fun b hb => h.fresh b (hf b hb)⟩
theorem Held.ext (h : Held W L E size v xs) (hE : Ext W W') : Held W' L E size v xs := ⟨h.row.keep hE fun _ _ h => h, h.tag⟩
theorem Held.step (h : Held W L E size v xs) (ht : LayTo W.heap.size W W' L L') : Held W' L' E size v xs :=
  ⟨h.row.keep ht.touch fun b hb hf => by
    rcases hf with hf | hf
    · have := h.row.lt hb; omega
    · exact hf.1 (h.tag b hb), fun b hb => ht.tag b (h.row.lt hb) (h.tag b hb)⟩
end

theorem Good.viewsLen {S : NetS} {k : Nat} (g : Good S k) : S.views.length ≤ 1000000 := by
  have := g.wf.viewToLen S.n (Nat.le_refl _)
  have := g.wf.n8
  unfold NetS.views
  omega
theorem same_same {w : World} {v u : Value} {xs : List ByteArray} (hv : Row w 9 1 v (xs.map .string)) (hu : Row w 9 1 u (xs.map .string)) (hn : xs.length ≤ 1000000) :
    Calls Try.prog 21 #[v, u] w fun e w' => e = .returned (.bool true) ∧ Ext w w' := by
  have := same_contract hv hu hn hn
  rw [sameB_iff.2 rfl] at this
  exact this

theorem do_is {w0 W : World} {p : Nat} {L : Lay} {S : NetS} {k n : Nat} (h : LawAt w0 W p L S) (g : Good S k) (hk : k ≤ 90) (hn : S.n = n) {o : OpV} (ho : o.ok) (ht : o.text.size ≤ 100) :
    Calls Try.prog 27 #[ptr p, .int .i64 n, .agg o.cells.toArray] W fun e w' => e = .returned (.tuple #[]) ∧ ∃ L', LawAt w0 w' p L' (S.step o) ∧ LayTo W.heap.size W w' L L' := by
  subst hn
  refine (do_contract h.net g.wf (g.cap.more hk) o ho ht).mono ?_
  rintro e w' ⟨rfl, L', h1, h2⟩
  exact ⟨rfl, L', h.step h1 h2, h2⟩

set_option maxRecDepth 100000 in
set_option maxHeartbeats 4000000 in
theorem again_walk {w : World} {v : Value} {l : List OpV} (hl : ROps w v l) (hok : ∀ o ∈ l, o.ok) (raw x y : Nat) (hraw : raw < 256) (hx : x < 256) (hy : y < 256) :
    Calls Try.prog 6 #[.int .u8 raw, v, .int .u8 x, .int .u8 y] w fun e w' => e = .returned (.bool true) ∧ Ext w w' := by
  have hlen6 : (l.length : Int) ≤ 9223372036854775807 := by obtain ⟨ad, c, _, h1, h2, _⟩ := hl; unfold maxLen at h2; omega
  go_enter Try.func6, Try.ntmps6
  ((first | go_at_call 9 | (go_wp2_with fail; go_at_call 9)); refine (head_contract w).mono ?_; rintro _ w1 ⟨rfl, x1⟩)
  have hl1 := hl.keep x1 (fun _ _ h => h)
  cases hsh : shortB l 80 with
  | false =>
    have hs := short_contract 80 hl1 (by omega)
    rw [hsh] at hs
    ((first | go_at_call 10 | (go_wp2_with fail; go_at_call 10)); refine (hs).mono ?_; rintro _ _ ⟨rfl, rfl⟩)
    go_wp2_with fail
    go_ret
    exact ⟨rfl, x1⟩
  | true =>
    have hs := short_contract 80 hl1 (by omega)
    rw [hsh] at hs
    obtain ⟨h80, h100⟩ := shortB_out hsh
    have h100' := Lib.hid h100
    have hok' := Lib.hid hok
    clear hsh h100 hok
    ((first | go_at_call 10 | (go_wp2_with fail; go_at_call 10)); refine (hs).mono ?_; rintro _ _ ⟨rfl, rfl⟩)
    ((first | go_at_call 26 | (go_wp2_with fail; go_at_call 26)); refine (size_contract w1 raw hraw).mono ?_; rintro _ _ ⟨rfl, rfl⟩)
    have hn8 : 1 + raw % 8 ≤ 8 := by omega
    have hn1 : 1 ≤ 1 + raw % 8 := by omega
    generalize hnd : 1 + raw % 8 = nodes at hn8 hn1
    clear hnd
    ((first | go_at_call 11 | (go_wp2_with fail; go_at_call 11)); refine (new_good (w := w1) nodes hn1 hn8).mono ?_; rintro _ w2 ⟨p, L2, rfl, h2, x2, o2⟩)
    have l2 : LawAt w w2 p L2 (NetS.fresh nodes) := ⟨h2, x1.then_ext x2, fun b hb => o2 b (by have := x1.size; omega)⟩
    have g0 : Good (NetS.fresh nodes) 0 := ⟨Wf.fresh hn1 hn8, Cap.fresh nodes⟩
    clear h2 x1 x2 o2 hl1
    go_wp2_with fail
    go_loopw [13] (fun u W => ∃ k : Nat, u = .int .i64 k ∧ k ≤ l.length ∧ ∃ L, LawAt w W p L ((NetS.fresh nodes).run (l.take k))) (fun u _ => l.length - (intOf u).toNat)
    case atStart => exact ⟨0, rfl, Nat.zero_le _, L2, by simpa [NetS.run] using l2⟩
    case round =>
      obtain ⟨k, rfl, hk, L, hL⟩ := hrel
      have g := g0.run h100'.out k hk (by omega)
      have hn : ((NetS.fresh nodes).run (l.take k)).n = nodes := by rw [NetS.run_n]; rfl
      have hlW := hl.keep hL.ext (fun _ _ h => h)
      by_cases hlt : k < l.length
      · go_wp2_with (first
          | ((with_reducible change wpList _ _ _ (Oper.mk _ (Op.call (Call.mk (Callee.builtin Builtin.len) _ _)) _ _ _ _ :: _) _ _); refine BigFrame.wpList_want rfl (fun K hK => ?_); refine op_len_ops rfl rfl Try.underlying22 hlW ?_; refine hK _ _ ?_; clear hK K)
          | ((with_reducible change wpList _ _ _ (Oper.mk _ (Op.indexAddr _ _ _) _ _ _ _ :: _) _ _); refine BigFrame.wpList_want rfl (fun K hK => ?_); refine op_index_ops (i := k) rfl rfl rfl Try.underlying22 Try.szE33 hlW hlt ?_; intro pp hpp hbb; refine hK _ _ ?_; clear hK K)
          | ((with_reducible change wpList _ _ _ (Oper.mk _ (Op.load _ _) _ _ _ _ :: _) _ _); refine BigFrame.wpList_want rfl (fun K hK => ?_); refine op_loadN (p := pp) (vs := l[k].cells) rfl rfl Try.ag33 Try.sz33 hpp ?_; refine hK _ _ ?_; clear hK K))
        ((first | go_at_call 27 | (go_wp2_with fail; go_at_call 27)); refine (do_is hL g (by omega) hn (hok'.out _ (List.getElem_mem hlt)) (h100'.out _ (List.getElem_mem hlt))).mono ?_; rintro _ w3 ⟨rfl, L3, l3, t3⟩)
        go_wp2_with fail
        exact ⟨⟨k + 1, by go_num, hlt, L3, by rw [NetS.run_take _ hlt]; exact l3⟩, by simp [intOf]; omega⟩
      · have e : k = l.length := by omega
        subst e
        clear hlt hk
        rw [List.take_length] at hL g hn
        generalize hS : (NetS.fresh nodes).run l = S at hL g hn
        subst hn
        clear hS l2 g0
        have g := g.more h80
        have hz : ¬ ((S.n : Int) = 0) := by omega
        have hxa := Nat.mod_lt x (show S.n > 0 by omega)
        have hya := Nat.mod_lt y (show S.n > 0 by omega)
        have ex : ((x % S.n : Nat) : Int) = (x : Int) % (S.n : Int) := Int.natCast_emod _ _
        have ey : ((y % S.n : Nat) : Int) = (y : Int) % (S.n : Int) := Int.natCast_emod _ _
        generalize hxx : x % S.n = a at hxa ex
        generalize hyy : y % S.n = b at hya ey
        clear hxx hyy
        go_wp2_with (first
          | ((with_reducible change wpList _ _ _ (Oper.mk _ (Op.call (Call.mk (Callee.builtin Builtin.len) _ _)) _ _ _ _ :: _) _ _); refine BigFrame.wpList_want rfl (fun K hK => ?_); refine op_len_ops rfl rfl Try.underlying22 hlW ?_; refine hK _ _ ?_; clear hK K))
        refine wp_region_rt (by kernel_rfl) [0, 1, 0, 7, 0, 16, 0, 112, 15, 511] (.rd 0 (.rd 1 (.rd 2 (.rd 3 (.rd 4 (.rd 5 (.rd 6 (.rd 7 (.rd 8 (.rd 9 (.nil))))))))))) (by kernel_rfl) ?_
        iterate 10 (refine cw_rd rfl rfl rfl rfl rfl (fun K hK => ?_); go_wp2_with fail)
        refine cw_nil ?_
        rw [← ex, ← ey]
        have hLd := hL.then ((Touch.refl _ wr).drew)
        clear hL ex ey hlW
        have ha6 : a ≤ 1000 := by have := g.wf.n8; omega
        have hb6 : b ≤ 1000 := by have := g.wf.n8; omega
        cases hc : S.deliverC a b with
        | false =>
          ((first | go_at_call 17 | (go_wp2_with fail; go_at_call 17)); refine (deliver_is (r := false) hLd.net g a b false true ha6 hb6 hc rfl).mono ?_; rintro _ w4 ⟨rfl, L4, h4, t4⟩)
          have l4 := hLd.step h4 t4
          go_wp2_with fail
          go_ret
          exact ⟨rfl, l4.ext⟩
        | true =>
          obtain ⟨hc2, hs2⟩ := NetS.deliver_again hc
          have g1 := g.deliver a b false true
          have hlost := NetS.deliver_lost hc2
          have hn := NetS.deliver_n S a b false true
          ((first | go_at_call 17 | (go_wp2_with fail; go_at_call 17)); refine (deliver_is (r := true) hLd.net g a b false true ha6 hb6 hc rfl).mono ?_; rintro _ w4 ⟨rfl, L4, h4, t4⟩)
          generalize hS1 : S.deliver a b false true = S1 at hc2 hs2 g1 hlost hn h4
          have l4 := hLd.step h4 t4
          clear h4 t4 hS1 hc hLd
          have c1 := views_contract l4.net g1
          rw [hn] at c1
          ((first | go_at_call 30 | (go_wp2_with fail; go_at_call 30)); refine (c1).mono ?_; rintro _ w5 ⟨v5, rfl, r5, x5, f5⟩)
          have l5 := l4.then x5
          ((first | go_at_call 17 | (go_wp2_with fail; go_at_call 17)); refine (deliver_is (r := true) l5.net g1 a b false true ha6 hb6 hc2 hs2).mono ?_; rintro _ w6 ⟨rfl, L6, h6, t6⟩)
          have l6 := l5.step h6 t6
          have k5 := (Held.new l4.net r5 f5).step t6
          have c2 := views_contract l6.net g1
          rw [hn] at c2
          clear c1 h6 r5 f5 t6
          ((first | go_at_call 30 | (go_wp2_with fail; go_at_call 30)); refine (c2).mono ?_; rintro _ w7 ⟨v7, rfl, r7, x7, f7⟩)
          have l7 := l6.then x7
          ((first | go_at_call 17 | (go_wp2_with fail; go_at_call 17)); refine (deliver_is (r := true) l7.net g1 a b true false ha6 hb6 hc2 hlost).mono ?_; rintro _ w8 ⟨rfl, L8, h8, t8⟩)
          have l8 := l7.step h8 t8
          have k7 := (Held.new l6.net r7 f7).step t8
          have k5 := (k5.ext x7).step t8
          have g3 : Good (S1.pop a b) (l.length + 0 + 80) := by rw [← hlost]; exact (g1.deliver a b true false).more (by omega)
          have c3 := views_contract l8.net g3
          rw [show (S1.pop a b).n = S.n from hn] at c3
          clear c2 h8 r7 f7 t8
          ((first | go_at_call 30 | (go_wp2_with fail; go_at_call 30)); refine (c3).mono ?_; rintro _ w9 ⟨v9, rfl, r9, x9, f9⟩)
          have l9 := l8.then x9
          have k5 := k5.ext x9
          have k7 := k7.ext x9
          clear c3 f9
          ((first | go_at_call 21 | (go_wp2_with fail; go_at_call 21)); refine (same_same k5.row k7.row g1.viewsLen).mono ?_; rintro _ w10 ⟨rfl, x10⟩)
          ((first | go_at_call 21 | (go_wp2_with fail; go_at_call 21)); refine (same_same (k5.ext x10).row (r9.keep x10 (fun _ _ h => h)) g1.viewsLen).mono ?_; rintro _ w11 ⟨rfl, x11⟩)
          go_wp2_with fail
          go_ret
          exact ⟨rfl, (l9.ext.then_ext x10).then_ext x11⟩
end Go.Proofs.Ytcipfpebjeakfaa
