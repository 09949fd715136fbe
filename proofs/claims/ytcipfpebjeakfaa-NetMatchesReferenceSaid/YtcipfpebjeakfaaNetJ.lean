/-
  Contract: Deliver.
-/
import Derived.Test.YtcipfpebjeakfaaNetI
namespace Go.Proofs.Ytcipfpebjeakfaa
open Go Go.RowKit Go.WideMaps
open Go.Maps (Keyed)

section
variable {P : Program} {ops : Array Oper} {a : Act} {w : World} {K : Act → World → Prop} {Q : Exit → Act → World → Prop} {o : Oper}
theorem yldI_skip {i : Nat} {o : Oper} (ho : nth ops.toList i = some o) (hg : Region.wanted o (yielded ops a.tmps) = false) : YldI P ops i undef a w :=
  ⟨o, of_nth ho, .inr ⟨hg, rfl⟩⟩
theorem run_max2 {t : TypeId} (m n : Nat) (ty : TypeId) : (Builtin.max_ #[t, t] ty #[.int .i64 m, .int .i64 n]).run P w = .ok (.int .i64 (max m n : Nat)) w := by
  have h : (Builtin.max2 (.int .i64 m) (.int .i64 n)).run P w = .ok (.int .i64 (max m n : Nat)) w := by
    unfold Builtin.max2
    by_cases hle : m ≤ n
    · rw [Nat.max_eq_right hle]
      simp <;> omega
    · rw [Nat.max_eq_left (by omega)]
      simp <;> omega
  show (List.foldlM Builtin.max2 (.int .i64 m) [.int .i64 n]).run P w = _
  simp [h]
theorem op_max {t : TypeId} {x y : Operand} {m n : Nat} (ho : o.op = .call { callee := .builtin .max, args := #[x, y], argTypes := #[t, t] }) (hx : a.eval x = .int .i64 m) (hy : a.eval y = .int .i64 n)
    (h : K (a.put o.dst (.int .i64 (max m n : Nat))) w) : o.wp P a w K Q := by
  refine op_run (Builtin.max_ #[t, t] o.type #[.int .i64 m, .int .i64 n]) _ w ?_ (run_max2 m n o.type) h
  rw [execOp_builtin1 ho, ← hx, ← hy]
  simp only [List.map_toArray, List.map_cons, List.map_nil]
  rfl
theorem yldI_max {i : Nat} {o : Oper} {t : TypeId} {x y : Operand} {m n : Nat} (ho : nth ops.toList i = some o) (hg : Region.wanted o (yielded ops a.tmps) = true)
    (hop : o.op = .call { callee := .builtin .max, args := #[x, y], argTypes := #[t, t] }) (hx : a.eval x = .int .i64 m) (hy : a.eval y = .int .i64 n) : YldI P ops i (.int .i64 (max m n : Nat)) a w := by
  refine yldI_of ho hg ?_
  have he : execOp a.eval o = (do pure (.value (← Builtin.max_ #[t, t] o.type #[.int .i64 m, .int .i64 n]))) := by
    rw [execOp_builtin1 hop, ← hx, ← hy]
    simp only [List.map_toArray, List.map_cons, List.map_nil]
    rfl
  rw [he]
  simp [run_max2]
end

attribute [local irreducible] World.cell? World.frozen? isAggB _root_.Go.Program.underlying

def NetS.ins (S : NetS) (i : SetId) (s : ByteArray) : NetS := if s ∈ S.sets i then S else { S with sets := updS S.sets i (S.sets i ++ [s]) }

theorem op_insert {a : Act} {w : World} {K : Act → World → Prop} {Q : Exit → Act → World → Prop} {o : Oper} {x y z : Operand} {p : Nat} {L : Lay} {S : NetS} {i : SetId} {s : ByteArray} (ho : o.op = .mapUpdate 44 x y z)
    (hx : a.eval x = .map (some (L.sets i))) (hy : a.eval y = .string s) (hz : a.eval z = .bool true) (h : NetAt w p L S) (hi : i.ok S.n) (hs : s.size ≤ 20000)
    (hk : ∀ w', NetAt w' p L (S.ins i s) → Touch (· = L.sets i) w w' → K (a.put o.dst undef) w') : o.wp Try.prog a w K Q := by
  unfold NetS.ins at hk
  by_cases hin : s ∈ S.sets i
  · rw [if_pos hin] at hk
    refine op_update_hit (k := .string s) (v := .bool true) ho hx hy hz Try.k9 Try.underlying44 (h.sets i hi) (key9 hs) (strs_in_keys hin) fun w' hm ht _ => hk w' ?_ ht
    rw [strs_again] at hm
    have := h.setSet hi (S.sets i) ht hm
    rw [updS_self] at this
    exact this
  · rw [if_neg hin] at hk
    refine op_update_miss (k := .string s) (v := .bool true) ho hx hy hz Try.k9 Try.underlying44 (h.sets i hi) (key9 hs) (strs_out hin) fun w' hm ht _ => hk w' ?_ ht
    rw [strs_app] at hm
    exact h.setSet hi (S.sets i ++ [s]) ht hm

def NetS.recv1 (to fr : Nat) (S : NetS) (s : ByteArray) : NetS := (S.add to s).ins (.got to fr) s
def NetS.recvs (S : NetS) (to fr : Nat) (l : List ByteArray) : NetS := l.foldl (NetS.recv1 to fr) S
def NetS.recv (S : NetS) (fr to : Nat) (m : Msg) : NetS :=
  { S.recvs to fr m.texts with heard := upd2 (S.recvs to fr m.texts).heard to fr (max ((S.recvs to fr m.texts).heard to fr) m.length), known := upd2 (S.recvs to fr m.texts).known to fr (max ((S.recvs to fr m.texts).known to fr) m.heard) }
def NetS.deliver (S : NetS) (fr to : Nat) (lost again : Bool) : NetS :=
  if S.okB fr to then (if S.off fr to then S else match S.queues fr to with
    | [] => S
    | m :: _ => if lost then S.pop fr to else if again then S.recv fr to m else (S.pop fr to).recv fr to m) else S
def NetS.deliverC (S : NetS) (fr to : Nat) : Bool := S.okB fr to && !S.off fr to && !(S.queues fr to).isEmpty

theorem NetS.add_n (S : NetS) (i : Nat) (s : ByteArray) : (S.add i s).n = S.n := by unfold NetS.add; split <;> rfl
theorem NetS.ins_n (S : NetS) (i : SetId) (s : ByteArray) : (S.ins i s).n = S.n := by unfold NetS.ins; split <;> rfl
theorem NetS.recv1_n (S : NetS) (to fr : Nat) (s : ByteArray) : (S.recv1 to fr s).n = S.n := by unfold NetS.recv1; rw [NetS.ins_n, NetS.add_n]
theorem NetS.recvs_n (to fr : Nat) : ∀ (l : List ByteArray) (S : NetS), (S.recvs to fr l).n = S.n
  | [], _ => rfl
  | s :: l, S => by
    have := NetS.recvs_n to fr l (S.recv1 to fr s)
    rw [NetS.recv1_n] at this
    exact this
theorem NetS.recvs_take (S : NetS) (to fr : Nat) (l : List ByteArray) (k : Nat) (hk : k < l.length) : S.recvs to fr (l.take (k + 1)) = (S.recvs to fr (l.take k)).recv1 to fr l[k] := by
  unfold NetS.recvs
  rw [List.take_succ_eq_append_getElem hk, List.foldl_append]
  rfl

theorem Wf.addOne {S : NetS} (h : Wf S) {i : Nat} {s : ByteArray} (hs : s ∈ S.sets .all) : Wf (S.add i s) := by
  unfold NetS.add
  split
  · exact h
  · rename_i hin
    refine { h with
      allN := by simpa [updS] using h.allN
      all := by simpa [updS] using h.all
      size := by simpa [updS] using h.size
      textsN := fun k hk => ?_
      texts := fun k hk t ht => ?_
      has := fun k hk => ?_
      gotN := fun a b ha hb => by simpa [updS] using h.gotN a b ha hb
      got := fun a b ha hb => by simpa [updS] using h.got a b ha hb
      msg := fun a b ha hb m hm => by simpa [updS] using h.msg a b ha hb m hm }
    · by_cases e : k = i
      · subst e
        simp only [upd, if_true]
        rw [h.has k hk] at hin
        rw [List.nodup_append]
        refine ⟨h.textsN k hk, by simp, fun x hx y hy => ?_⟩
        simp only [List.mem_singleton] at hy
        subst hy
        intro e; subst e; exact hin hx
      · simpa [upd, e] using h.textsN k hk
    · have ht' : t ∈ S.texts k ∨ t = s := by
        by_cases e : k = i
        · subst e
          simp only [upd, if_true, List.mem_append, List.mem_singleton] at ht
          exact ht
        · simp only [upd, if_neg e] at ht
          exact .inl ht
      have hall : t ∈ S.sets .all := by
        rcases ht' with ht' | rfl
        · exact h.texts k hk t ht'
        · exact hs
      simpa [updS] using hall
    · by_cases e : k = i
      · subst e; simp [updS, upd, h.has k hk]
      · simpa [updS, upd, e] using h.has k hk
theorem NetS.add_all (S : NetS) (i : Nat) (s : ByteArray) : (S.add i s).sets .all = S.sets .all := by
  unfold NetS.add; split <;> simp [updS]
theorem Wf.insGot {S : NetS} (h : Wf S) {i j : Nat} {s : ByteArray} (hs : s ∈ S.sets .all) : Wf (S.ins (.got i j) s) := by
  unfold NetS.ins
  split
  · exact h
  · rename_i hin
    refine { h with
      allN := by simpa [updS] using h.allN
      all := by simpa [updS] using h.all
      size := by simpa [updS] using h.size
      texts := fun k hk => by simpa [updS] using h.texts k hk
      has := fun k hk => by simpa [updS] using h.has k hk
      gotN := fun a b ha hb => ?_
      got := fun a b ha hb t ht => ?_
      msg := fun a b ha hb m hm => by simpa [updS] using h.msg a b ha hb m hm }
    · by_cases e : SetId.got a b = SetId.got i j
      · simp only [updS, if_pos e]
        rw [← e] at hin ⊢
        rw [List.nodup_append]
        refine ⟨h.gotN a b ha hb, by simp, fun x hx y hy => ?_⟩
        simp only [List.mem_singleton] at hy
        subst hy
        intro e; subst e; exact hin hx
      · simp only [updS, if_neg e]
        exact h.gotN a b ha hb
    · have hall : t ∈ S.sets .all := by
        by_cases e : SetId.got a b = SetId.got i j
        · simp only [updS, if_pos e] at ht
          rw [← e] at ht
          rcases List.mem_append.1 ht with ht | ht
          · exact h.got a b ha hb t ht
          · simp only [List.mem_singleton] at ht; rw [ht]; exact hs
        · simp only [updS, if_neg e] at ht
          exact h.got a b ha hb t ht
      simpa [updS] using hall
theorem NetS.insGot_all (S : NetS) (i j : Nat) (s : ByteArray) : (S.ins (.got i j) s).sets .all = S.sets .all := by
  unfold NetS.ins; split <;> simp [updS]
theorem Wf.recvs {to fr : Nat} : ∀ (l : List ByteArray) {S : NetS}, Wf S → (∀ s ∈ l, s ∈ S.sets .all) → Wf (S.recvs to fr l) ∧ (S.recvs to fr l).sets .all = S.sets .all
  | [], S, h, _ => ⟨h, rfl⟩
  | s :: l, S, h, hs => by
    have h1 : Wf (S.recv1 to fr s) := (h.addOne (hs s (by simp))).insGot (by rw [NetS.add_all]; exact hs s (by simp))
    have e1 : (S.recv1 to fr s).sets .all = S.sets .all := by unfold NetS.recv1; rw [NetS.insGot_all, NetS.add_all]
    have := Wf.recvs (to := to) (fr := fr) l h1 (fun t ht => by rw [e1]; exact hs t (by simp [ht]))
    rw [e1] at this
    exact this
theorem Wf.pop {S : NetS} (h : Wf S) (i j : Nat) : Wf (S.pop i j) := by
  have hsub : ∀ a b, ∀ m ∈ (S.pop i j).queues a b, m ∈ S.queues a b := fun a b m hm => by
    unfold NetS.pop upd2 at hm
    dsimp only at hm
    split at hm
    · rename_i e; rw [e.1, e.2]; exact List.mem_of_mem_tail hm
    · exact hm
  refine { h with
    qlen := fun a b ha hb => ?_
    msg := fun a b ha hb m hm => h.msg a b ha hb m (hsub a b m hm) }
  show (upd2 S.queues i j (S.queues i j).tail a b).length ≤ 100
  unfold upd2
  split
  · rename_i e
    have := h.qlen a b ha hb
    rw [List.length_tail, ← e.1, ← e.2]; omega
  · exact h.qlen a b ha hb

theorem NetAt.peer {w : World} {p : Nat} {L : Lay} {S : NetS} (h : NetAt w p L S) {i j : Nat} (hi : i < S.n) (hj : j < S.n) : w.cell? ⟨L.node i, 2 + j * 3 + 2, none⟩ = some (.map (some (L.sets (.got i j)))) := by
  obtain ⟨c, hc, hn⟩ := h.node i hi
  exact hc.cell (hn.2.2.2 j hj).2.2

/-- Where the loop over a message's texts stands. -/
def RecvAt (p : Nat) (w0 : World) (L0 : Lay) (S : NetS) (to fr : Nat) (l : List ByteArray) (k : Nat) (W : World) : Prop :=
  ∃ L, NetAt W p L (S.recvs to fr (l.take k)) ∧ LayTo w0.heap.size w0 W L0 L

def DelivPost (w : World) (p : Nat) (L : Lay) (S : NetS) (fr to : Nat) (lost again : Bool) (e : Ending) (w' : World) : Prop :=
  e = .returned (.bool (S.deliverC fr to)) ∧ AddPost w.heap.size w p L (S.deliver fr to lost again) w'

set_option maxRecDepth 100000 in
set_option maxHeartbeats 4000000 in
theorem deliver_go {w : World} {p : Nat} {L : Lay} {S S1 : NetS} (h : NetAt w p L S) (wf : Wf S) (wf1 : Wf S1) (hn1 : S1.n = S.n) (fr to : Nat) (lost again : Bool) (hfr6 : fr ≤ 1000) (hto6 : to ≤ 1000) (m : Msg) (hok : S.okB fr to = true) (hoff : S.off fr to = false)
    (hmt : ∀ s ∈ m.texts, s ∈ S1.sets .all) (hml : m.texts.length ≤ 1000)
    (hfirst : ∀ W, Ext w W → Calls Try.prog 37 #[ptr (L.qcell fr to), .bool (again && !lost)] W (FirstPost W p L S1 m)) :
    Calls Try.prog 17 #[ptr p, .int .i64 fr, .int .i64 to, .bool lost, .bool again] w fun e w' => e = .returned (.bool true) ∧ AddPost w.heap.size w p L (if lost then S1 else S1.recv fr to m) w' := by
  have hth := Lib.hid (there_contract (((h.drew).alloc (.cells #[.int .i64 fr, .int .i64 to] 3))) [(fr : Int), (to : Int)] (.slice (some ⟨w.heap.size, 0, none⟩) 2 2) (by simp) (Row.new w.drew 3 [.int .i64 fr, .int .i64 to] (by simp) (by simp)))
  rw [there2_iff] at hth
  have hok' := hok
  unfold NetS.okB at hok'
  simp only [Bool.and_eq_true, Bool.not_eq_true', decide_eq_true_eq, decide_eq_false_iff_not] at hok'
  obtain ⟨⟨ha, hb⟩, hne⟩ := hok'
  rw [decide_eq_true ha, decide_eq_true hb] at hth
  have hne' : ((fr : Int) == (to : Int)) = false := by simp; omega
  have hfr8 : (fr : Int) < 8 := by have := wf.n8; omega
  have f0 := Lib.hid (show w.cell? ⟨p, 0, none⟩ = some L.nodes from h.net.cell (i := 0) rfl)
  have f1 := Lib.hid (show w.cell? ⟨p, 1, none⟩ = some (.map (some L.queues)) from h.net.cell (i := 1) rfl)
  have f2 := Lib.hid (show w.cell? ⟨p, 2, none⟩ = some (.map (some L.cut)) from h.net.cell (i := 2) rfl)
  have hl := fun W => line_contract fr to (min fr to) (max fr to) W (by omega) (by omega) rfl rfl
  have hl' := Lib.hid hl
  have hk := Lib.hid (key66 (min fr to) (max fr to) (by omega) (by omega))
  have hk2 := Lib.hid (key66 fr to (by omega) (by omega))
  have hin := Lib.hid (queue_in (L := L) ha hb)
  have hqs := h.queues
  obtain ⟨mm, hm, hmok⟩ := h.cut
  have hmiss := Lib.hid (cut_miss hmok wf.sym hoff)
  have ha' := Lib.hid ha
  have hb' := Lib.hid hb
  have hfirst' := Lib.hid hfirst
  have hmt' := Lib.hid hmt
  have hn1' := Lib.hid hn1
  clear hok hl hmok ha hb hne hoff hfirst hmt hn1
  have hto1 := Lib.hid (show to < S1.n from by rw [hn1'.out]; exact hb'.out)
  have hfr1 := Lib.hid (show fr < S1.n from by rw [hn1'.out]; exact ha'.out)
  have hlen := Lib.hid (fun (L1 : Lay) => show (to + 1) * 1 ≤ ((List.range S1.n).map fun i => ptr (L1.node i)).length from by have := hto1.out; simp; omega)
  have hmlen := Lib.hid (show (m.texts.map Value.string).length = m.texts.length * 1 from by simp)
  cases lost with
  | true =>
    cases again
    all_goals
      unfold ptr at hth hin hqs hfirst' ⊢
      go_enter Try.func17, Try.ntmps17
      go_wp2_with fail
      refine wp_region_rt (by kernel_rfl) [0, 0, 0, 6, 15, 31, 63, 127, 127, 511, 1023, 2047, 4095, 8191, 16383, 32767, 4095, 4095, 200703, 524287, 1048575] (.rd 0 (.rd 1 (.rd 2 (.e1 3 [] (.e1 4 [] (.rd 5 (.rd 6 (.rd 7 (.rd 8 (.rd 9 (.rd 10 (.rd 11 (.rd 12 (.rd 13 (.rd 14 (.rd 15 (.rd 16 (.rd 17 (.e1 18 [13, 14, 15] (.rd 19 (.rd 20 (.nil)))))))))))))))))))))) (by kernel_rfl) ?_
      iterate 3 (refine cw_rd rfl rfl rfl rfl rfl (fun K hK => ?_); go_wp2_with fail)
      refine cw_e1 rfl rfl (fun K hK => ?_)
      go_wp2_with fail
      refine ⟨fl_none, ?_⟩
      refine cw_e1 rfl rfl (fun K hK => ?_)
      go_wp2_with (first
        | (go_at_call 31; refine hth.out.mono ?_; rintro _ w1 ⟨rfl, hE1⟩))
      refine ⟨fl_none, ?_⟩
      have hE : Ext w w1 := (((Touch.refl _ w).drew).alloc _).then_ext hE1
      iterate 10 (refine cw_rd rfl rfl rfl rfl rfl (fun K hK => ?_); go_wp2_with fail)
      (refine cw_rd rfl rfl rfl rfl rfl (fun K hK => ?_); refine op_load1 rfl rfl Try.ag52 (hE.cell f2.out (fun h => h)) ?_; refine hK _ ?_; clear hK K)
      iterate 2 (refine cw_rd rfl rfl rfl rfl rfl (fun K hK => ?_); go_wp2_with fail)
      refine cw_e1 rfl rfl (fun K hK => ?_)
      go_wp2_with (first
        | (go_at_call 34; refine (hl'.out _).mono ?_; rintro _ w2 ⟨rfl, hE2⟩))
      have hEw : Ext w w2 := hE.then_ext hE2
      refine ⟨?_, ?_⟩
      · (repeat (first | exact fl_nil | refine fl_skip rfl ?_ | (refine fl_take rfl ?_ ?_; (first | exact yldI_load1 rfl rfl rfl rfl Try.ag52 (hEw.cell f2.out (fun h => h)) | (refine yldI_of rfl rfl ?_; go_simp)))))
      (refine cw_rd rfl rfl rfl rfl rfl (fun K hK => ?_); refine op_lookup_miss (k := pairV (min fr to) (max fr to)) rfl rfl rfl Try.k66 Try.underlying52 (hm.keep hEw (fun h => h)) Try.z4 hk.out hmiss.out ?_; refine hK _ ?_; clear hK K)
      iterate 1 (refine cw_rd rfl rfl rfl rfl rfl (fun K hK => ?_); go_wp2_with fail)
      refine cw_nil ?_
      have h2 := h.ext hEw
      go_wp2_with (first
        | ((with_reducible change wpList _ _ _ (Oper.mk _ (Op.load _ _) _ _ _ _ :: _) _ _); refine BigFrame.wpList_want rfl (fun K hK => ?_); refine op_load1 rfl rfl Try.ag51 (hEw.cell f1.out (fun h => h)) ?_; refine hK _ _ ?_; clear hK K)
        | ((with_reducible change wpList _ _ _ (Oper.mk _ (Op.lookup _ _ _ _) _ _ _ _ :: _) _ _); refine BigFrame.wpList_want rfl (fun K hK => ?_); refine op_lookup_hit (k := pairV fr to) rfl rfl rfl Try.k66 Try.underlying51 (hqs.keep hEw (fun h => h)) hk2.out hin.out ?_; refine hK _ _ ?_; clear hK K)
        | (go_at_call 37; refine (hfirst'.out w2 hEw).mono ?_; rintro _ w3 ⟨mv, L1, rfl, h3, hl3, hmr, hmtag⟩; have hmr' := hmr; obtain ⟨adm, nm, cm, rfl, -⟩ := hmr'))
      go_ret
      exact ⟨rfl, L1, h3.alloc _, ((LayTo.same (Nat.le_refl _) hEw fun _ _ h => h.elim).trans (hl3.less hEw.size)).ext (Ext.alloc w3 _)⟩
  | false =>
    cases again
    all_goals
      unfold ptr at hth hin hqs hfirst' ⊢
      go_enter Try.func17, Try.ntmps17
      go_wp2_with fail
      refine wp_region_rt (by kernel_rfl) [0, 0, 0, 6, 15, 31, 63, 127, 127, 511, 1023, 2047, 4095, 8191, 16383, 32767, 4095, 4095, 200703, 524287, 1048575] (.rd 0 (.rd 1 (.rd 2 (.e1 3 [] (.e1 4 [] (.rd 5 (.rd 6 (.rd 7 (.rd 8 (.rd 9 (.rd 10 (.rd 11 (.rd 12 (.rd 13 (.rd 14 (.rd 15 (.rd 16 (.rd 17 (.e1 18 [13, 14, 15] (.rd 19 (.rd 20 (.nil)))))))))))))))))))))) (by kernel_rfl) ?_
      iterate 3 (refine cw_rd rfl rfl rfl rfl rfl (fun K hK => ?_); go_wp2_with fail)
      refine cw_e1 rfl rfl (fun K hK => ?_)
      go_wp2_with fail
      refine ⟨fl_none, ?_⟩
      refine cw_e1 rfl rfl (fun K hK => ?_)
      go_wp2_with (first
        | (go_at_call 31; refine hth.out.mono ?_; rintro _ w1 ⟨rfl, hE1⟩))
      refine ⟨fl_none, ?_⟩
      have hE : Ext w w1 := (((Touch.refl _ w).drew).alloc _).then_ext hE1
      iterate 10 (refine cw_rd rfl rfl rfl rfl rfl (fun K hK => ?_); go_wp2_with fail)
      (refine cw_rd rfl rfl rfl rfl rfl (fun K hK => ?_); refine op_load1 rfl rfl Try.ag52 (hE.cell f2.out (fun h => h)) ?_; refine hK _ ?_; clear hK K)
      iterate 2 (refine cw_rd rfl rfl rfl rfl rfl (fun K hK => ?_); go_wp2_with fail)
      refine cw_e1 rfl rfl (fun K hK => ?_)
      go_wp2_with (first
        | (go_at_call 34; refine (hl'.out _).mono ?_; rintro _ w2 ⟨rfl, hE2⟩))
      have hEw : Ext w w2 := hE.then_ext hE2
      refine ⟨?_, ?_⟩
      · (repeat (first | exact fl_nil | refine fl_skip rfl ?_ | (refine fl_take rfl ?_ ?_; (first | exact yldI_load1 rfl rfl rfl rfl Try.ag52 (hEw.cell f2.out (fun h => h)) | (refine yldI_of rfl rfl ?_; go_simp)))))
      (refine cw_rd rfl rfl rfl rfl rfl (fun K hK => ?_); refine op_lookup_miss (k := pairV (min fr to) (max fr to)) rfl rfl rfl Try.k66 Try.underlying52 (hm.keep hEw (fun h => h)) Try.z4 hk.out hmiss.out ?_; refine hK _ ?_; clear hK K)
      iterate 1 (refine cw_rd rfl rfl rfl rfl rfl (fun K hK => ?_); go_wp2_with fail)
      refine cw_nil ?_
      have h2 := h.ext hEw
      go_wp2_with (first
        | ((with_reducible change wpList _ _ _ (Oper.mk _ (Op.load _ _) _ _ _ _ :: _) _ _); refine BigFrame.wpList_want rfl (fun K hK => ?_); refine op_load1 rfl rfl Try.ag51 (hEw.cell f1.out (fun h => h)) ?_; refine hK _ _ ?_; clear hK K)
        | ((with_reducible change wpList _ _ _ (Oper.mk _ (Op.lookup _ _ _ _) _ _ _ _ :: _) _ _); refine BigFrame.wpList_want rfl (fun K hK => ?_); refine op_lookup_hit (k := pairV fr to) rfl rfl rfl Try.k66 Try.underlying51 (hqs.keep hEw (fun h => h)) hk2.out hin.out ?_; refine hK _ _ ?_; clear hK K)
        | (go_at_call 37; refine (hfirst'.out w2 hEw).mono ?_; rintro _ w3 ⟨mv, L1, rfl, h3, hl3, hmr, hmtag⟩; have hmr' := hmr; obtain ⟨adm, nm, cm, rfl, -⟩ := hmr'; have h4 := h3.alloc (.cells #[.slice adm nm cm, .int .i64 m.length, .int .i64 m.heard] 83); have hmsg := Lib.hid (blk_cells (vs := [.slice adm nm cm, .int .i64 m.length, .int .i64 m.heard]) (obj_new w3 (.cells #[.slice adm nm cm, .int .i64 m.length, .int .i64 m.heard] 83))); have hel0 := Lib.hid (node_at L1 hto1.out))
        | ((with_reducible change wpList _ _ _ (Oper.mk _ (Op.load _ _) _ _ _ _ :: _) _ _); refine BigFrame.wpList_want rfl (fun K hK => ?_); refine op_load1 rfl rfl Try.ag53 (h4.net.cell (i := 0) rfl) ?_; refine hK _ _ ?_; clear hK K)
        | ((with_reducible change wpList _ _ _ (Oper.mk _ (Op.indexAddr _ _ _) _ _ _ _ :: _) _ _); refine BigFrame.wpList_want rfl (fun K hK => ?_); refine op_index_row (i := to) rfl rfl rfl Try.underlying53 Try.szE56 h4.nodes (hlen.out L1) (by omega) ?_; intro g k cs hel; refine hK _ _ ?_; clear hK K)
        | ((with_reducible change wpList _ _ _ (Oper.mk _ (Op.load _ _) _ _ _ _ :: _) _ _); refine BigFrame.wpList_want rfl (fun K hK => ?_); refine op_load1 rfl rfl Try.ag56 (hel.cell (j := 0) (by omega) hel0.out) ?_; refine hK _ _ ?_; clear hK K)
        | ((with_reducible change wpList _ _ _ (Oper.mk _ (Op.load _ _) _ _ _ _ :: _) _ _); refine BigFrame.wpList_want rfl (fun K hK => ?_); refine op_load1 rfl rfl Try.ag39 (hmsg.out 0 _ rfl) ?_; refine hK _ _ ?_; clear hK K)
        | ((with_reducible change wpList _ _ _ (Oper.mk _ (Op.call (Call.mk (Callee.builtin Builtin.len) _ _)) _ _ _ _ :: _) _ _); refine BigFrame.wpList_want rfl (fun K hK => ?_); refine op_len_row rfl rfl Try.underlying39 (hmr.alloc _) (by omega) hmlen.out ?_; refine hK _ _ ?_; clear hK K))
      have hsz4 : w3.heap.size < (w3.alloc (.cells #[.slice adm nm cm, .int .i64 m.length, .int .i64 m.heard] 83)).heap.size := by simp
      have hmr4 := hmr.alloc (.cells #[.slice adm nm cm, .int .i64 m.length, .int .i64 m.heard] 83)
      have hl14 : LayTo w.heap.size w (w3.alloc (.cells #[.slice adm nm cm, .int .i64 m.length, .int .i64 m.heard] 83)) L L1 := ((LayTo.same (Nat.le_refl _) hEw fun _ _ h => h.elim).trans (hl3.less hEw.size)).ext (Ext.alloc w3 _)
      have hoth3 := Lib.hid (h3.fresh _ (Nat.le_refl w3.heap.size))
      have hmtag' := Lib.hid hmtag
      clear hmtag
      go_loopw [76] (fun u W => ∃ k : Nat, u = .int .i64 k ∧ k ≤ m.texts.length ∧ RecvAt p (w3.alloc (.cells #[.slice adm nm cm, .int .i64 m.length, .int .i64 m.heard] 83)) L1 S1 to fr m.texts k W) (fun u _ => m.texts.length - (intOf u).toNat)
      case atStart => exact ⟨0, rfl, Nat.zero_le _, L1, h4, LayTo.refl _ L1⟩
      case round =>
        obtain ⟨k', rfl, hk', L2, h5, hl5⟩ := hrel
        have hwk := Lib.hid (wf1.recvs (to := to) (fr := fr) (m.texts.take k') (fun s hs => hmt'.out s (List.mem_of_mem_take hs)))
        have hrowW := hmr4.keep hl5.touch (fun b hb hF => by
          have h1 := hmtag'.out b hb
          rcases hF with hF | hF
          · have := hmr.lt hb; omega
          · exact hF.2 h1)
        have hto2 := Lib.hid (show to < (S1.recvs to fr (m.texts.take k')).n from by rw [NetS.recvs_n]; exact hto1.out)
        have hfr2 := Lib.hid (show fr < (S1.recvs to fr (m.texts.take k')).n from by rw [NetS.recvs_n]; exact hfr1.out)
        have hnode := Lib.hid hl5.node
        have hsz5 := hl5.touch.size
        by_cases hlt : k' < m.texts.length
        · have hmem := Lib.hid (show m.texts[k'] ∈ m.texts from List.getElem_mem hlt)
          have hsize := Lib.hid (wf1.size _ (hmt'.out _ hmem.out))
          have hadd := Lib.hid (add_contract h5 hto2.out hsize.out (hwk.out.1.textsLen hto2.out))
          rw [hnode.out] at hadd
          have hix := Lib.hid (show (k' + 1) * 1 ≤ (m.texts.map Value.string).length from by rw [hmlen.out]; omega)
          have helk := Lib.hid (show (m.texts.map Value.string)[k' * 1 + 0]? = some (.string m.texts[k']) from by simp [hlt])
          unfold ptr at hadd
          go_wp2_with (first
            | ((with_reducible change wpList _ _ _ (Oper.mk _ (Op.indexAddr _ _ _) _ _ _ _ :: _) _ _); refine BigFrame.wpList_want rfl (fun K hK => ?_); refine op_index_row (i := k') rfl rfl rfl Try.underlying39 Try.szE9 hrowW hix.out (by omega) ?_; intro g2 k2 cs2 hel2; refine hK _ _ ?_; clear hK K)
            | ((with_reducible change wpList _ _ _ (Oper.mk _ (Op.load _ _) _ _ _ _ :: _) _ _); refine BigFrame.wpList_want rfl (fun K hK => ?_); refine op_load1 rfl rfl Try.ag9 (hel2.cell (j := 0) (by omega) helk.out) ?_; refine hK _ _ ?_; clear hK K)
            | (go_at_call 32; refine hadd.out.mono ?_; rintro _ w5 ⟨rfl, L3, h6, hl6⟩; have hto3 := Lib.hid (show to < ((S1.recvs to fr (m.texts.take k')).add to m.texts[k']).n from by rw [NetS.add_n]; exact hto2.out); have hfr3 := Lib.hid (show fr < ((S1.recvs to fr (m.texts.take k')).add to m.texts[k']).n from by rw [NetS.add_n]; exact hfr2.out); have fp6 := Lib.hid (h6.peer hto3.out hfr3.out); rw [hl6.node, hnode.out] at fp6)
            | ((with_reducible change wpList _ _ _ (Oper.mk _ (Op.load _ _) _ _ _ _ :: _) _ _); refine BigFrame.wpList_want rfl (fun K hK => ?_); refine op_load1 rfl rfl Try.ag44 fp6.out ?_; refine hK _ _ ?_; clear hK K)
            | ((with_reducible change wpList _ _ _ (Oper.mk _ (Op.mapUpdate _ _ _ _) _ _ _ _ :: _) _ _); refine BigFrame.wpList_want rfl (fun K hK => ?_); refine op_insert (i := .got to fr) (s := m.texts[k']) rfl rfl rfl rfl h6 ⟨hto3.out, hfr3.out⟩ hsize.out ?_; intro w6 h7 ht7; refine hK _ _ ?_; clear hK K))
          have hfin : RecvAt p (w3.alloc (.cells #[.slice adm nm cm, .int .i64 m.length, .int .i64 m.heard] 83)) L1 S1 to fr m.texts (k' + 1) w6 := by
            refine ⟨L3, ?_, (hl5.trans (hl6.less hsz5)).trans (LayTo.same (F := fun b => b = L3.sets (.got to fr)) (Nat.le_trans hsz5 hl6.touch.size) ht7 fun b _ e => .inr ?_)⟩
            · rw [NetS.recvs_take _ _ _ _ _ hlt]; exact h7
            · subst e; rw [h6.tset (.got to fr) ⟨hto3.out, hfr3.out⟩]; simp
          exact ⟨⟨k' + 1, by go_num, hlt, hfin⟩, by simp [intOf]; omega⟩
        · have hke : k' = m.texts.length := by omega
          rw [hke, List.take_length] at h5 hto2 hfr2
          obtain ⟨c, hc, hn⟩ := h5.node to hto2.out
          rw [hnode.out] at hc
          have hc' := Lib.hid hc
          have hn' := Lib.hid hn
          obtain ⟨n1, n2, _⟩ := hn.2.2.2 fr hfr2.out
          have fh := Lib.hid (hc.cell n1)
          have fk := Lib.hid (hc.cell n2)
          have hcs := Lib.hid hn.1
          have hmsgW := Lib.hid (fun (j : Nat) (v : Value) (hv : [Value.slice adm nm cm, .int .i64 m.length, .int .i64 m.heard][j]? = some v) => hl5.touch.cell (hmsg.out j v hv) (by
            have hb : ((⟨w3.heap.size, 0, none⟩ : Addr).add j).block = w3.heap.size := by unfold Addr.add; split <;> rfl
            rw [hb]
            rintro (hF | hF)
            · omega
            · exact hF.1 hoth3.out))
          have hng := Lib.hid (show ¬ (w3.heap.size = L1.node to) from fun e => by have := h3.tnode to hto1.out; rw [← e, hoth3.out] at this; cases this)
          clear hc hn n1 n2 hke hwk
          go_wp2_with fail
          refine wp_region_rt (by kernel_rfl) [0, 0, 0, 4, 12, 28, 0, 64, 252, 0, 512, 1536, 3584, 0, 8192, 32256, 8189, 73725, 204797, 524287, 1048575, 2097151] (.rd 0 (.rd 1 (.rd 2 (.rd 3 (.rd 4 (.rd 5 (.rd 6 (.rd 7 (.rd 8 (.rd 9 (.rd 10 (.rd 11 (.rd 12 (.rd 13 (.rd 14 (.rd 15 (.rd 16 (.rd 17 (.e1 18 [13, 14, 15] (.rd 19 (.rd 20 (.e1 21 [] (.nil))))))))))))))))))))))) (by kernel_rfl) ?_
          iterate 5 (refine cw_rd rfl rfl rfl rfl rfl (fun K hK => ?_); go_wp2_with fail)
          (refine cw_rd rfl rfl rfl rfl rfl (fun K hK => ?_); refine op_load1 rfl rfl Try.ag3 (cell_drew fh.out) ?_; refine hK _ ?_; clear hK K)
          iterate 1 (refine cw_rd rfl rfl rfl rfl rfl (fun K hK => ?_); go_wp2_with fail)
          (refine cw_rd rfl rfl rfl rfl rfl (fun K hK => ?_); refine op_load1 rfl rfl Try.ag3 (cell_drew (hmsgW.out 1 _ rfl)) ?_; refine hK _ ?_; clear hK K)
          (refine cw_rd rfl rfl rfl rfl rfl (fun K hK => ?_); refine op_max (m := (S1.recvs to fr m.texts).heard to fr) (n := m.length) rfl rfl rfl ?_; refine hK _ ?_; clear hK K)
          iterate 3 (refine cw_rd rfl rfl rfl rfl rfl (fun K hK => ?_); go_wp2_with fail)
          (refine cw_rd rfl rfl rfl rfl rfl (fun K hK => ?_); refine op_load1 rfl rfl Try.ag3 (cell_drew fk.out) ?_; refine hK _ ?_; clear hK K)
          iterate 1 (refine cw_rd rfl rfl rfl rfl rfl (fun K hK => ?_); go_wp2_with fail)
          (refine cw_rd rfl rfl rfl rfl rfl (fun K hK => ?_); refine op_load1 rfl rfl Try.ag3 (cell_drew (hmsgW.out 2 _ rfl)) ?_; refine hK _ ?_; clear hK K)
          (refine cw_rd rfl rfl rfl rfl rfl (fun K hK => ?_); refine op_max (m := (S1.recvs to fr m.texts).known to fr) (n := m.heard) rfl rfl rfl ?_; refine hK _ ?_; clear hK K)
          iterate 2 (refine cw_rd rfl rfl rfl rfl rfl (fun K hK => ?_); go_wp2_with fail)
          refine cw_e1 rfl rfl (fun K hK => ?_)
          refine op_store1 (g := L1.node to) (i := 2 + fr * 3) (T := 61) (cs := c) rfl rfl rfl Try.sz3 rfl hc'.out (by rw [hcs.out]; omega) ?_
          intro w6 hb6 ht6 hz6
          refine hK _ _ ⟨?_, ?_⟩
          · clear hK K
            (repeat (first | exact fl_nil | refine fl_skip rfl ?_ | (refine fl_take rfl ?_ ?_; (first | exact yldI_load1 rfl rfl rfl rfl Try.ag3 (ht6.cell (cell_drew (hmsgW.out 2 _ rfl)) hng.out) | exact yldI_max (m := (S1.recvs to fr m.texts).known to fr) (n := m.heard) rfl rfl rfl rfl rfl | (refine yldI_of rfl rfl ?_; go_simp)))))
          clear hK K
          iterate 2 (refine cw_rd rfl rfl rfl rfl rfl (fun K hK => ?_); go_wp2_with fail)
          refine cw_e1 rfl rfl (fun K hK => ?_)
          refine op_store1 (g := L1.node to) (i := 2 + fr * 3 + 1) (T := 61) rfl rfl rfl Try.sz3 rfl hb6 (by rw [Array.size_setIfInBounds, hcs.out]; omega) ?_
          intro w7 hb7 ht7 hz7
          refine hK _ _ ⟨fl_none, ?_⟩
          clear hK K
          refine cw_nil ?_
          go_wp2_with fail
          go_ret
          have htt : Touch (· = L2.node to) wr w7 := by
            rw [hnode.out]
            exact ((Touch.refl _ wr).drew.trans ht6 fun _ _ h => h).trans ht7 fun _ _ h => h
          have hset := h5.setPeer (i := to) (j := fr) hto2.out hfr2.out (max ((S1.recvs to fr m.texts).heard to fr) m.length) (max ((S1.recvs to fr m.texts).known to fr) m.heard) (c := c) (by rw [hnode.out]; exact hc'.out) hn'.out htt (by rw [hnode.out]; exact hb7) rfl
          refine ⟨rfl, L2, hset, (hl14.trans (hl5.less ?_)).trans (LayTo.same (F := fun b => b = L2.node to) ?_ htt fun b _ e => .inr ?_)⟩
          · exact hl14.touch.size
          · exact Nat.le_trans hl14.touch.size hsz5
          · subst e; rw [h5.tnode to hto2.out]; simp
end Go.Proofs.Ytcipfpebjeakfaa
