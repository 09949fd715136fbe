/-
  The walk of NetSpreads.
-/
import Derived.Test.YtcipfpebjeakfaaNetZ
namespace Go.Proofs.Ytcipfpebjeakfaa
open Go Go.RowKit Go.WideMaps

section
variable {w0 W : World} {p : Nat} {L : Lay} {S : NetS}
theorem send_at (h : LawAt w0 W p L S) (wf : Wf S) (hq : ∀ i j, (S.queues i j).length ≤ 99) (a b : Nat) (ha : a ≤ 1000) (hb : b ≤ 1000) {r : Int} (hr : S.sendC a b = r) :
    Calls Try.prog 15 #[ptr p, .int .i64 a, .int .i64 b] W fun e w' => e = .returned (.int .i64 r) ∧ ∃ L', LawAt w0 w' p L' (S.send a b) ∧ LayTo W.heap.size W w' L L' := by
  subst hr
  refine (send_contract h.net wf a b ha hb fun i j _ _ => hq i j).mono ?_
  rintro e w' ⟨rfl, L', h1, h2⟩
  exact ⟨rfl, L', h.step h1 h2, h2⟩
theorem deliver_at (h : LawAt w0 W p L S) (wf : Wf S) (a b : Nat) (lost again : Bool) (ha : a ≤ 1000) (hb : b ≤ 1000) {r : Bool} (hr : S.deliverC a b = r) :
    Calls Try.prog 17 #[ptr p, .int .i64 a, .int .i64 b, .bool lost, .bool again] W fun e w' => e = .returned (.bool r) ∧ ∃ L', LawAt w0 w' p L' (S.deliver a b lost again) ∧ LayTo W.heap.size W w' L L' := by
  subst hr
  refine (deliver_contract h.net wf a b lost again ha hb).mono ?_
  rintro e w' ⟨rfl, L', h1, h2⟩
  exact ⟨rfl, L', h.step h1 h2, h2⟩
theorem cut_at (h : LawAt w0 W p L S) (a b : Nat) (v : Bool) (ha : a ≤ 1000) (hb : b ≤ 1000) :
    Calls Try.prog 19 #[ptr p, .int .i64 a, .int .i64 b, .bool v] W fun e w' => e = .returned (.int .i64 (S.codeB a b)) ∧ ∃ L', LawAt w0 w' p L' (S.cutTo a b v) ∧ LayTo W.heap.size W w' L L' := by
  refine (cut_contract h.net a b v ha hb).mono ?_
  rintro e w' ⟨rfl, L', h1, h2⟩
  exact ⟨rfl, L', h.step h1 h2, h2⟩
end

theorem op_len_set {o : Oper} {a : Act} {K : Act → World → Prop} {Q : Exit → Act → World → Prop} {x : Operand} {b : Nat} {m : List (Value × Value)} {W : World} {n : Int} (ho : o.op = .call { callee := .builtin .len, args := #[x], argTypes := #[44] })
    (hx : a.eval x = .map (some b)) (ht : Try.prog.underlying 44 = some (.map 9 4)) (hm : MapAt Try.prog 9 W b m) (hn : (m.length : Int) = n) (h : K (a.put o.dst (.int .i64 n)) W) : o.wp Try.prog a W K Q :=
  op_len_map ho hx ht hm (by rw [hn]; exact h)

/-- Some lines are whole, and nothing is under way on them. -/
structure Half (S : NetS) (n : Nat) (A : List ByteArray) (done : Nat → Nat → Prop) : Prop where
  calm : Calm S done
  nn : S.n = n
  all : S.sets .all = A
  placed : Placed S
theorem Half.cut {S : NetS} {n : Nat} {A : List ByteArray} {done : Nat → Nat → Prop} (h : Half S n A done) (a b : Nat) : Half (S.cutTo a b false) n A done :=
  ⟨h.calm.cutTo a b, by rw [NetS.cutTo_n]; exact h.nn, by rw [NetS.cutTo_all]; exact h.all, h.placed.grow (NetS.cutTo_n _ _ _ _) (NetS.cutTo_all _ _ _ _) fun k => ⟨[], by rw [NetS.cutTo_texts]; simp⟩⟩
theorem Half.lose {S : NetS} {n : Nat} {A : List ByteArray} {done : Nat → Nat → Prop} (h : Half S n A done) (a b : Nat) : Half (S.pop a b) n A done :=
  ⟨h.calm.pop a b, h.nn, h.all, h.placed.grow (S' := S.pop a b) rfl rfl fun k => ⟨[], by simp [NetS.pop]⟩⟩
theorem Half.weak {S : NetS} {n : Nat} {A : List ByteArray} {done done' : Nat → Nat → Prop} (h : Half S n A done) (hd : ∀ i j, i < n → j < n → done' i j → done i j) : Half S n A done' :=
  ⟨⟨h.calm.wf, h.calm.told, h.calm.len, fun i j hij hi hj hne => h.calm.quiet i j (hd i j (by rw [← h.nn]; exact hi) (by rw [← h.nn]; exact hj) hij) hi hj hne⟩, h.nn, h.all, h.placed⟩
theorem Half.more {S : NetS} {n a b : Nat} {A : List ByteArray} (h : Half S n A (fun i j => i < a ∨ (i = a ∧ j < b))) (hq : a ≠ b → S.off a b = false ∧ S.queues a b = []) : Half S n A (fun i j => i < a ∨ (i = a ∧ j < b + 1)) :=
  ⟨⟨h.calm.wf, h.calm.told, h.calm.len, fun i j hij hi hj hne => by
    by_cases e : i = a ∧ j = b
    · obtain ⟨rfl, rfl⟩ := e
      exact hq hne
    · exact h.calm.quiet i j (by rcases hij with h1 | ⟨h1, h2⟩; exact .inl h1; exact .inr ⟨h1, by omega⟩) hi hj hne⟩, h.nn, h.all, h.placed⟩

attribute [local irreducible] World.cell? World.frozen? isAggB _root_.Go.Program.underlying

set_option maxRecDepth 100000 in
set_option maxHeartbeats 4000000 in
theorem spreads_walk {w : World} {v : Value} {l : List OpV} (hl : ROps w v l) (hok : ∀ o ∈ l, o.ok) (raw : Nat) (hraw : raw < 256) :
    Calls Try.prog 7 #[.int .u8 raw, v] w fun e w' => e = .returned (.bool true) ∧ Ext w w' := by
  have hlen6 : (l.length : Int) ≤ 9223372036854775807 := by obtain ⟨ad, c, _, h1, h2, _⟩ := hl; unfold maxLen at h2; omega
  go_enter Try.func7, Try.ntmps7
  ((first | go_at_call 9 | (go_wp2_with fail; go_at_call 9)); refine (head_contract w).mono ?_; rintro _ w1 ⟨rfl, x1⟩)
  have hl1 := hl.keep x1 (fun _ _ h => h)
  cases hsh : shortB l 60 with
  | false =>
    have hs := short_contract 60 hl1 (by omega)
    rw [hsh] at hs
    ((first | go_at_call 10 | (go_wp2_with fail; go_at_call 10)); refine (hs).mono ?_; rintro _ _ ⟨rfl, rfl⟩)
    go_wp2_with fail
    go_ret
    exact ⟨rfl, x1⟩
  | true =>
    have hs := short_contract 60 hl1 (by omega)
    rw [hsh] at hs
    obtain ⟨h60, h100⟩ := shortB_out hsh
    have h100' := Lib.hid h100
    have hok' := Lib.hid hok
    clear hsh h100 hok
    ((first | go_at_call 10 | (go_wp2_with fail; go_at_call 10)); refine (hs).mono ?_; rintro _ _ ⟨rfl, rfl⟩)
    ((first | go_at_call 26 | (go_wp2_with fail; go_at_call 26)); refine (size_contract w1 raw hraw).mono ?_; rintro _ _ ⟨rfl, rfl⟩)
    have hn8 : 1 + raw % 8 ≤ 8 := by omega
    have hn1 : 1 ≤ 1 + raw % 8 := by omega
    generalize hnd : 1 + raw % 8 = n at hn8 hn1
    clear hnd
    ((first | go_at_call 11 | (go_wp2_with fail; go_at_call 11)); refine (new_good (w := w1) n hn1 hn8).mono ?_; rintro _ w2 ⟨p, L2, rfl, h2, x2, o2⟩)
    have l2 : LawAt w w2 p L2 (NetS.fresh n) := ⟨h2, x1.then_ext x2, fun b hb => o2 b (by have := x1.size; omega)⟩
    have g0 : Good (NetS.fresh n) 0 := ⟨Wf.fresh hn1 hn8, Cap.fresh n⟩
    clear h2 x1 x2 o2 hl1
    have m2 : PutAt w (w2.alloc (.map #[] 0)) L2 w2.heap.size [] := ⟨MapAt.new Try.prog 9 w2 0, l2.net.fresh _ (Nat.le_refl _), l2.ext.size⟩
    replace l2 := l2.then (Ext.alloc w2 (.map #[] 0))
    go_wp2_with (first | (change wpList _ _ _ (Oper.mk _ (Op.makeMap _ _) _ _ _ _ :: _) _ _; refine BigFrame.wpList_want rfl (fun K hK => ?_); refine op_makeMap rfl ?_; refine hK _ _ ?_; clear hK K))
    generalize w2.heap.size = m at m2 ⊢
    go_loopw [10] (fun u W => ∃ k : Nat, u = .int .i64 k ∧ k ≤ l.length ∧ ∃ L, LawAt w W p L ((NetS.fresh n).run (l.take k)) ∧ PutAt w W L m (((NetS.fresh n).run (l.take k)).sets .all)) (fun u _ => l.length - (intOf u).toNat)
    case atStart => exact ⟨0, rfl, Nat.zero_le _, L2, by simpa [NetS.run] using l2, by simpa [NetS.run, NetS.fresh] using m2⟩
    case round =>
      obtain ⟨k, rfl, hk, L, hL, hP⟩ := hrel
      have g := g0.run h100'.out k hk (by omega)
      have hn : ((NetS.fresh n).run (l.take k)).n = n := by rw [NetS.run_n]; rfl
      have hlW := hl.keep hL.ext (fun _ _ h => h)
      by_cases hlt : k < l.length
      · have hstep := Lib.hid (NetS.run_take (NetS.fresh n) hlt)
        clear l2 m2 g0
        generalize hS : (NetS.fresh n).run (l.take k) = S at hL g hn hP hstep
        clear hS
        have htx := Lib.hid (show l[k].text.size ≤ 20000 from by have := h100'.out _ (List.getElem_mem hlt); omega)
        go_wp2_with (first
          | (change wpList _ _ _ (Oper.mk _ (Op.call (Call.mk (Callee.builtin Builtin.len) _ _)) _ _ _ _ :: _) _ _; refine BigFrame.wpList_want rfl (fun K hK => ?_); refine op_len_ops rfl rfl Try.underlying22 hlW ?_; refine hK _ _ ?_; clear hK K)
          | (change wpList _ _ _ (Oper.mk _ (Op.indexAddr _ _ _) _ _ _ _ :: _) _ _; refine BigFrame.wpList_want rfl (fun K hK => ?_); refine op_index_ops (i := k) rfl rfl rfl Try.underlying22 Try.szE33 hlW hlt ?_; intro pp hpp hbb; refine hK _ _ ?_; clear hK K)
          | (change wpList _ _ _ (Oper.mk _ (Op.load _ _) _ _ _ _ :: _) _ _; refine BigFrame.wpList_want rfl (fun K hK => ?_); refine op_loadN (p := pp) (vs := l[k].cells) rfl rfl Try.ag33 Try.sz33 hpp ?_; refine hK _ _ ?_; clear hK K))
        ((first | go_at_call 27 | (go_wp2_with fail; go_at_call 27)); refine (do_is hL g (by omega) hn (hok'.out _ (List.getElem_mem hlt)) (h100'.out _ (List.getElem_mem hlt))).mono ?_; rintro _ w3 ⟨rfl, L3, l3, t3⟩)
        have hP3 := hP.step t3
        have hl3 := hl.keep l3.ext (fun _ _ h => h)
        by_cases hkind : l[k].kind % 4 = 0
        · have k0 : (((l[k].kind : Nat) : Int) % 4 == 0) = true := by simp; omega
          have hall := Lib.hid (S.step_all l[k] (by omega))
          have hkh := Lib.hid hkind
          clear hkind
          go_wp2_with (first
            | (change wpList _ _ _ (Oper.mk _ (Op.indexAddr _ _ _) _ _ _ _ :: _) _ _; refine BigFrame.wpList_want rfl (fun K hK => ?_); refine op_index_ops (i := k) rfl rfl rfl Try.underlying22 Try.szE33 hl3 hlt ?_; intro qq hqq hqb; refine hK _ _ ?_; clear hK K)
            | (change wpList _ _ _ (Oper.mk _ (Op.load _ _) _ _ _ _ :: _) _ _; refine BigFrame.wpList_want rfl (fun K hK => ?_); refine op_load1 rfl rfl Try.ag5 (hqq 0 _ rfl) ?_; refine hK _ _ ?_; clear hK K)
            | (change wpList _ _ _ (Oper.mk _ (Op.load _ _) _ _ _ _ :: _) _ _; refine BigFrame.wpList_want rfl (fun K hK => ?_); refine op_load1 rfl rfl Try.ag9 (hqq 5 _ rfl) ?_; refine hK _ _ ?_; clear hK K)
            | (change wpList _ _ _ (Oper.mk _ (Op.mapUpdate _ _ _ _) _ _ _ _ :: _) _ _; refine BigFrame.wpList_want rfl (fun K hK => ?_); refine op_put rfl rfl rfl rfl hP3 htx.out ?_; intro w8 hP8 t8; refine hK _ _ ?_; clear hK K))
          exact ⟨⟨k + 1, by go_num, hlt, L3, by rw [hstep.out]; exact l3.other t8 hP3.tag hP3.new, by rw [hstep.out, hall.out, if_pos hkh.out]; exact hP8⟩, by simp [intOf]; omega⟩
        · have k0 : (((l[k].kind : Nat) : Int) % 4 == 0) = false := by simp; omega
          have hall := Lib.hid (S.step_all l[k] (by omega))
          have hkh := Lib.hid hkind
          clear hkind
          go_wp2_with (first
            | (change wpList _ _ _ (Oper.mk _ (Op.indexAddr _ _ _) _ _ _ _ :: _) _ _; refine BigFrame.wpList_want rfl (fun K hK => ?_); refine op_index_ops (i := k) rfl rfl rfl Try.underlying22 Try.szE33 hl3 hlt ?_; intro qq hqq hqb; refine hK _ _ ?_; clear hK K)
            | (change wpList _ _ _ (Oper.mk _ (Op.load _ _) _ _ _ _ :: _) _ _; refine BigFrame.wpList_want rfl (fun K hK => ?_); refine op_load1 rfl rfl Try.ag5 (hqq 0 _ rfl) ?_; refine hK _ _ ?_; clear hK K))
          exact ⟨⟨k + 1, by go_num, hlt, L3, by rw [hstep.out]; exact l3, by rw [hstep.out, hall.out, if_neg hkh.out]; exact hP3⟩, by simp [intOf]; omega⟩
      · have e : k = l.length := by omega
        subst e
        have tld := (Told.fresh n).run g0 h100'.out l.length (Nat.le_refl _) (by omega)
        have plc := (Placed.fresh n).run g0 h100'.out l.length (Nat.le_refl _) (by omega)
        clear hlt hk
        rw [List.take_length] at hL g hn hP tld plc
        generalize hS : (NetS.fresh n).run l = S at hL g hn hP tld plc
        clear hS l2 g0 m2
        have hf0 : Half S n (S.sets .all) (fun i _ => i < 0) := ⟨⟨g.wf, tld, fun i j => by have := g.cap.q i j; omega, fun i j h => by omega⟩, hn, rfl, plc⟩
        generalize S.sets .all = A at hP hf0
        replace hf0 := Lib.hid hf0
        clear g tld plc hn
        go_wp2_with (first
          | (change wpList _ _ _ (Oper.mk _ (Op.call (Call.mk (Callee.builtin Builtin.len) _ _)) _ _ _ _ :: _) _ _; refine BigFrame.wpList_want rfl (fun K hK => ?_); refine op_len_ops rfl rfl Try.underlying22 hlW ?_; refine hK _ _ ?_; clear hK K))
        go_loopw [11] (fun u W => ∃ a : Nat, u = .int .i64 a ∧ a ≤ n ∧ ∃ L S, LawAt w W p L S ∧ PutAt w W L m A ∧ Half S n A (fun i _ => i < a)) (fun u _ => n - (intOf u).toNat)
        case atStart => exact ⟨0, rfl, Nat.zero_le _, L, S, hL, hP, hf0.out⟩
        case round =>
          clear hlW hL hP hf0 L S
          obtain ⟨a, rfl, ha, L, S, hL, hP, hf⟩ := hrel
          replace hf := Lib.hid hf
          by_cases hal : a < n
          · go_wp2_with fail
            go_loopw [12] (fun u W => ∃ b : Nat, u = .int .i64 b ∧ b ≤ n ∧ ∃ L S, LawAt w W p L S ∧ PutAt w W L m A ∧ Half S n A (fun i j => i < a ∨ (i = a ∧ j < b))) (fun u _ => n - (intOf u).toNat)
            case atStart => exact ⟨0, rfl, Nat.zero_le _, L, S, hL, hP, hf.out.weak fun i j _ _ h => by omega⟩
            case round =>
              clear hL hP hf L S
              obtain ⟨b, rfl, hb, L, S, hL, hP, hf⟩ := hrel
              by_cases hbl : b < n
              · ((first | go_at_call 19 | (go_wp2_with fail; go_at_call 19)); refine (cut_at hL a b false (by omega) (by omega)).mono ?_; rintro _ w4 ⟨rfl, L4, l4, t4⟩)
                have hP4 := hP.step t4
                have hf4 := Lib.hid (hf.cut a b)
                have hoff := Lib.hid (fun (h : a ≠ b) => (S.cutTo_off (a := a) (b := b)).2 (NetS.okB_iff.2 ⟨by rw [hf.nn]; exact hal, by rw [hf.nn]; exact hbl, h⟩))
                clear hL hP t4 hf
                generalize S.cutTo a b false = S4 at l4 hf4 hoff
                go_wp2_with fail
                go_loopw [13] (fun u W => ∃ k : Nat, u = .int .i64 k ∧ ∃ L S, LawAt w W p L S ∧ PutAt w W L m A ∧ Half S n A (fun i j => i < a ∨ (i = a ∧ j < b)) ∧ (a ≠ b → S.off a b = false) ∧ (S.queues a b).length + k ≤ 90) (fun u _ => 90 - (intOf u).toNat)
                case atStart => exact ⟨0, rfl, L4, S4, l4, hP4, hf4.out, hoff.out, hf4.out.calm.len a b⟩
                case round =>
                  clear l4 hP4 hf4 hoff L4 S4
                  obtain ⟨k, rfl, L, S, hL, hP, hf, hoff, hk⟩ := hrel
                  have wf := hf.calm.wf
                  have hk9 : k ≤ 90 := by omega
                  cases hc : S.deliverC a b with
                  | true =>
                    have hd := NetS.deliver_lost hc
                    obtain ⟨_, _, mm, ms, hq⟩ := NetS.deliver_eq hc
                    have hps := S.pop_same hq
                    have hk8 : k < 90 := by omega
                    replace hf := Lib.hid hf
                    have hoff := Lib.hid hoff
                    replace hd := Lib.hid hd
                    replace hps := Lib.hid hps
                    replace hk := Lib.hid hk
                    have hcc := deliver_at hL wf a b true false (by omega) (by omega) hc
                    clear hq hc
                    ((first | go_at_call 17 | (go_wp2_with fail; go_at_call 17)); refine (hcc).mono ?_; rintro _ w5 ⟨rfl, L5, l5, t5⟩)
                    have hP5 := hP.step t5
                    rw [hd.out] at l5
                    go_wp2_with fail
                    exact ⟨⟨k + 1, by go_num, L5, S.pop a b, l5, hP5, hf.out.lose a b, hoff.out, by have := hps.out; have := hk.out; omega⟩, by simp [intOf]; omega⟩
                  | false =>
                    have hd := NetS.deliver_none hc true false
                    have hfin : Half S n A (fun i j => i < a ∨ (i = a ∧ j < b + 1)) := hf.more fun hne => ⟨hoff hne, NetS.deliverC_none hc (NetS.okB_iff.2 ⟨by rw [hf.nn]; exact hal, by rw [hf.nn]; exact hbl, hne⟩) (hoff hne)⟩
                    replace hfin := Lib.hid hfin
                    replace hd := Lib.hid hd
                    have hcc := deliver_at hL wf a b true false (by omega) (by omega) hc
                    clear hc hf hoff hk
                    ((first | go_at_call 17 | (go_wp2_with fail; go_at_call 17)); refine (hcc).mono ?_; rintro _ w5 ⟨rfl, L5, l5, t5⟩)
                    have hP5 := hP.step t5
                    rw [hd.out] at l5
                    go_wp2_with fail
                    exact ⟨⟨b + 1, by go_num, hbl, L5, S, l5, hP5, hfin.out⟩, by simp [intOf]; omega⟩
              · replace hf := Lib.hid hf
                go_wp2_with fail
                exact ⟨⟨a + 1, by go_num, hal, L, S, hL, hP, hf.out.weak fun i j _ hj h => by omega⟩, by simp [intOf]; omega⟩
          · have hsw := Lib.hid (show Sweep S n A 0 0 from by
              have h := hf.out.weak (done' := fun _ _ => True) fun i j hi _ _ => by omega
              have := Sweep.start h.calm h.placed
              rw [h.nn, h.all] at this
              exact this)
            clear hf
            go_wp2_with fail
            go_loopw [14] (fun u W => ∃ r : Nat, u = .int .i64 r ∧ r ≤ n ∧ ∃ L S, LawAt w W p L S ∧ PutAt w W L m A ∧ Sweep S n A r 0) (fun u _ => n - (intOf u).toNat)
            case atStart => exact ⟨0, rfl, Nat.zero_le _, L, S, hL, hP, hsw.out⟩
            case round =>
              clear hL hP hsw L S
              obtain ⟨r, rfl, hr, L, S, hL, hP, hsw⟩ := hrel
              replace hsw := Lib.hid hsw
              by_cases hrl : r < n
              · go_wp2_with fail
                go_loopw [15] (fun u W => ∃ b : Nat, u = .int .i64 b ∧ b + 1 ≤ n ∧ ∃ L S, LawAt w W p L S ∧ PutAt w W L m A ∧ Sweep S n A r b) (fun u _ => n - (intOf u).toNat)
                case atStart => exact ⟨0, rfl, by omega, L, S, hL, hP, hsw.out⟩
                case round =>
                  clear hL hP hsw L S
                  obtain ⟨b, rfl, hb, L, S, hL, hP, hsw⟩ := hrel
                  by_cases hbl : b + 1 < n
                  · obtain ⟨p1, p2, hnext⟩ := hsw.both hbl
                    replace hnext := Lib.hid hnext
                    have c1 := send_at hL hsw.calm.wf p1.len b (b + 1) (by omega) (by omega) p1.code
                    have e1 : ((b + 1 : Nat) : Int) = (b : Int) + 1 := by omega
                    rw [e1] at c1
                    have q1 := Lib.hid p1
                    have q2 := Lib.hid p2
                    clear hsw p1 p2 e1
                    ((first | go_at_call 15 | (go_wp2_with fail; go_at_call 15)); refine (c1).mono ?_; rintro _ w4 ⟨rfl, L4, l4, t4⟩)
                    have hP4 := hP.step t4
                    have c2 := deliver_at l4 q1.out.wf1 b (b + 1) false false (by omega) (by omega) q1.out.ok
                    rw [q1.out.eq, show ((b + 1 : Nat) : Int) = (b : Int) + 1 from by omega] at c2
                    clear c1 t4
                    ((first | go_at_call 17 | (go_wp2_with fail; go_at_call 17)); refine (c2).mono ?_; rintro _ w5 ⟨rfl, L5, l5, t5⟩)
                    have hP5 := hP4.step t5
                    have c3 := send_at l5 q1.out.calm.wf q2.out.len (b + 1) b (by omega) (by omega) q2.out.code
                    rw [show ((b + 1 : Nat) : Int) = (b : Int) + 1 from by omega] at c3
                    clear c2 t5
                    ((first | go_at_call 15 | (go_wp2_with fail; go_at_call 15)); refine (c3).mono ?_; rintro _ w6 ⟨rfl, L6, l6, t6⟩)
                    have hP6 := hP5.step t6
                    have c4 := deliver_at l6 q2.out.wf1 (b + 1) b false false (by omega) (by omega) q2.out.ok
                    rw [q2.out.eq, show ((b + 1 : Nat) : Int) = (b : Int) + 1 from by omega] at c4
                    clear c3 t6
                    ((first | go_at_call 17 | (go_wp2_with fail; go_at_call 17)); refine (c4).mono ?_; rintro _ w7 ⟨rfl, L7, l7, t7⟩)
                    have hP7 := hP6.step t7
                    go_wp2_with fail
                    exact ⟨⟨b + 1, by go_num, by omega, L7, _, l7, hP7, hnext.out⟩, by simp [intOf]; omega⟩
                  · have hnx := Lib.hid (hsw.next (by omega))
                    clear hsw
                    go_wp2_with fail
                    exact ⟨⟨r + 1, by go_num, hrl, L, S, hL, hP, hnx.out⟩, by simp [intOf]; omega⟩
              · have e : r = n := by omega
                have hfull := Lib.hid (fun i (hi : i < n) => hsw.out.full i hi (.inl (by omega)))
                have hall := Lib.hid hsw.out.all
                have hnn := hsw.out.nn
                have wf := hsw.out.calm.wf
                clear hsw hr hrl
                subst e
                go_wp2_with fail
                go_loopw [16] (fun u W => ∃ a : Nat, u = .int .i64 a ∧ a ≤ r ∧ Ext wr W) (fun u _ => r - (intOf u).toNat)
                case atStart => exact ⟨0, rfl, Nat.zero_le _, Touch.refl _ _⟩
                case round =>
                  obtain ⟨a, rfl, ha, hE⟩ := hrel
                  by_cases hal : a < r
                  · have hel : S.hasL a = S.texts a := by unfold NetS.hasL; rw [if_pos (by omega)]
                    have hc := has_contract (hL.net.ext hE) a (fun j hj => wf.textsLen hj) (by omega)
                    rw [hel] at hc
                    have hlen : (S.texts a).length = A.length := by rw [← hall.out]; exact full_length wf (by omega) (by rw [hall.out]; exact hfull.out a hal)
                    have hl1 : (S.texts a).length ≤ 1000 := wf.textsLen (by omega)
                    have hin := Lib.hid (show ∀ s ∈ S.texts a, s ∈ A from by rw [← hall.out]; exact wf.texts a (by omega))
                    have hsz := Lib.hid (show ∀ s ∈ S.texts a, s.size ≤ 20000 from fun s hs => wf.size s (wf.texts a (by omega) s hs))
                    clear hel
                    generalize S.texts a = xs at hc hlen hl1 hin hsz
                    ((first | go_at_call 22 | (go_wp2_with fail; go_at_call 22)); refine (hc).mono ?_; rintro _ w4 ⟨v4, rfl, r4, x4, f4⟩)
                    have hE4 := hE.then_ext x4
                    have hM := (hP.ext hE4).map
                    have lenA := Lib.hid (show (xs.map Value.string).length = xs.length * 1 from by simp)
                    have lenS := Lib.hid (show ((strs A).length : Int) = (xs.length : Int) from by rw [hlen]; simp [strs])
                    have hsame : ((xs.length : Int) != (xs.length : Int)) = false := by simp
                    clear hlen f4 hc
                    go_wp2_with (first
                      | (change wpList _ _ _ (Oper.mk _ (Op.call (Call.mk (Callee.builtin Builtin.len) _ _)) _ _ _ _ :: _) _ _; refine BigFrame.wpList_want rfl (fun K hK => ?_); refine op_len_row rfl rfl Try.underlying39 r4 (by omega) lenA.out ?_; refine hK _ _ ?_; clear hK K)
                      | (change wpList _ _ _ (Oper.mk _ (Op.call (Call.mk (Callee.builtin Builtin.len) _ _)) _ _ _ _ :: _) _ _; refine BigFrame.wpList_want rfl (fun K hK => ?_); refine op_len_set rfl rfl Try.underlying44 hM lenS.out ?_; refine hK _ _ ?_; clear hK K))
                    go_loopw [18] (fun u W => ∃ d : Nat, u = .int .i64 d ∧ d ≤ xs.length ∧ Ext w4 W) (fun u _ => xs.length - (intOf u).toNat)
                    case atStart => exact ⟨0, rfl, Nat.zero_le _, Touch.refl _ _⟩
                    case round =>
                      obtain ⟨d, rfl, hd, hE5⟩ := hrel
                      have rW := r4.keep hE5 (fun _ _ h => h)
                      have hMW := hM.keep hE5 (fun h => h)
                      by_cases hdl : d < xs.length
                      · have hxb := Lib.hid (show (d + 1) * 1 ≤ (xs.map Value.string).length from by rw [lenA.out]; omega)
                        have hx := Lib.hid (show (xs.map Value.string)[d * 1 + 0]? = some (.string xs[d]) from by simp [hdl])
                        have hkey := Lib.hid (key9 (hsz.out _ (List.getElem_mem hdl)))
                        have hit := Lib.hid (strs_in (hin.out _ (List.getElem_mem hdl)))
                        go_wp2_with (first
                          | (change wpList _ _ _ (Oper.mk _ (Op.call (Call.mk (Callee.builtin Builtin.len) _ _)) _ _ _ _ :: _) _ _; refine BigFrame.wpList_want rfl (fun K hK => ?_); refine op_len_row rfl rfl Try.underlying39 rW (by omega) lenA.out ?_; refine hK _ _ ?_; clear hK K)
                          | (change wpList _ _ _ (Oper.mk _ (Op.indexAddr _ _ _) _ _ _ _ :: _) _ _; refine BigFrame.wpList_want rfl (fun K hK => ?_); refine op_index_row (i := d) rfl rfl rfl Try.underlying39 Try.szE9 rW hxb.out (by omega) ?_; intro g5 k5 cs5 hel5; refine hK _ _ ?_; clear hK K)
                          | (change wpList _ _ _ (Oper.mk _ (Op.load _ _) _ _ _ _ :: _) _ _; refine BigFrame.wpList_want rfl (fun K hK => ?_); refine op_load1 rfl rfl Try.ag9 (hel5.cell (j := 0) (by omega) hx.out) ?_; refine hK _ _ ?_; clear hK K)
                          | (change wpList _ _ _ (Oper.mk _ (Op.lookup _ _ _ _) _ _ _ _ :: _) _ _; refine BigFrame.wpList_want rfl (fun K hK => ?_); refine op_lookup_hit (k := .string xs[d]) rfl rfl rfl Try.k9 Try.underlying44 hMW hkey.out hit.out ?_; refine hK _ _ ?_; clear hK K))
                        exact ⟨⟨d + 1, by go_num, hdl, hE5⟩, by simp [intOf]; omega⟩
                      · go_wp2_with (first
                          | (change wpList _ _ _ (Oper.mk _ (Op.call (Call.mk (Callee.builtin Builtin.len) _ _)) _ _ _ _ :: _) _ _; refine BigFrame.wpList_want rfl (fun K hK => ?_); refine op_len_row rfl rfl Try.underlying39 rW (by omega) lenA.out ?_; refine hK _ _ ?_; clear hK K))
                        exact ⟨⟨a + 1, by go_num, hal, hE4.then_ext hE5⟩, by simp [intOf]; omega⟩
                  · go_wp2_with fail
                    go_ret
                    exact ⟨rfl, hL.ext.then_ext hE⟩
end Go.Proofs.Ytcipfpebjeakfaa
