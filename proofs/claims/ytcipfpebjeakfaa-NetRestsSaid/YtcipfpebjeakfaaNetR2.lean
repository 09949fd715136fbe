/-
  The walk of NetRests.
-/
import Derived.Test.YtcipfpebjeakfaaNetZ2
import Derived.Test.YtcipfpebjeakfaaNetR1
namespace Go.Proofs.Ytcipfpebjeakfaa
open Go Go.RowKit Go.WideMaps

attribute [local irreducible] World.cell? World.frozen? isAggB _root_.Go.Program.underlying

set_option maxRecDepth 100000 in
set_option maxHeartbeats 4000000 in
theorem rests_walk {w : World} {v : Value} {l : List OpV} (hl : ROps w v l) (hok : ∀ o ∈ l, o.ok) (raw x y : Nat) (hraw : raw < 256) (hx : x < 256) (hy : y < 256) :
    Calls Try.prog 8 #[.int .u8 raw, v, .int .u8 x, .int .u8 y] w fun e w' => e = .returned (.bool true) ∧ Ext w w' := by
  have hlen6 : (l.length : Int) ≤ 9223372036854775807 := by obtain ⟨ad, c, _, h1, h2, _⟩ := hl; unfold maxLen at h2; omega
  go_enter Try.func8, Try.ntmps8
  ((first | go_at_call 9 | (go_wp2_with fail; go_at_call 9)); refine (head_contract w).mono ?_; rintro _ w1 ⟨rfl, x1⟩)
  have hl1 := hl.keep x1 (fun _ _ h => h)
  cases hsh : shortB l 60 with
  | false =>
    have hs := short_contract 60 hl1 (by omega)
    rw [hsh] at hs
    ((first | go_at_call 10 | (go_wp2_with fail; go_at_call 10)); refine (hs).mono ?_; rintro _ _ ⟨rfl, rfl⟩)
    go_wp2_with fail
    go_ret
    exact ⟨rfl, x1⟩
  | true =>
    have hs := short_contract 60 hl1 (by omega)
    rw [hsh] at hs
    obtain ⟨h60, h100⟩ := shortB_out hsh
    have h100' := Lib.hid h100
    have hok' := Lib.hid hok
    clear hsh h100 hok
    ((first | go_at_call 10 | (go_wp2_with fail; go_at_call 10)); refine (hs).mono ?_; rintro _ _ ⟨rfl, rfl⟩)
    ((first | go_at_call 26 | (go_wp2_with fail; go_at_call 26)); refine (size_contract w1 raw hraw).mono ?_; rintro _ _ ⟨rfl, rfl⟩)
    have hn8 : 1 + raw % 8 ≤ 8 := by omega
    have hn1 : 1 ≤ 1 + raw % 8 := by omega
    generalize hnd : 1 + raw % 8 = nodes at hn8 hn1
    clear hnd
    ((first | go_at_call 11 | (go_wp2_with fail; go_at_call 11)); refine (new_good (w := w1) nodes hn1 hn8).mono ?_; rintro _ w2 ⟨p, L2, rfl, h2, x2, o2⟩)
    have l2 : LawAt w w2 p L2 (NetS.fresh nodes) := ⟨h2, x1.then_ext x2, fun b hb => o2 b (by have := x1.size; omega)⟩
    have g0 : Good (NetS.fresh nodes) 0 := ⟨Wf.fresh hn1 hn8, Cap.fresh nodes⟩
    clear h2 x1 x2 o2 hl1
    go_wp2_with fail
    go_loopw [13] (fun u W => ∃ k : Nat, u = .int .i64 k ∧ k ≤ l.length ∧ ∃ L, LawAt w W p L ((NetS.fresh nodes).run (l.take k))) (fun u _ => l.length - (intOf u).toNat)
    case atStart => exact ⟨0, rfl, Nat.zero_le _, L2, by simpa [NetS.run] using l2⟩
    case round =>
      obtain ⟨k, rfl, hk, L, hL⟩ := hrel
      have g := g0.run h100'.out k hk (by omega)
      have hn : ((NetS.fresh nodes).run (l.take k)).n = nodes := by rw [NetS.run_n]; rfl
      have hlW := hl.keep hL.ext (fun _ _ h => h)
      by_cases hlt : k < l.length
      · go_wp2_with (first
          | (change wpList _ _ _ (Oper.mk _ (Op.call (Call.mk (Callee.builtin Builtin.len) _ _)) _ _ _ _ :: _) _ _; refine BigFrame.wpList_want rfl (fun K hK => ?_); refine op_len_ops rfl rfl Try.underlying22 hlW ?_; refine hK _ _ ?_; clear hK K)
          | (change wpList _ _ _ (Oper.mk _ (Op.indexAddr _ _ _) _ _ _ _ :: _) _ _; refine BigFrame.wpList_want rfl (fun K hK => ?_); refine op_index_ops (i := k) rfl rfl rfl Try.underlying22 Try.szE33 hlW hlt ?_; intro pp hpp hbb; refine hK _ _ ?_; clear hK K)
          | (change wpList _ _ _ (Oper.mk _ (Op.load _ _) _ _ _ _ :: _) _ _; refine BigFrame.wpList_want rfl (fun K hK => ?_); refine op_loadN (p := pp) (vs := l[k].cells) rfl rfl Try.ag33 Try.sz33 hpp ?_; refine hK _ _ ?_; clear hK K))
        ((first | go_at_call 27 | (go_wp2_with fail; go_at_call 27)); refine (do_is hL g (by omega) hn (hok'.out _ (List.getElem_mem hlt)) (h100'.out _ (List.getElem_mem hlt))).mono ?_; rintro _ w3 ⟨rfl, L3, l3, t3⟩)
        go_wp2_with fail
        exact ⟨⟨k + 1, by go_num, hlt, L3, by rw [NetS.run_take _ hlt]; exact l3⟩, by simp [intOf]; omega⟩
      · have e : k = l.length := by omega
        subst e
        have tld := (Told.fresh nodes).run g0 h100'.out l.length (Nat.le_refl _) (by omega)
        clear hlt hk
        rw [List.take_length] at hL g hn tld
        generalize hS : (NetS.fresh nodes).run l = S at hL g hn tld
        subst hn
        clear hS l2 g0
        have g := g.more h60
        have hz : ¬ ((S.n : Int) = 0) := by omega
        have hxa := Nat.mod_lt x (show S.n > 0 by omega)
        have hya := Nat.mod_lt y (show S.n > 0 by omega)
        have ex : ((x % S.n : Nat) : Int) = (x : Int) % (S.n : Int) := Int.natCast_emod _ _
        have ey : ((y % S.n : Nat) : Int) = (y : Int) % (S.n : Int) := Int.natCast_emod _ _
        generalize hxx : x % S.n = a at hxa ex
        generalize hyy : y % S.n = b at hya ey
        clear hxx hyy
        go_wp2_with (first
          | (change wpList _ _ _ (Oper.mk _ (Op.call (Call.mk (Callee.builtin Builtin.len) _ _)) _ _ _ _ :: _) _ _; refine BigFrame.wpList_want rfl (fun K hK => ?_); refine op_len_ops rfl rfl Try.underlying22 hlW ?_; refine hK _ _ ?_; clear hK K))
        refine wp_region_rt (by kernel_rfl) [0, 1, 0, 7, 0, 16, 0, 112, 15, 511] (.rd 0 (.rd 1 (.rd 2 (.rd 3 (.rd 4 (.rd 5 (.rd 6 (.rd 7 (.rd 8 (.rd 9 (.nil))))))))))) (by kernel_rfl) ?_
        iterate 10 (refine cw_rd rfl rfl rfl rfl rfl (fun K hK => ?_); go_wp2_with fail)
        refine cw_nil ?_
        rw [← ex, ← ey]
        have hLd := hL.then ((Touch.refl _ wr).drew)
        clear hL ex ey hlW
        have ha6 : a ≤ 1000 := by have := g.wf.n8; omega
        have hb6 : b ≤ 1000 := by have := g.wf.n8; omega
        by_cases hab : a = b
        · have hab' : ((a : Int) == (b : Int)) = true := by simp [hab]
          have hab2 := Lib.hid hab
          clear hab
          go_wp2_with fail
          go_ret
          exact ⟨rfl, hLd.ext⟩
        · have hab' : ((a : Int) == (b : Int)) = false := by simp; omega
          have hab2 := Lib.hid hab
          have hokB := Lib.hid (NetS.okB_iff.2 ⟨hxa, hya, hab⟩)
          clear hab
          have hc4 : Calm (S.cutTo a b false) (fun _ _ => False) := (Calm.cutTo ⟨g.wf, tld, fun i j => by have := g.cap.q i j; omega, fun i j h => h.elim⟩ a b)
          have hn4 : (S.cutTo a b false).n = S.n := NetS.cutTo_n _ _ _ _
          have hq4 : ((S.cutTo a b false).queues a b).length + ((S.cutTo a b false).queues b a).length + 0 ≤ 180 := by rw [NetS.cutTo_queues]; have := g.cap.q a b; have := g.cap.q b a; omega
          have ho4 := (S.cutTo_off (a := a) (b := b)).2 hokB.out
          have ho5 := S.cutTo_off' hokB.out
          replace hc4 := Lib.hid hc4
          replace hq4 := Lib.hid hq4
          have ho4 := Lib.hid ho4
          have ho5 := Lib.hid ho5
          have hn4 := Lib.hid hn4
          clear tld
          ((first | go_at_call 19 | (go_wp2_with fail; go_at_call 19)); refine (cut_at hLd a b false ha6 hb6).mono ?_; rintro _ w4 ⟨rfl, L4, l4, t4⟩)
          clear hLd t4
          generalize S.cutTo a b false = S4 at l4 hc4 hn4 hq4 ho4 ho5
          generalize S.codeB a b = cb
          go_wp2_with fail
          go_loopw [16] (fun u W => ∃ k : Nat, u = .int .i64 k ∧ ∃ L S', LawAt w W p L S' ∧ Calm S' (fun _ _ => False) ∧ S'.n = S.n ∧ S'.off a b = false ∧ S'.off b a = false ∧ (S'.queues a b).length + (S'.queues b a).length + k ≤ 180) (fun u _ => 180 - (intOf u).toNat)
          case atStart => exact ⟨0, rfl, L4, S4, l4, hc4.out, hn4.out, ho4.out, ho5.out, hq4.out⟩
          case round =>
            clear l4 hc4 hn4 hq4 ho4 ho5 S4 L4
            obtain ⟨k, rfl, L4, S4, l4, hc4, hn4, ho4, ho5, hk⟩ := hrel
            have hk9 : k ≤ 180 := by omega
            have wf := hc4.wf
            have hoka : S4.okB a b = true := NetS.okB_iff.2 ⟨by omega, by omega, hab2.out⟩
            have hokb : S4.okB b a = true := NetS.okB_iff.2 ⟨by omega, by omega, fun e => hab2.out e.symm⟩
            cases hd1 : S4.deliverC a b with
            | true =>
              have hd := Lib.hid (NetS.deliver_lost hd1)
              obtain ⟨_, _, mm, ms, hq⟩ := NetS.deliver_eq hd1
              have hps := Lib.hid (S4.pop_same hq)
              have hps2 := Lib.hid (S4.pop_len a b b a)
              have hkk := Lib.hid hk
              have hk8 : k < 180 := by rw [hq] at hk; simp only [List.length_cons] at hk; omega
              have hcc := deliver_at l4 wf a b true false ha6 hb6 hd1
              replace hc4 := Lib.hid hc4
              replace ho4 := Lib.hid ho4
              replace ho5 := Lib.hid ho5
              replace hn4 := Lib.hid hn4
              clear hq hd1 hk hoka hokb
              ((first | go_at_call 17 | (go_wp2_with fail; go_at_call 17)); refine (hcc).mono ?_; rintro _ w5 ⟨rfl, L5, l5, t5⟩)
              rw [hd.out] at l5
              go_wp2_with fail
              exact ⟨⟨k + 1, by go_num, L5, S4.pop a b, l5, hc4.out.pop a b, hn4.out, ho4.out, ho5.out, by have := hps.out; have := hps2.out; have := hkk.out; omega⟩, by simp [intOf]; omega⟩
            | false =>
              have hd := Lib.hid (NetS.deliver_none hd1 true false)
              have hcc := deliver_at l4 wf a b true false ha6 hb6 hd1
              rw [hd.out] at hcc
              cases hd2 : S4.deliverC b a with
              | true =>
                have hd' := Lib.hid (NetS.deliver_lost hd2)
                obtain ⟨_, _, mm, ms, hq⟩ := NetS.deliver_eq hd2
                have hps := Lib.hid (S4.pop_same hq)
                have hps2 := Lib.hid (S4.pop_len b a a b)
                have hkk := Lib.hid hk
                have hk8 : k < 180 := by rw [hq] at hk; simp only [List.length_cons] at hk; omega
                replace hc4 := Lib.hid hc4
                replace ho4 := Lib.hid ho4
                replace ho5 := Lib.hid ho5
                replace hn4 := Lib.hid hn4
                replace hd2 := Lib.hid hd2
                clear hq hd1 hk hoka hokb
                ((first | go_at_call 17 | (go_wp2_with fail; go_at_call 17)); refine (hcc).mono ?_; rintro _ w5 ⟨rfl, L5, l5, t5⟩)
                have hcc2 := deliver_at l5 wf b a true false hb6 ha6 hd2.out
                rw [hd'.out] at hcc2
                clear hcc
                ((first | go_at_call 17 | (go_wp2_with fail; go_at_call 17)); refine (hcc2).mono ?_; rintro _ w6 ⟨rfl, L6, l6, t6⟩)
                go_wp2_with fail
                exact ⟨⟨k + 1, by go_num, L6, S4.pop b a, l6, hc4.out.pop b a, hn4.out, ho4.out, ho5.out, by have := hps.out; have := hps2.out; have := hkk.out; omega⟩, by simp [intOf]; omega⟩
              | false =>
                have hd' := Lib.hid (NetS.deliver_none hd2 true false)
                have hcalm := Lib.hid (show Calm S4 (Pair a b) from ⟨hc4.wf, hc4.told, hc4.len, fun i j hij _ _ _ => by
                  rcases hij with ⟨rfl, rfl⟩ | ⟨rfl, rfl⟩
                  · exact ⟨ho4, NetS.deliverC_none hd1 hoka ho4⟩
                  · exact ⟨ho5, NetS.deliverC_none hd2 hokb ho5⟩⟩)
                replace hn4 := Lib.hid hn4
                replace hd2 := Lib.hid hd2
                clear hc4 ho4 ho5 hk hd1 hoka hokb
                ((first | go_at_call 17 | (go_wp2_with fail; go_at_call 17)); refine (hcc).mono ?_; rintro _ w5 ⟨rfl, L5, l5, t5⟩)
                have hcc2 := deliver_at l5 wf b a true false hb6 ha6 hd2.out
                rw [hd'.out] at hcc2
                clear hcc
                ((first | go_at_call 17 | (go_wp2_with fail; go_at_call 17)); refine (hcc2).mono ?_; rintro _ w6 ⟨rfl, L6, l6, t6⟩)
                clear hcc2 t5 t6 l5 l4 hd hd' hd2
                go_wp2_with fail
                go_loopw [14, 15, 17] (fun u v z W => ∃ x y t : Nat, u = .int .i64 x ∧ v = .int .i64 y ∧ z = .int .i64 t ∧ t ≤ 3 ∧ x ≠ y ∧ x < S.n ∧ y < S.n ∧ Pair a b x y ∧ ∃ L S', LawAt w W p L S' ∧ Calm S' (Pair a b) ∧ S'.n = S.n ∧ Stage S' x y t) (fun _ _ z _ => 3 - (intOf z).toNat)
                case atStart => exact ⟨a, b, 0, rfl, rfl, rfl, by omega, hab2.out, hxa, hya, .inl ⟨rfl, rfl⟩, L6, S4, l6, hcalm.out, hn4.out, trivial⟩
                case round =>
                  clear l6 hcalm hn4 wf S4 L4 L5 L6
                  obtain ⟨x1, y1, t, rfl, rfl, rfl, ht, hxy, hx1, hy1, hpair, L4, S4, l4, hc4, hn4, hst⟩ := hrel
                  have hx6 : x1 ≤ 1000 := by omega
                  have hy6 : y1 ≤ 1000 := by omega
                  by_cases ht3 : t < 3
                  · have ps := Lib.hid (hc4.pass (a := x1) (b := y1) (by omega) (by omega) hxy hpair)
                    have nx := Lib.hid (hst.next hc4 (by omega) (by omega) hxy hpair ht).1
                    have c1 := send_at l4 hc4.wf ps.out.len x1 y1 hx6 hy6 ps.out.code
                    replace hn4 := Lib.hid hn4
                    replace hxy := Lib.hid hxy
                    replace hpair := Lib.hid hpair
                    clear hst hc4
                    ((first | go_at_call 15 | (go_wp2_with fail; go_at_call 15)); refine (c1).mono ?_; rintro _ w5 ⟨rfl, L5, l5, t5⟩)
                    have c2 := deliver_at l5 ps.out.wf1 x1 y1 false false hx6 hy6 ps.out.ok
                    rw [ps.out.eq] at c2
                    clear c1 t5
                    ((first | go_at_call 17 | (go_wp2_with fail; go_at_call 17)); refine (c2).mono ?_; rintro _ w6 ⟨rfl, L6, l6, t6⟩)
                    go_wp2_with fail
                    exact ⟨⟨y1, x1, t + 1, rfl, rfl, by go_num, by omega, fun e => hxy.out e.symm, hy1, hx1, hpair.out.symm.imp (fun h => ⟨h.2, h.1⟩) (fun h => ⟨h.2, h.1⟩), L6, _, l6, ps.out.calm, by rw [ps.out.n]; exact hn4.out, by have := nx.out; rw [show min 3 (t + 1) = t + 1 from by omega] at this; exact this⟩, by simp [intOf]; omega⟩
                  · have e : t = 3 := by omega
                    subst e
                    have hlen := hst.lengths hc4.wf (by omega) (by omega)
                    have elx : S4.hasL x1 = S4.texts x1 := by unfold NetS.hasL; rw [if_pos (by omega)]
                    have ely : S4.hasL y1 = S4.texts y1 := by unfold NetS.hasL; rw [if_pos (by omega)]
                    have c1 := lacks_contract l4.net hc4.wf x1 y1 hx6 hy6
                    rw [hst.2.2.1] at c1
                    have g4 := hc4.good
                    have wf := hc4.wf
                    have elx := Lib.hid elx
                    have ely := Lib.hid ely
                    replace hlen := Lib.hid hlen
                    replace hst := Lib.hid hst
                    replace hc4 := Lib.hid hc4
                    replace hxy := Lib.hid hxy
                    replace hpair := Lib.hid hpair
                    ((first | go_at_call 24 | (go_wp2_with fail; go_at_call 24)); refine (c1).mono ?_; rintro _ w5 ⟨v5, rfl, r5, x5, f5⟩)
                    have c2 := lacks_contract (l4.net.ext x5) wf y1 x1 hy6 hx6
                    rw [hst.out.2.2.2] at c2
                    clear c1
                    ((first | go_at_call 24 | (go_wp2_with (first | (change wpList _ _ _ (Oper.mk _ (Op.call (Call.mk (Callee.builtin Builtin.len) _ _)) _ _ _ _ :: _) _ _; refine BigFrame.wpList_want rfl (fun K hK => ?_); refine op_len_row (n := 0) rfl rfl Try.underlying39 r5 (by omega) rfl ?_; refine hK _ _ ?_; clear hK K)); go_at_call 24)); refine (c2).mono ?_; rintro _ w6 ⟨v6, rfl, r6, x6, f6⟩)
                    have x56 := x5.then_ext x6
                    have c3 := has_contract (l4.net.ext x56) x1 (fun j hj => wf.textsLen hj) hx6
                    rw [elx.out] at c3
                    clear c2
                    ((first | go_at_call 22 | (go_wp2_with (first | (change wpList _ _ _ (Oper.mk _ (Op.call (Call.mk (Callee.builtin Builtin.len) _ _)) _ _ _ _ :: _) _ _; refine BigFrame.wpList_want rfl (fun K hK => ?_); refine op_len_row (n := 0) rfl rfl Try.underlying39 r6 (by omega) rfl ?_; refine hK _ _ ?_; clear hK K)); go_at_call 22)); refine (c3).mono ?_; rintro _ w7 ⟨v7, rfl, r7, x7, f7⟩)
                    have x57 := x56.then_ext x7
                    have c4 := has_contract (l4.net.ext x57) y1 (fun j hj => wf.textsLen hj) hy6
                    rw [ely.out] at c4
                    clear c3
                    have lx := Lib.hid (show ((S4.texts x1).map Value.string).length = (S4.texts x1).length * 1 from by simp)
                    have ly := Lib.hid (show ((S4.texts y1).map Value.string).length = (S4.texts x1).length * 1 from by rw [hlen.out]; simp)
                    have hsame : (((S4.texts x1).length : Int) != ((S4.texts x1).length : Int)) = false := by simp
                    ((first | go_at_call 22 | (go_wp2_with (first | (change wpList _ _ _ (Oper.mk _ (Op.call (Call.mk (Callee.builtin Builtin.len) _ _)) _ _ _ _ :: _) _ _; refine BigFrame.wpList_want rfl (fun K hK => ?_); refine op_len_row rfl rfl Try.underlying39 r7 (by omega) lx.out ?_; refine hK _ _ ?_; clear hK K)); go_at_call 22)); refine (c4).mono ?_; rintro _ w8 ⟨v8, rfl, r8, x8, f8⟩)
                    have x58 := x57.then_ext x8
                    have l8 := l4.then x58
                    have cv := views_contract l8.net g4
                    rw [hn4] at cv
                    clear c4 f5 f6 f7 f8 x5 x6 x7 x8 x56 x57 x58
                    ((first | go_at_call 30 | (go_wp2_with (first | (change wpList _ _ _ (Oper.mk _ (Op.call (Call.mk (Callee.builtin Builtin.len) _ _)) _ _ _ _ :: _) _ _; refine BigFrame.wpList_want rfl (fun K hK => ?_); refine op_len_row rfl rfl Try.underlying39 r8 (by omega) ly.out ?_; refine hK _ _ ?_; clear hK K)); go_at_call 30)); refine (cv).mono ?_; rintro _ w9 ⟨v9, rfl, r9, x9, f9⟩)
                    have l9 := l8.then x9
                    have k9 := (Held.new l8.net r9 f9)
                    have hV := Lib.hid g4.viewsLen
                    clear cv f9 r9 r8 r7 r6 r5 l8 l4 elx ely lx ly hsame hlen x9
                    go_wp2_with fail
                    go_loopw [14, 15, 19] (fun u v z W => ∃ x y t : Nat, u = .int .i64 x ∧ v = .int .i64 y ∧ z = .int .i64 t ∧ t ≤ 2 ∧ x ≠ y ∧ x < S.n ∧ y < S.n ∧ Pair a b x y ∧ ∃ L S', LawAt w W p L S' ∧ Calm S' (Pair a b) ∧ S'.n = S.n ∧ Stage S' x y 3 ∧ S'.views = S4.views ∧ Held W L 9 1 v9 (S4.views.map .string)) (fun _ _ z _ => 2 - (intOf z).toNat)
                    case atStart => exact ⟨x1, y1, 0, rfl, rfl, rfl, by omega, hxy.out, hx1, hy1, hpair.out, L4, S4, l9, hc4.out, hn4, hst.out, rfl, k9⟩
                    case round =>
                      clear l9 k9 hc4 hn4 hst hpair hxy hx6 hy6 hx1 hy1 wf g4
                      generalize S4.views = V at hrel hV
                      obtain ⟨x2, y2, t, rfl, rfl, rfl, ht, hxy, hx1, hy1, hpair, L4, S4, l4, hc4, hn4, hst, hvw, k4⟩ := hrel
                      have hx6 : x2 ≤ 1000 := by omega
                      have hy6 : y2 ≤ 1000 := by omega
                      replace hvw := Lib.hid hvw
                      by_cases ht2 : t < 2
                      · have ps := Lib.hid (hc4.pass (a := x2) (b := y2) (by omega) (by omega) hxy hpair)
                        have nx := Lib.hid (hst.next hc4 (by omega) (by omega) hxy hpair (by omega))
                        have c1 := send_at l4 hc4.wf ps.out.len x2 y2 hx6 hy6 ps.out.code
                        replace hn4 := Lib.hid hn4
                        replace hxy := Lib.hid hxy
                        replace hpair := Lib.hid hpair
                        clear hst hc4
                        ((first | go_at_call 15 | (go_wp2_with fail; go_at_call 15)); refine (c1).mono ?_; rintro _ w5 ⟨rfl, L5, l5, t5⟩)
                        have k5 := k4.step t5
                        have c2 := deliver_at l5 ps.out.wf1 x2 y2 false false hx6 hy6 ps.out.ok
                        rw [ps.out.eq] at c2
                        clear c1 t5
                        ((first | go_at_call 17 | (go_wp2_with fail; go_at_call 17)); refine (c2).mono ?_; rintro _ w6 ⟨rfl, L6, l6, t6⟩)
                        have k6 := k5.step t6
                        go_wp2_with fail
                        exact ⟨⟨y2, x2, t + 1, rfl, rfl, by go_num, by omega, fun e => hxy.out e.symm, hy1, hx1, hpair.out.symm.imp (fun h => ⟨h.2, h.1⟩) (fun h => ⟨h.2, h.1⟩), L6, _, l6, ps.out.calm, by rw [ps.out.n]; exact hn4.out, nx.out.1, (nx.out.2 trivial).trans hvw.out, k6⟩, by simp [intOf]; omega⟩
                      · have cv := views_contract l4.net hc4.good
                        rw [hn4, hvw.out] at cv
                        clear hst hc4
                        ((first | go_at_call 30 | (go_wp2_with fail; go_at_call 30)); refine (cv).mono ?_; rintro _ w5 ⟨v5, rfl, r5, x5, f5⟩)
                        ((first | go_at_call 21 | (go_wp2_with fail; go_at_call 21)); refine (same_same (k4.ext x5).row r5 hV.out).mono ?_; rintro _ w6 ⟨rfl, x6⟩)
                        go_wp2_with fail
                        go_ret
                        exact ⟨rfl, (l4.ext.then_ext x5).then_ext x6⟩
end Go.Proofs.Ytcipfpebjeakfaa
