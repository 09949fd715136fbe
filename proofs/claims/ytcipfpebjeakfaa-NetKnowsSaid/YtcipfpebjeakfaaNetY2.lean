/-
  The walk of NetKnows.
-/
import Derived.Test.YtcipfpebjeakfaaNetY
namespace Go.Proofs.Ytcipfpebjeakfaa
open Go Go.RowKit Go.WideMaps

section
variable {P : Program} {ops : Array Oper} {Q : Exit → Act → World → Prop} {t : RT} {S : List (Nat × Value)} {a : Act} {w : World}
/-- A read that is passed over: the walk writes the frame out. -/
theorem cw_skipR {i d : Nat} {o : Oper} (ho' : nth ops.toList i = some o) (hd : o.dst = some d) (hg : Region.wanted o (yielded ops a.tmps) = false)
    (h : ∀ K : Act → World → Prop, (∀ a' : Act, cwT P ops (Strict Q) t ((i, undef) :: S) a' w → K a' w) → (Oper.mk (some d) (.assign (.const undef)) 0 "" #[] none).wp P a w K (Strict Q)) : cwT P ops (Strict Q) (.rd i t) S a w := by
  have h1 := h (fun a' w' => w' = w ∧ cwT P ops (Strict Q) t ((i, undef) :: S) a' w) (fun a' hc => ⟨rfl, hc⟩)
  refine cw_skip ho' hg ?_
  rw [hd]
  exact h1.2
end

attribute [local irreducible] World.cell? World.frozen? isAggB _root_.Go.Program.underlying

set_option maxRecDepth 100000 in
set_option maxHeartbeats 4000000 in
theorem knows_walk {w : World} {v : Value} {l : List OpV} (hl : ROps w v l) (hok : ∀ o ∈ l, o.ok) (raw : Nat) (hraw : raw < 256) :
    Calls Try.prog 5 #[.int .u8 raw, v] w fun e w' => e = .returned (.bool true) ∧ Ext w w' := by
  have hlen6 : (l.length : Int) ≤ 9223372036854775807 := by obtain ⟨ad, c, _, h1, h2, _⟩ := hl; unfold maxLen at h2; omega
  go_enter Try.func5, Try.ntmps5
  ((first | go_at_call 9 | (go_wp2_with fail; go_at_call 9)); refine (head_contract w).mono ?_; rintro _ w1 ⟨rfl, x1⟩)
  have hl1 := hl.keep x1 (fun _ _ h => h)
  cases hsh : shortB l 80 with
  | false =>
    have hs := short_contract 80 hl1 (by omega)
    rw [hsh] at hs
    ((first | go_at_call 10 | (go_wp2_with fail; go_at_call 10)); refine (hs).mono ?_; rintro _ _ ⟨rfl, rfl⟩)
    go_wp2_with fail
    go_ret
    exact ⟨rfl, x1⟩
  | true =>
    have hs := short_contract 80 hl1 (by omega)
    rw [hsh] at hs
    obtain ⟨h80, h100⟩ := shortB_out hsh
    have h100' := Lib.hid h100
    have hok' := Lib.hid hok
    clear hsh h100 hok
    ((first | go_at_call 10 | (go_wp2_with fail; go_at_call 10)); refine (hs).mono ?_; rintro _ _ ⟨rfl, rfl⟩)
    ((first | go_at_call 26 | (go_wp2_with fail; go_at_call 26)); refine (size_contract w1 raw hraw).mono ?_; rintro _ _ ⟨rfl, rfl⟩)
    have hn8 : 1 + raw % 8 ≤ 8 := by omega
    have hn1 : 1 ≤ 1 + raw % 8 := by omega
    generalize hnd : 1 + raw % 8 = nodes at hn8 hn1
    clear hnd
    ((first | go_at_call 11 | (go_wp2_with fail; go_at_call 11)); refine (new_good (w := w1) nodes hn1 hn8).mono ?_; rintro _ w2 ⟨p, L2, rfl, h2, x2, o2⟩)
    have l2 : LawAt w w2 p L2 (NetS.fresh nodes) := ⟨h2, x1.then_ext x2, fun b hb => o2 b (by have := x1.size; omega)⟩
    have g0 : Good (NetS.fresh nodes) 0 := ⟨Wf.fresh hn1 hn8, Cap.fresh nodes⟩
    clear h2 x1 x2 o2 hl1
    go_wp2_with fail
    go_loopw [9] (fun u W => ∃ k : Nat, u = .int .i64 k ∧ k ≤ l.length ∧ ∃ L, LawAt w W p L ((NetS.fresh nodes).run (l.take k))) (fun u _ => l.length - (intOf u).toNat)
    case atStart => exact ⟨0, rfl, Nat.zero_le _, L2, by simpa [NetS.run] using l2⟩
    case round =>
      obtain ⟨k, rfl, hk, L, hL⟩ := hrel
      have g := g0.run h100'.out k hk (by omega)
      have hn : ((NetS.fresh nodes).run (l.take k)).n = nodes := by rw [NetS.run_n]; rfl
      have hlW := hl.keep hL.ext (fun _ _ h => h)
      by_cases hlt : k < l.length
      · have iv : Told ((NetS.fresh nodes).run (l.take (k + 1))) := (Told.fresh nodes).run g0 h100'.out (k + 1) hlt (by omega)
        have hstep := NetS.run_take (NetS.fresh nodes) hlt
        rw [hstep] at iv
        replace hstep := Lib.hid hstep
        clear l2 g0
        generalize hS : (NetS.fresh nodes).run (l.take k) = S at hL g hn hstep iv
        clear hS
        go_wp2_with (first
          | (change wpList _ _ _ (Oper.mk _ (Op.call (Call.mk (Callee.builtin Builtin.len) _ _)) _ _ _ _ :: _) _ _; refine BigFrame.wpList_want rfl (fun K hK => ?_); refine op_len_ops rfl rfl Try.underlying22 hlW ?_; refine hK _ _ ?_; clear hK K)
          | (change wpList _ _ _ (Oper.mk _ (Op.indexAddr _ _ _) _ _ _ _ :: _) _ _; refine BigFrame.wpList_want rfl (fun K hK => ?_); refine op_index_ops (i := k) rfl rfl rfl Try.underlying22 Try.szE33 hlW hlt ?_; intro pp hpp hbb; refine hK _ _ ?_; clear hK K)
          | (change wpList _ _ _ (Oper.mk _ (Op.load _ _) _ _ _ _ :: _) _ _; refine BigFrame.wpList_want rfl (fun K hK => ?_); refine op_loadN (p := pp) (vs := l[k].cells) rfl rfl Try.ag33 Try.sz33 hpp ?_; refine hK _ _ ?_; clear hK K))
        ((first | go_at_call 27 | (go_wp2_with fail; go_at_call 27)); refine (do_is hL g (by omega) hn (hok'.out _ (List.getElem_mem hlt)) (h100'.out _ (List.getElem_mem hlt))).mono ?_; rintro _ w9 ⟨rfl, L9, l9, t9⟩)
        have g9 : Good (S.step l[k]) (k + 1) := g.step (by omega) _ (h100'.out _ (List.getElem_mem hlt))
        have hn9 : (S.step l[k]).n = nodes := by rw [NetS.step_n]; exact hn
        generalize S.step l[k] = S9 at hstep l9 g9 hn9 iv
        clear hL g hn t9 hlW S
        subst hn9
        have iv' := Lib.hid iv
        have htl9 := Lib.hid (fun i => g9.wf.textsLen (i := i))
        have htn9 := Lib.hid g9.wf.textsN
        clear iv
        have hl9 := hl.keep l9.ext.drew (fun _ _ h => h)
        have hz : ¬ ((S9.n : Int) = 0) := by omega
        have hxa := Nat.mod_lt l[k].a (show S9.n > 0 by omega)
        have hya := Nat.mod_lt l[k].b (show S9.n > 0 by omega)
        have ex : ((l[k].a % S9.n : Nat) : Int) = (l[k].a : Int) % (S9.n : Int) := Int.natCast_emod _ _
        have ey : ((l[k].b % S9.n : Nat) : Int) = (l[k].b : Int) % (S9.n : Int) := Int.natCast_emod _ _
        generalize hxx : l[k].a % S9.n = a0 at hxa ex
        generalize hyy : l[k].b % S9.n = b0 at hya ey
        have hoka := (hok'.out _ (List.getElem_mem hlt)).2.1
        have hokb := (hok'.out _ (List.getElem_mem hlt)).2.2
        replace ex := Lib.hid ex
        replace ey := Lib.hid ey
        clear hxx hyy
        go_wp2_with fail
        refine wp_region_rt (by kernel_rfl) [0, 0, 3, 7, 15, 31, 0, 127, 0, 0, 768, 1792, 3840, 7936, 0, 32512, 255, 131071] (.rd 0 (.rd 1 (.rd 2 (.rd 3 (.rd 4 (.rd 5 (.rd 6 (.rd 7 (.rd 8 (.rd 9 (.rd 10 (.rd 11 (.rd 12 (.rd 13 (.rd 14 (.rd 15 (.rd 16 (.rd 17 (.nil))))))))))))))))))) (by kernel_rfl) ?_
        iterate 2 (refine cw_rd rfl rfl rfl rfl rfl (fun K hK => ?_); go_wp2_with fail)
        (refine cw_rd rfl rfl rfl rfl rfl (fun K hK => ?_); refine op_index_ops (i := k) rfl rfl rfl Try.underlying22 Try.szE33 hl9 hlt ?_; intro pp hpp hpb; refine hK _ ?_; clear hK K)
        iterate 1 (refine cw_rd rfl rfl rfl rfl rfl (fun K hK => ?_); go_wp2_with fail)
        (refine cw_rd rfl rfl rfl rfl rfl (fun K hK => ?_); refine op_load1 rfl rfl Try.ag5 (hpp 1 _ rfl) ?_; refine hK _ ?_; clear hK K)
        iterate 5 (refine cw_rd rfl rfl rfl rfl rfl (fun K hK => ?_); go_wp2_with fail)
        (refine cw_rd rfl rfl rfl rfl rfl (fun K hK => ?_); refine op_index_ops (i := k) rfl rfl rfl Try.underlying22 Try.szE33 hl9 hlt ?_; intro qq hqq hqb; refine hK _ ?_; clear hK K)
        iterate 1 (refine cw_rd rfl rfl rfl rfl rfl (fun K hK => ?_); go_wp2_with fail)
        (refine cw_rd rfl rfl rfl rfl rfl (fun K hK => ?_); refine op_load1 rfl rfl Try.ag5 (hqq 2 _ rfl) ?_; refine hK _ ?_; clear hK K)
        iterate 5 (refine cw_rd rfl rfl rfl rfl rfl (fun K hK => ?_); go_wp2_with fail)
        refine cw_nil ?_
        rw [← ex.out, ← ey.out]
        clear ex ey hoka hokb hl9
        go_wp2_with fail
        go_loopw [10, 11, 12] (fun u v t W => ∃ a b c : Nat, u = .int .i64 a ∧ v = .int .i64 b ∧ t = .int .i64 c ∧ c ≤ 2 ∧ a < S9.n ∧ b < S9.n ∧ Ext w9 W) (fun _ _ t _ => 2 - (intOf t).toNat)
        case atStart => exact ⟨a0, b0, 0, rfl, rfl, rfl, by omega, hxa, hya, (Touch.refl _ w9).drew⟩
        case round =>
          clear hxa hya
          obtain ⟨a, b, c, rfl, rfl, rfl, hc, ha, hb, hE⟩ := hrel
          by_cases hc2 : c < 2
          · by_cases hab : a = b
            · have hab' : ((a : Int) != (b : Int)) = false := by simp [hab]
              have hab2 := Lib.hid hab
              clear hab
              go_wp2_with fail
              exact ⟨⟨k + 1, by go_num, hlt, L9, by rw [hstep.out]; exact l9.then hE⟩, by simp [intOf]; omega⟩
            · have hab' : ((a : Int) != (b : Int)) = true := by simp; omega
              have hab2 := Lib.hid hab
              clear hab
              have hela := Lib.hid (show S9.hasL a = S9.texts a from by unfold NetS.hasL; rw [if_pos ha])
              have helb := Lib.hid (show S9.hasL b = S9.texts b from by unfold NetS.hasL; rw [if_pos hb])
              ((first | go_at_call 22 | (go_wp2_with fail; go_at_call 22)); refine (has_is (l9.net.ext hE) g9 a (by omega) hela.out).mono ?_; rintro _ w10 ⟨v10, rfl, r10, x10, f10⟩)
              ((first | go_at_call 22 | (go_wp2_with fail; go_at_call 22)); refine (has_is ((l9.net.ext hE).ext x10) g9 b (by omega) helb.out).mono ?_; rintro _ w11 ⟨v11, rfl, r11, x11, f11⟩)
              ((first | go_at_call 24 | (go_wp2_with fail; go_at_call 24)); refine (lacks_is (((l9.net.ext hE).ext x10).ext x11) g9 a b (by omega) (by omega) rfl).mono ?_; rintro _ w12 ⟨v12, rfl, r12, x12, f12⟩)
              have hE12 := ((hE.then_ext x10).then_ext x11).then_ext x12
              have rA := r10.keep (x11.then_ext x12) (fun _ _ h => h)
              have rB := r11.keep x12 (fun _ _ h => h)
              have hcase := Lib.hid (fun s hs => iv'.out.lacks ha hb hab2.out (s := s) hs)
              have hsub := Lib.hid (g9.wf.lacksSub a b)
              have hnA := Lib.hid (htn9.out a ha)
              have hlA : (S9.texts a).length ≤ 1000 := htl9.out a ha
              have hlB : (S9.texts b).length ≤ 1000 := htl9.out b hb
              have hlC : (S9.lacks a b).length ≤ 1000 := g9.wf.lacksLen a b
              clear f10 f11 f12 x10 x11 x12 r10 r11 hela helb
              generalize S9.texts a = xs at rA hcase hsub hnA hlA
              generalize S9.texts b = zs at rB hcase hlB
              generalize S9.lacks a b = ys at r12 hcase hsub hlC
              have lenA := Lib.hid (show (xs.map Value.string).length = xs.length * 1 from by simp)
              have lenC := Lib.hid (show (ys.map Value.string).length = ys.length * 1 from by simp)
              have hfull := Lib.hid (namedTo_all hnA.out hsub.out)
              go_wp2_with fail
              go_loopw [16, 17] (fun u v W => ∃ m : Nat, v = .int .i64 m ∧ u = .int .i64 (namedTo xs ys m : Nat) ∧ m ≤ xs.length ∧ Ext w12 W) (fun _ v _ => xs.length - (intOf v).toNat)
              case atStart => exact ⟨0, rfl, by rw [namedTo_zero]; rfl, Nat.zero_le _, Touch.refl _ w12⟩
              case round =>
                obtain ⟨m, rfl, rfl, hm, hEr⟩ := hrel
                have rAW := rA.keep hEr (fun _ _ h => h)
                have rBW := rB.keep hEr (fun _ _ h => h)
                have rCW := r12.keep hEr (fun _ _ h => h)
                have rAD := rAW.drew
                have rBD := rBW.drew
                have rCD := rCW.drew
                by_cases hml : m < xs.length
                · have hsucc := Lib.hid (namedTo_succ xs ys hml)
                  have hin' := Lib.hid (@namedTo_in xs ys hnA.out hsub.out m hml)
                  have hxb := Lib.hid (show (m + 1) * 1 ≤ (xs.map Value.string).length from by rw [lenA.out]; omega)
                  have hx := Lib.hid (show (xs.map Value.string)[m * 1 + 0]? = some (.string xs[m]) from by simp [hml])
                  by_cases hmem : xs[m] ∈ ys
                  · have hget := hin'.out hmem
                    have hsu := hsucc.out
                    rw [if_pos hmem] at hsu
                    have hklt : namedTo xs ys m < ys.length := (List.getElem?_eq_some_iff.1 hget).1
                    have hsu' := Lib.hid hsu
                    have hyb := Lib.hid (show (namedTo xs ys m + 1) * 1 ≤ (ys.map Value.string).length from by rw [lenC.out]; omega)
                    have hy := Lib.hid (show (ys.map Value.string)[namedTo xs ys m * 1 + 0]? = some (.string xs[m]) from by simp [hget])
                    have hrefl : (xs[m].toList == xs[m].toList) = true := by simp
                    clear hmem hget hsu hsucc hin'
                    generalize namedTo xs ys m = q at hklt hsu' hyb hy ⊢
                    go_wp2_with (first
                      | (change wpList _ _ _ (Oper.mk _ (Op.call (Call.mk (Callee.builtin Builtin.len) _ _)) _ _ _ _ :: _) _ _; refine BigFrame.wpList_want rfl (fun K hK => ?_); refine op_len_row rfl rfl Try.underlying39 rAW (by omega) lenA.out ?_; refine hK _ _ ?_; clear hK K))
                    refine wp_region_rt (by kernel_rfl) [0, 0, 2, 7, 15, 31, 31, 127, 255, 31, 31, 1567, 3615, 8191, 16383, 32767] (.rd 0 (.rd 1 (.rd 2 (.rd 3 (.rd 4 (.rd 5 (.rd 6 (.rd 7 (.rd 8 (.rd 9 (.rd 10 (.rd 11 (.rd 12 (.rd 13 (.rd 14 (.rd 15 (.nil))))))))))))))))) (by kernel_rfl) ?_
                    iterate 2 (refine cw_rd rfl rfl rfl rfl rfl (fun K hK => ?_); go_wp2_with fail)
                    (refine cw_rd rfl rfl rfl rfl rfl (fun K hK => ?_); refine op_len_row rfl rfl Try.underlying39 rCD (by omega) lenC.out ?_; refine hK _ ?_; clear hK K)
                    iterate 4 (refine cw_rd rfl rfl rfl rfl rfl (fun K hK => ?_); go_wp2_with fail)
                    (refine cw_rd rfl rfl rfl rfl rfl (fun K hK => ?_); refine op_index_row (i := q) rfl rfl rfl Try.underlying39 Try.szE9 rCD hyb.out (by omega) ?_; intro g2 k2 cs2 hel2; refine hK _ ?_; clear hK K)
                    (refine cw_rd rfl rfl rfl rfl rfl (fun K hK => ?_); refine op_load1 rfl rfl Try.ag9 (hel2.cell (j := 0) (by omega) hy.out) ?_; refine hK _ ?_; clear hK K)
                    iterate 2 (refine cw_rd rfl rfl rfl rfl rfl (fun K hK => ?_); go_wp2_with fail)
                    (refine cw_rd rfl rfl rfl rfl rfl (fun K hK => ?_); refine op_index_row (i := m) rfl rfl rfl Try.underlying39 Try.szE9 rAD hxb.out (by omega) ?_; intro g3 k3 cs3 hel3; refine hK _ ?_; clear hK K)
                    (refine cw_rd rfl rfl rfl rfl rfl (fun K hK => ?_); refine op_load1 rfl rfl Try.ag9 (hel3.cell (j := 0) (by omega) hx.out) ?_; refine hK _ ?_; clear hK K)
                    iterate 3 (refine cw_rd rfl rfl rfl rfl rfl (fun K hK => ?_); go_wp2_with fail)
                    refine cw_nil ?_
                    go_wp2_with fail
                    exact ⟨⟨m + 1, by go_num, by rw [hsu'.out]; go_num, hml, hEr.drew⟩, by simp [intOf]; omega⟩
                  · have hsu := hsucc.out
                    rw [if_neg hmem] at hsu
                    have hsu' := Lib.hid hsu
                    have hz := (hcase.out _ (List.getElem_mem hml)).resolve_left hmem
                    have hot := in_contract (w := wr.drew) xs[m] rBD (by omega)
                    rw [inB_true hz] at hot
                    by_cases hklt : namedTo xs ys m < ys.length
                    · have hne : (ys[namedTo xs ys m].toList == xs[m].toList) = false := str_ne fun e => hmem (by rw [← e]; exact List.getElem_mem hklt)
                      have hyb := Lib.hid (show (namedTo xs ys m + 1) * 1 ≤ (ys.map Value.string).length from by rw [lenC.out]; omega)
                      have hy := Lib.hid (show (ys.map Value.string)[namedTo xs ys m * 1 + 0]? = some (.string ys[namedTo xs ys m]) from by simp [hklt])
                      clear hmem hsu hsucc hin' hz
                      generalize hyy : ys[namedTo xs ys m] = yy at hy hne
                      clear hyy
                      generalize namedTo xs ys m = q at hklt hsu' hyb hy ⊢
                      go_wp2_with (first
                        | (change wpList _ _ _ (Oper.mk _ (Op.call (Call.mk (Callee.builtin Builtin.len) _ _)) _ _ _ _ :: _) _ _; refine BigFrame.wpList_want rfl (fun K hK => ?_); refine op_len_row rfl rfl Try.underlying39 rAW (by omega) lenA.out ?_; refine hK _ _ ?_; clear hK K))
                      refine wp_region_rt (by kernel_rfl) [0, 0, 2, 7, 15, 31, 31, 127, 255, 31, 31, 1567, 3615, 8191, 16383, 32767] (.rd 0 (.rd 1 (.rd 2 (.rd 3 (.rd 4 (.rd 5 (.rd 6 (.rd 7 (.rd 8 (.rd 9 (.rd 10 (.rd 11 (.rd 12 (.rd 13 (.rd 14 (.rd 15 (.nil))))))))))))))))) (by kernel_rfl) ?_
                      iterate 2 (refine cw_rd rfl rfl rfl rfl rfl (fun K hK => ?_); go_wp2_with fail)
                      (refine cw_rd rfl rfl rfl rfl rfl (fun K hK => ?_); refine op_len_row rfl rfl Try.underlying39 rCD (by omega) lenC.out ?_; refine hK _ ?_; clear hK K)
                      iterate 4 (refine cw_rd rfl rfl rfl rfl rfl (fun K hK => ?_); go_wp2_with fail)
                      (refine cw_rd rfl rfl rfl rfl rfl (fun K hK => ?_); refine op_index_row (i := q) rfl rfl rfl Try.underlying39 Try.szE9 rCD hyb.out (by omega) ?_; intro g2 k2 cs2 hel2; refine hK _ ?_; clear hK K)
                      (refine cw_rd rfl rfl rfl rfl rfl (fun K hK => ?_); refine op_load1 rfl rfl Try.ag9 (hel2.cell (j := 0) (by omega) hy.out) ?_; refine hK _ ?_; clear hK K)
                      iterate 2 (refine cw_rd rfl rfl rfl rfl rfl (fun K hK => ?_); go_wp2_with fail)
                      (refine cw_rd rfl rfl rfl rfl rfl (fun K hK => ?_); refine op_index_row (i := m) rfl rfl rfl Try.underlying39 Try.szE9 rAD hxb.out (by omega) ?_; intro g3 k3 cs3 hel3; refine hK _ ?_; clear hK K)
                      (refine cw_rd rfl rfl rfl rfl rfl (fun K hK => ?_); refine op_load1 rfl rfl Try.ag9 (hel3.cell (j := 0) (by omega) hx.out) ?_; refine hK _ ?_; clear hK K)
                      iterate 3 (refine cw_rd rfl rfl rfl rfl rfl (fun K hK => ?_); go_wp2_with fail)
                      refine cw_nil ?_
                      go_wp2_with (first
                        | (change wpList _ _ _ (Oper.mk _ (Op.indexAddr _ _ _) _ _ _ _ :: _) _ _; refine BigFrame.wpList_want rfl (fun K hK => ?_); refine op_index_row (i := m) rfl rfl rfl Try.underlying39 Try.szE9 rAD hxb.out (by omega) ?_; intro g5 k5 cs5 hel5; refine hK _ _ ?_; clear hK K)
                        | (change wpList _ _ _ (Oper.mk _ (Op.load _ _) _ _ _ _ :: _) _ _; refine BigFrame.wpList_want rfl (fun K hK => ?_); refine op_load1 rfl rfl Try.ag9 (hel5.cell (j := 0) (by omega) hx.out) ?_; refine hK _ _ ?_; clear hK K))
                      ((first | go_at_call 29 | (go_wp2_with fail; go_at_call 29)); refine (hot).mono ?_; rintro _ _ ⟨rfl, rfl⟩)
                      go_wp2_with fail
                      exact ⟨⟨m + 1, by go_num, by rw [hsu'.out], hml, hEr.drew⟩, by simp [intOf]; omega⟩
                    · clear hmem hsu hsucc hin' hz
                      generalize namedTo xs ys m = q at hklt hsu' ⊢
                      go_wp2_with (first
                        | (change wpList _ _ _ (Oper.mk _ (Op.call (Call.mk (Callee.builtin Builtin.len) _ _)) _ _ _ _ :: _) _ _; refine BigFrame.wpList_want rfl (fun K hK => ?_); refine op_len_row rfl rfl Try.underlying39 rAW (by omega) lenA.out ?_; refine hK _ _ ?_; clear hK K))
                      refine wp_region_rt (by kernel_rfl) [0, 0, 2, 7, 15, 31, 31, 127, 255, 31, 31, 1567, 3615, 8191, 16383, 32767] (.rd 0 (.rd 1 (.rd 2 (.rd 3 (.rd 4 (.rd 5 (.rd 6 (.rd 7 (.rd 8 (.rd 9 (.rd 10 (.rd 11 (.rd 12 (.rd 13 (.rd 14 (.rd 15 (.nil))))))))))))))))) (by kernel_rfl) ?_
                      iterate 2 (refine cw_rd rfl rfl rfl rfl rfl (fun K hK => ?_); go_wp2_with fail)
                      (refine cw_rd rfl rfl rfl rfl rfl (fun K hK => ?_); refine op_len_row rfl rfl Try.underlying39 rCD (by omega) lenC.out ?_; refine hK _ ?_; clear hK K)
                      iterate 2 (refine cw_rd rfl rfl rfl rfl rfl (fun K hK => ?_); go_wp2_with fail)
                      iterate 9 (refine cw_skipR rfl rfl rfl (fun K hK => ?_); go_wp2_with fail)
                      iterate 2 (refine cw_rd rfl rfl rfl rfl rfl (fun K hK => ?_); go_wp2_with fail)
                      refine cw_nil ?_
                      go_wp2_with (first
                        | (change wpList _ _ _ (Oper.mk _ (Op.indexAddr _ _ _) _ _ _ _ :: _) _ _; refine BigFrame.wpList_want rfl (fun K hK => ?_); refine op_index_row (i := m) rfl rfl rfl Try.underlying39 Try.szE9 rAD hxb.out (by omega) ?_; intro g5 k5 cs5 hel5; refine hK _ _ ?_; clear hK K)
                        | (change wpList _ _ _ (Oper.mk _ (Op.load _ _) _ _ _ _ :: _) _ _; refine BigFrame.wpList_want rfl (fun K hK => ?_); refine op_load1 rfl rfl Try.ag9 (hel5.cell (j := 0) (by omega) hx.out) ?_; refine hK _ _ ?_; clear hK K))
                      ((first | go_at_call 29 | (go_wp2_with fail; go_at_call 29)); refine (hot).mono ?_; rintro _ _ ⟨rfl, rfl⟩)
                      go_wp2_with fail
                      exact ⟨⟨m + 1, by go_num, by rw [hsu'.out], hml, hEr.drew⟩, by simp [intOf]; omega⟩
                · have e : m = xs.length := by omega
                  subst e
                  rw [hfull.out]
                  have hsame : ((ys.length : Int) != (ys.length : Int)) = false := by simp
                  go_wp2_with (first
                    | (change wpList _ _ _ (Oper.mk _ (Op.call (Call.mk (Callee.builtin Builtin.len) _ _)) _ _ _ _ :: _) _ _; refine BigFrame.wpList_want rfl (fun K hK => ?_); refine op_len_row rfl rfl Try.underlying39 rAW (by omega) lenA.out ?_; refine hK _ _ ?_; clear hK K)
                    | (change wpList _ _ _ (Oper.mk _ (Op.call (Call.mk (Callee.builtin Builtin.len) _ _)) _ _ _ _ :: _) _ _; refine BigFrame.wpList_want rfl (fun K hK => ?_); refine op_len_row rfl rfl Try.underlying39 rCW (by omega) lenC.out ?_; refine hK _ _ ?_; clear hK K))
                  exact ⟨⟨b, a, c + 1, rfl, rfl, by go_num, by omega, hb, ha, hE12.then_ext hEr⟩, by simp [intOf]; omega⟩
          · go_wp2_with fail
            exact ⟨⟨k + 1, by go_num, hlt, L9, by rw [hstep.out]; exact l9.then hE⟩, by simp [intOf]; omega⟩
      · go_wp2_with (first
          | (change wpList _ _ _ (Oper.mk _ (Op.call (Call.mk (Callee.builtin Builtin.len) _ _)) _ _ _ _ :: _) _ _; refine BigFrame.wpList_want rfl (fun K hK => ?_); refine op_len_ops rfl rfl Try.underlying22 hlW ?_; refine hK _ _ ?_; clear hK K))
        go_ret
        exact ⟨rfl, hL.ext⟩
end Go.Proofs.Ytcipfpebjeakfaa
