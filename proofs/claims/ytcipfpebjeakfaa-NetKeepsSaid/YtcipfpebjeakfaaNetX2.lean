/-
  The walk of NetKeeps.
-/
import Derived.Test.YtcipfpebjeakfaaNetX
import Derived.Deep.CutRange
namespace Go.Proofs.Ytcipfpebjeakfaa
open Go Go.RowKit Go.WideMaps

attribute [local irreducible] World.cell? World.frozen? isAggB _root_.Go.Program.underlying

set_option maxRecDepth 100000 in
set_option maxHeartbeats 4000000 in
theorem keeps_walk {w : World} {v : Value} {l : List OpV} (hl : ROps w v l) (hok : ∀ o ∈ l, o.ok) (raw : Nat) (hraw : raw < 256) :
    Calls Try.prog 4 #[.int .u8 raw, v] w fun e w' => e = .returned (.bool true) ∧ Ext w w' := by
  have hlen6 : (l.length : Int) ≤ 9223372036854775807 := by obtain ⟨ad, c, _, h1, h2, _⟩ := hl; unfold maxLen at h2; omega
  go_enter Try.func4, Try.ntmps4
  ((first | go_at_call 9 | (go_wp2_with fail; go_at_call 9)); refine (head_contract w).mono ?_; rintro _ w1 ⟨rfl, x1⟩)
  have hl1 := hl.keep x1 (fun _ _ h => h)
  cases hsh : shortB l 80 with
  | false =>
    have hs := short_contract 80 hl1 (by omega)
    rw [hsh] at hs
    ((first | go_at_call 10 | (go_wp2_with fail; go_at_call 10)); refine (hs).mono ?_; rintro _ _ ⟨rfl, rfl⟩)
    go_wp2_with fail
    go_ret
    exact ⟨rfl, x1⟩
  | true =>
    have hs := short_contract 80 hl1 (by omega)
    rw [hsh] at hs
    obtain ⟨h80, h100⟩ := shortB_out hsh
    have h100' := Lib.hid h100
    have hok' := Lib.hid hok
    clear hsh h100 hok
    ((first | go_at_call 10 | (go_wp2_with fail; go_at_call 10)); refine (hs).mono ?_; rintro _ _ ⟨rfl, rfl⟩)
    ((first | go_at_call 26 | (go_wp2_with fail; go_at_call 26)); refine (size_contract w1 raw hraw).mono ?_; rintro _ _ ⟨rfl, rfl⟩)
    have hn8 : 1 + raw % 8 ≤ 8 := by omega
    have hn1 : 1 ≤ 1 + raw % 8 := by omega
    generalize hnd : 1 + raw % 8 = nodes at hn8 hn1
    clear hnd
    ((first | go_at_call 11 | (go_wp2_with fail; go_at_call 11)); refine (new_good (w := w1) nodes hn1 hn8).mono ?_; rintro _ w2 ⟨p, L2, rfl, h2, x2, o2⟩)
    have l2 : LawAt w w2 p L2 (NetS.fresh nodes) := ⟨h2, x1.then_ext x2, fun b hb => o2 b (by have := x1.size; omega)⟩
    have g0 : Good (NetS.fresh nodes) 0 := ⟨Wf.fresh hn1 hn8, Cap.fresh nodes⟩
    clear h2 x1 x2 o2 hl1
    have m2 : PutAt w (w2.alloc (.map #[] 0)) L2 w2.heap.size [] := ⟨MapAt.new Try.prog 9 w2 0, l2.net.fresh _ (Nat.le_refl _), l2.ext.size⟩
    replace l2 := l2.then (Ext.alloc w2 (.map #[] 0))
    go_wp2_with (first | (change wpList _ _ _ (Oper.mk _ (Op.makeMap _ _) _ _ _ _ :: _) _ _; refine BigFrame.wpList_want rfl (fun K hK => ?_); refine op_makeMap rfl ?_; refine hK _ _ ?_; clear hK K))
    generalize w2.heap.size = m at m2 ⊢
    go_loopw [10] (fun u W => ∃ k : Nat, u = .int .i64 k ∧ k ≤ l.length ∧ ∃ L P, LawAt w W p L ((NetS.fresh nodes).run (l.take k)) ∧ PutAt w W L m P ∧ ∀ s ∈ ((NetS.fresh nodes).run (l.take k)).sets .all, s ∈ P) (fun u _ => l.length - (intOf u).toNat)
    case atStart => exact ⟨0, rfl, Nat.zero_le _, L2, [], by simpa [NetS.run] using l2, m2, by simp [NetS.run, NetS.fresh]⟩
    case round =>
      obtain ⟨k, rfl, hk, L, P, hL, hP, hsub⟩ := hrel
      have g := g0.run h100'.out k hk (by omega)
      have hn : ((NetS.fresh nodes).run (l.take k)).n = nodes := by rw [NetS.run_n]; rfl
      have hlW := hl.keep hL.ext (fun _ _ h => h)
      by_cases hlt : k < l.length
      · have hsub' := Lib.hid hsub
        have hstep := Lib.hid (NetS.run_take (NetS.fresh nodes) hlt)
        clear hsub l2 m2 g0
        generalize hS : (NetS.fresh nodes).run (l.take k) = S at hL g hn hsub' hstep
        clear hS
        go_wp2_with (first
          | (change wpList _ _ _ (Oper.mk _ (Op.call (Call.mk (Callee.builtin Builtin.len) _ _)) _ _ _ _ :: _) _ _; refine BigFrame.wpList_want rfl (fun K hK => ?_); refine op_len_ops rfl rfl Try.underlying22 hlW ?_; refine hK _ _ ?_; clear hK K))
        have htl := Lib.hid (fun i => g.wf.textsLen (i := i))
        have w0 := Was.nil wr S
        go_loopw [11, 12] (fun u c W => ∃ j : Nat, c = .int .i64 j ∧ j ≤ nodes ∧ Was wr W u S j) (fun _ c _ => nodes - (intOf c).toNat)
        case atStart => exact ⟨0, rfl, Nat.zero_le _, w0⟩
        case round =>
          clear w0
          obtain ⟨j, rfl, hj, hwas⟩ := hrel
          by_cases hjl : j < nodes
          · have hjS : j < S.n := by omega
            have hel := Lib.hid (show S.hasL j = S.texts j from by unfold NetS.hasL; rw [if_pos hjS])
            have hnet := (hL.net.ext hwas.1).ext (Ext.alloc wr (.cells #[] 9))
            ((first | go_at_call 22 | (go_wp2_with fail; go_at_call 22)); refine (has_is hnet g j (by omega) hel.out).mono ?_; rintro _ w5 ⟨v5, rfl, r5, x5, f5⟩)
            have x5' := (Ext.alloc wr (.cells #[] 9)).then_ext x5
            have hown : Own wr w5 (.slice (some ⟨wr.heap.size, 0, none⟩) 0 0) [] := ⟨⟨_, _, _, rfl, rfl, Nat.le_refl _, Nat.zero_le _, (fun h => by cases h), fun h => by omega⟩, (fun b hb => by simp [rowBlock] at hb), x5'⟩
            have hwas5 := hwas.ext x5'
            go_wp2_with (first
              | (change wpList _ _ _ (Oper.mk _ (Op.call (Call.mk (Callee.builtin Builtin.append) _ _)) _ _ _ _ :: _) _ _; refine BigFrame.wpList_want rfl (fun K hK => ?_); refine op_append_texts (ys := S.texts j) rfl rfl rfl hown r5 (by have := htl.out j hjS; simp; omega) ?_; intro v6 w6 o6 t6; refine hK _ _ ?_; clear hK K; have o6r := o6.row; obtain ⟨ad6, n6, c6, rfl, -⟩ := o6r; have e6 : Ext w5 w6 := t6.mono (fun b _ h => by cases (show none = some b from h)))
              | (change wpList _ _ _ (Oper.mk _ (Op.call (Call.mk (Callee.builtin Builtin.append) _ _)) _ _ _ _ :: _) _ _; refine BigFrame.wpList_want rfl (fun K hK => ?_); refine op_append_was (k := j) (S := S) (v := .slice ad6 n6 c6) rfl rfl rfl ((hwas5.ext e6).ext (Ext.alloc w6 (.cells #[.slice ad6 n6 c6] 39))) ((o6.since hwas.1).then (Ext.alloc w6 (.cells #[.slice ad6 n6 c6] 39))) (Row.new w6 39 [.slice ad6 n6 c6] (by simp) (by simp)) (by omega) ?_; intro v7 w7 o7; refine hK _ _ ?_; clear hK K))
            exact ⟨⟨j + 1, by go_num, hjl, o7⟩, by simp [intOf]; omega⟩
          · have e : j = nodes := by omega
            subst e
            have hL4 := hL.then hwas.1
            have hP4 := hP.ext hwas.1
            have hH4 := hwas.held hL.net
            have hl4 := hl.keep hL4.ext (fun _ _ h => h)
            clear hL hP hwas hlW
            go_upto_if 56 with (first
              | (change wpList _ _ _ (Oper.mk _ (Op.indexAddr _ _ _) _ _ _ _ :: _) _ _; refine BigFrame.wpList_want rfl (fun K hK => ?_); refine op_index_ops (i := k) rfl rfl rfl Try.underlying22 Try.szE33 hl4 hlt ?_; intro pp hpp hbb; refine hK _ _ ?_; clear hK K)
              | (change wpList _ _ _ (Oper.mk _ (Op.load _ _) _ _ _ _ :: _) _ _; refine BigFrame.wpList_want rfl (fun K hK => ?_); refine op_load1 rfl rfl Try.ag5 (hpp 0 _ rfl) ?_; refine hK _ _ ?_; clear hK K))
            go_cut [] from 31 to 107 (fun W => ∃ P', LawAt w W p L S ∧ PutAt w W L m P' ∧ WasH W L u11 S j ∧ ∀ s ∈ (S.step l[k]).sets .all, s ∈ P')
            case first =>
              by_cases hkind : l[k].kind % 4 = 0
              · have k0 : (((l[k].kind : Nat) : Int) % 4 == 0) = true := by simp; omega
                have hall := Lib.hid (show ∀ s ∈ (S.step l[k]).sets .all, s ∈ addB P l[k].text from fun s hs => by
                  rw [NetS.step_all S _ (by omega), if_pos hkind] at hs
                  unfold addB at hs
                  split at hs
                  · exact addB_more _ (hsub'.out s hs)
                  · rcases List.mem_append.1 hs with hs | hs
                    · exact addB_more _ (hsub'.out s hs)
                    · rw [List.mem_singleton.1 hs]; exact addB_in _ _)
                clear hkind
                have htx := Lib.hid (show l[k].text.size ≤ 20000 from by have := h100'.out _ (List.getElem_mem hlt); omega)
                go_wp2_with (first
                  | (change wpList _ _ _ (Oper.mk _ (Op.indexAddr _ _ _) _ _ _ _ :: _) _ _; refine BigFrame.wpList_want rfl (fun K hK => ?_); refine op_index_ops (i := k) rfl rfl rfl Try.underlying22 Try.szE33 hl4 hlt ?_; intro qq hqq hqb; refine hK _ _ ?_; clear hK K)
                  | (change wpList _ _ _ (Oper.mk _ (Op.load _ _) _ _ _ _ :: _) _ _; refine BigFrame.wpList_want rfl (fun K hK => ?_); refine op_load1 rfl rfl Try.ag9 (hqq 5 _ rfl) ?_; refine hK _ _ ?_; clear hK K)
                  | (change wpList _ _ _ (Oper.mk _ (Op.mapUpdate _ _ _ _) _ _ _ _ :: _) _ _; refine BigFrame.wpList_want rfl (fun K hK => ?_); refine op_put rfl rfl rfl rfl hP4 htx.out ?_; intro w8 hP8 t8; refine hK _ _ ?_; clear hK K))
                go_meet
                case rel => exact ⟨_, hL4.other t8 hP4.tag hP4.new, hP8, hH4.keep t8 (fun b e => by subst e; exact map_blk hP4.map), hall.out⟩
              · have k0 : (((l[k].kind : Nat) : Int) % 4 == 0) = false := by simp; omega
                have hall := Lib.hid (show ∀ s ∈ (S.step l[k]).sets .all, s ∈ P from fun s hs => by
                  rw [NetS.step_all S _ (by omega), if_neg hkind] at hs
                  exact hsub'.out s hs)
                clear hkind
                go_wp2_with fail
                go_meet
                case rel => exact ⟨_, hL4, hP4, hH4, hall.out⟩
            case rest =>
              obtain ⟨P', hL8, hP8, hH8, hall⟩ := hcut
              replace hall := Lib.hid hall
              have hl8 := hl.keep hL8.ext (fun _ _ h => h)
              go_wp2_with (first
                | (change wpList _ _ _ (Oper.mk _ (Op.indexAddr _ _ _) _ _ _ _ :: _) _ _; refine BigFrame.wpList_want rfl (fun K hK => ?_); refine op_index_ops (i := k) rfl rfl rfl Try.underlying22 Try.szE33 hl8 hlt ?_; intro qq hqq hqb; refine hK _ _ ?_; clear hK K)
                | (change wpList _ _ _ (Oper.mk _ (Op.load _ _) _ _ _ _ :: _) _ _; refine BigFrame.wpList_want rfl (fun K hK => ?_); refine op_loadN (p := qq) (vs := l[k].cells) rfl rfl Try.ag33 Try.sz33 hqq ?_; refine hK _ _ ?_; clear hK K))
              ((first | go_at_call 27 | (go_wp2_with fail; go_at_call 27)); refine (do_is hL8 g (by omega) hn (hok'.out _ (List.getElem_mem hlt)) (h100'.out _ (List.getElem_mem hlt))).mono ?_; rintro _ w9 ⟨rfl, L9, l9, t9⟩)
              have hP9 := hP8.step t9
              have hH9 := hH8.step t9
              have g9 : Good (S.step l[k]) (k + 1) := g.step (by omega) _ (h100'.out _ (List.getElem_mem hlt))
              have hn9 : (S.step l[k]).n = j := by rw [NetS.step_n]; exact hn
              have pre := Lib.hid (fun i => S.step_pre l[k] i)
              generalize S.step l[k] = S9 at hall hstep l9 g9 hn9 pre
              clear hL8 hP8 hH8 t9 hl8 hL4 hP4 hH4 hl4
              have htl9 := Lib.hid (fun i => g9.wf.textsLen (i := i))
              have hsz9 := Lib.hid g9.wf.size
              have htn9 := Lib.hid g9.wf.textsN
              have htx9 := Lib.hid g9.wf.texts
              go_wp2_with fail
              go_loopw [13] (fun u W => ∃ c : Nat, u = .int .i64 c ∧ c ≤ j ∧ Ext w9 W) (fun u _ => j - (intOf u).toNat)
              case atStart => exact ⟨0, rfl, Nat.zero_le _, Touch.refl _ w9⟩
              case round =>
                obtain ⟨c, rfl, hc, hE⟩ := hrel
                by_cases hcl : c < j
                · have hcS : c < S9.n := by omega
                  have hel := Lib.hid (show S9.hasL c = S9.texts c from by unfold NetS.hasL; rw [if_pos hcS])
                  ((first | go_at_call 22 | (go_wp2_with fail; go_at_call 22)); refine (has_is (l9.net.ext hE) g9 c (by omega) hel.out).mono ?_; rintro _ w10 ⟨v10, rfl, r10, x10, f10⟩)
                  have hE10 := hE.then_ext x10
                  obtain ⟨vs, hvl, hvr, hve⟩ := hH9.ext hE10
                  obtain ⟨vc, hvc, hvcr⟩ := hve c hcl
                  have hb1 := Lib.hid (show (c + 1) * 1 ≤ vs.length from by omega)
                  have hx1 := Lib.hid (show vs[c * 1 + 0]? = some vc from by simpa using hvc)
                  have hbeg := begins_contract r10 hvcr.row (by have := htl9.out c hcS; omega) (by have := htl.out c (by omega); omega)
                  have hbB : beginsB (S9.texts c) (S.texts c) = true := by obtain ⟨ys, hy⟩ := pre.out c; exact beginsB_pre hy
                  rw [hbB] at hbeg
                  have hvr' := hvr.row
                  clear hbB hve hvc hvl hvr hvcr
                  go_wp2_with (first
                    | (change wpList _ _ _ (Oper.mk _ (Op.indexAddr _ _ _) _ _ _ _ :: _) _ _; refine BigFrame.wpList_want rfl (fun K hK => ?_); refine op_index_row (i := c) rfl rfl rfl Try.underlying45 Try.szE39 hvr' hb1.out (by omega) ?_; intro g' k' cs hel'; refine hK _ _ ?_; clear hK K)
                    | (change wpList _ _ _ (Oper.mk _ (Op.load _ _) _ _ _ _ :: _) _ _; refine BigFrame.wpList_want rfl (fun K hK => ?_); refine op_load1 rfl rfl Try.ag39 (hel'.cell (j := 0) (by omega) hx1.out) ?_; refine hK _ _ ?_; clear hK K))
                  ((first | go_at_call 28 | (go_wp2_with fail; go_at_call 28)); refine (hbeg).mono ?_; rintro _ w11 ⟨rfl, x11⟩)
                  have hE11 := hE10.then_ext x11
                  have r11 := r10.keep x11 (fun _ _ h => h)
                  have hP11 := (hP9.ext hE11).map
                  have hlen := Lib.hid (show ((S9.texts c).map Value.string).length = (S9.texts c).length * 1 from by simp)
                  clear hbeg hvr' f10 r10
                  go_wp2_with fail
                  go_loopw [15] (fun u W => ∃ d : Nat, u = .int .i64 d ∧ d ≤ (S9.texts c).length ∧ Ext w11 W) (fun u _ => (S9.texts c).length - (intOf u).toNat)
                  case atStart => exact ⟨0, rfl, Nat.zero_le _, Touch.refl _ w11⟩
                  case round =>
                    obtain ⟨d, rfl, hd, hE12⟩ := hrel
                    have rW := r11.keep hE12 (fun _ _ h => h)
                    have hPW := hP11.keep hE12 (fun h => h)
                    have hd6 : (S9.texts c).length ≤ 1000 := htl9.out c hcS
                    by_cases hdl : d < (S9.texts c).length
                    · have hb := Lib.hid (show (d + 1) * 1 ≤ ((S9.texts c).map Value.string).length from by rw [hlen.out]; omega)
                      have hx := Lib.hid (show ((S9.texts c).map Value.string)[d * 1 + 0]? = some (.string (S9.texts c)[d]) from by simp [hdl])
                      have hmem := Lib.hid (htx9.out c hcS _ (List.getElem_mem hdl))
                      have hkey := Lib.hid (key9 (hsz9.out _ hmem.out))
                      have hit := Lib.hid (strs_in (hall.out _ hmem.out))
                      have hnin := Lib.hid (show (S9.texts c)[d] ∉ (S9.texts c).take d from fun h => by
                        obtain ⟨i, hi, e⟩ := List.mem_take_iff_getElem.1 h
                        have hi' : i < d := by omega
                        have := nodup_inj (htn9.out c hcS) (by omega) hdl e
                        omega)
                      have rD := rW.drew
                      go_wp2_with (first
                        | (change wpList _ _ _ (Oper.mk _ (Op.call (Call.mk (Callee.builtin Builtin.len) _ _)) _ _ _ _ :: _) _ _; refine BigFrame.wpList_want rfl (fun K hK => ?_); refine op_len_row rfl rfl Try.underlying39 rW (by omega) hlen.out ?_; refine hK _ _ ?_; clear hK K))
                      refine wp_region_rt (by kernel_rfl) [0, 0, 0, 6, 14, 31, 63, 127, 255, 255, 1023, 255, 255, 6399, 14591, 32767, 65535] (.rd 0 (.rd 1 (.rd 2 (.rd 3 (.rd 4 (.rd 5 (.rd 6 (.rd 7 (.rd 8 (.rd 9 (.rd 10 (.rd 11 (.rd 12 (.rd 13 (.rd 14 (.e1 15 [] (.rd 16 (.nil)))))))))))))))))) (by kernel_rfl) ?_
                      iterate 3 (refine cw_rd rfl rfl rfl rfl rfl (fun K hK => ?_); go_wp2_with fail)
                      (refine cw_rd rfl rfl rfl rfl rfl (fun K hK => ?_); refine op_index_row (i := d) rfl rfl rfl Try.underlying39 Try.szE9 rD hb.out (by omega) ?_; intro g2 k2 cs2 hel2; refine hK _ ?_; clear hK K)
                      (refine cw_rd rfl rfl rfl rfl rfl (fun K hK => ?_); refine op_load1 rfl rfl Try.ag9 (hel2.cell (j := 0) (by omega) hx.out) ?_; refine hK _ ?_; clear hK K)
                      (refine cw_rd rfl rfl rfl rfl rfl (fun K hK => ?_); refine op_lookup_hit (k := .string (S9.texts c)[d]) rfl rfl rfl Try.k9 Try.underlying44 (hPW.keep (Touch.refl (fun _ => False) _).drew (fun h => h)) hkey.out hit.out ?_; refine hK _ ?_; clear hK K)
                      iterate 4 (refine cw_rd rfl rfl rfl rfl rfl (fun K hK => ?_); go_wp2_with fail)
                      (refine cw_rd rfl rfl rfl rfl rfl (fun K hK => ?_); refine op_take_row (k := d) rfl rfl rfl Try.underlying39 Try.szE9 rD (by rw [hlen.out]; omega) (by omega) ?_; intro v3 hv3 hb3; refine hK _ ?_; clear hK K)
                      rw [Nat.mul_one, ← List.map_take] at hv3
                      iterate 2 (refine cw_rd rfl rfl rfl rfl rfl (fun K hK => ?_); go_wp2_with fail)
                      (refine cw_rd rfl rfl rfl rfl rfl (fun K hK => ?_); refine op_index_row (i := d) rfl rfl rfl Try.underlying39 Try.szE9 rD hb.out (by omega) ?_; intro g4 k4 cs4 hel4; refine hK _ ?_; clear hK K)
                      (refine cw_rd rfl rfl rfl rfl rfl (fun K hK => ?_); refine op_load1 rfl rfl Try.ag9 (hel4.cell (j := 0) (by omega) hx.out) ?_; refine hK _ ?_; clear hK K)
                      have hin := in_contract (S9.texts c)[d] hv3 (by rw [List.length_take]; have := htl9.out c hcS; omega)
                      rw [inB_false hnin.out] at hin
                      refine cw_e1 rfl rfl (fun K hK => ?_)
                      go_wp2_with (first | (go_at_call 29; refine hin.mono ?_; rintro _ _ ⟨rfl, rfl⟩))
                      refine ⟨fl_none, ?_⟩
                      iterate 1 (refine cw_rd rfl rfl rfl rfl rfl (fun K hK => ?_); go_wp2_with fail)
                      refine cw_nil ?_
                      go_wp2_with fail
                      exact ⟨⟨d + 1, by go_num, hdl, hE12.drew⟩, by simp [intOf]; omega⟩
                    · go_wp2_with (first
                        | (change wpList _ _ _ (Oper.mk _ (Op.call (Call.mk (Callee.builtin Builtin.len) _ _)) _ _ _ _ :: _) _ _; refine BigFrame.wpList_want rfl (fun K hK => ?_); refine op_len_row rfl rfl Try.underlying39 rW (by omega) hlen.out ?_; refine hK _ _ ?_; clear hK K))
                      exact ⟨⟨c + 1, by go_num, hcl, hE11.then_ext hE12⟩, by simp [intOf]; omega⟩
                · go_wp2_with fail
                  exact ⟨⟨k + 1, by go_num, hlt, L9, P', by rw [hstep.out]; exact l9.then hE, hP9.ext hE, by rw [hstep.out]; exact hall.out⟩, by simp [intOf]; omega⟩
      · go_wp2_with (first
          | (change wpList _ _ _ (Oper.mk _ (Op.call (Call.mk (Callee.builtin Builtin.len) _ _)) _ _ _ _ :: _) _ _; refine BigFrame.wpList_want rfl (fun K hK => ?_); refine op_len_ops rfl rfl Try.underlying22 hlW ?_; refine hK _ _ ?_; clear hK K))
        go_ret
        exact ⟨rfl, hL.ext⟩
end Go.Proofs.Ytcipfpebjeakfaa
