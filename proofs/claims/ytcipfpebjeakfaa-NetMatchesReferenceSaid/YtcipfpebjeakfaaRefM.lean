/-
  The walk of NetMatchesReference.
-/
import Derived.Test.YtcipfpebjeakfaaRefL
import Derived.Test.YtcipfpebjeakfaaRefH
import Derived.Deep.CutBlock
namespace Go.Proofs.Ytcipfpebjeakfaa
open Go Go.RowKit Go.WideMaps

/-- An operation at these two nodes. -/
def NetS.act (S : NetS) (kind a b : Nat) (lost again : Bool) (text : ByteArray) : NetS :=
  if kind % 4 = 0 then S.put a text else if kind % 4 = 1 then S.send a b else if kind % 4 = 2 then S.deliver a b lost again else S.cutTo a b (!lost)
theorem Good.act {S : NetS} {k : Nat} (h : Good S k) (hk : k ≤ 98) (kind a b : Nat) (lost again : Bool) {text : ByteArray} (ht : text.size ≤ 100) : Good (S.act kind a b lost again text) (k + 1) := by
  unfold NetS.act
  split
  · exact h.put hk _ (by omega)
  · split
    · exact h.send hk _ _
    · split
      · exact (h.deliver _ _ _ _).more (by omega)
      · exact (h.cutTo _ _ _).more (by omega)
theorem NetS.act_n (S : NetS) (kind a b : Nat) (lost again : Bool) (text : ByteArray) : (S.act kind a b lost again text).n = S.n := by
  unfold NetS.act
  split
  · exact NetS.put_n _ _ _
  · split
    · exact NetS.send_n _ _ _
    · split
      · exact NetS.deliver_n _ _ _ _ _
      · exact NetS.cutTo_n _ _ _ _

/-- The package's network steps; an object apart from it stays. -/
theorem BothAt.leftBox {w0 W W' : World} {p q g : Nat} {L : Lay} {R : RLay} {S S' T : NetS} {ty : TypeId} {cs : Array Value} (h : BothAt w0 W p q L R S T) (hb : Blk W g ty cs) (hg : L.tag g = .oth) (hp : AddPost W.heap.size W p L S' W') :
    ∃ L', BothAt w0 W' p q L' R S' T ∧ Blk W' g ty cs := by
  obtain ⟨L', h1, h2⟩ := hp
  refine ⟨L', h.left h1 h2, h2.touch.obj hb fun hf => ?_⟩
  have := obj_lt hb
  rcases hf with hf | hf
  · omega
  · exact hf.1 hg
theorem NetS.act0 (S : NetS) {kind : Nat} (h : kind % 4 = 0) (a b : Nat) (lost again : Bool) (text : ByteArray) : S.act kind a b lost again text = S.put a text := by unfold NetS.act; rw [if_pos h]
theorem NetS.act1 (S : NetS) {kind : Nat} (h : kind % 4 = 1) (a b : Nat) (lost again : Bool) (text : ByteArray) : S.act kind a b lost again text = S.send a b := by unfold NetS.act; rw [if_neg (by omega), if_pos h]
theorem NetS.act2 (S : NetS) {kind : Nat} (h : kind % 4 = 2) (a b : Nat) (lost again : Bool) (text : ByteArray) : S.act kind a b lost again text = S.deliver a b lost again := by unfold NetS.act; rw [if_neg (by omega), if_neg (by omega), if_pos h]
theorem NetS.act3 (S : NetS) {kind : Nat} (h : kind % 4 = 3) (a b : Nat) (lost again : Bool) (text : ByteArray) : S.act kind a b lost again text = S.cutTo a b (!lost) := by unfold NetS.act; rw [if_neg (by omega), if_neg (by omega), if_neg (by omega)]
theorem Wf.hasLen {S : NetS} (h : Wf S) (i : Nat) : (S.hasL i).length ≤ 1000 := by
  unfold NetS.hasL
  split
  · rename_i hi; have := h.textsLen (i := i) hi; omega
  · simp

theorem same_true {w : World} {v u : Value} {xs : List ByteArray} (hv : Row w 9 1 v (xs.map .string)) (hu : Row w 9 1 u (xs.map .string)) (hn : xs.length ≤ 1000000) :
    Calls Try.prog 21 #[v, u] w fun e w' => e = .returned (.bool true) ∧ Ext w w' := by
  have h := same_contract hv hu hn hn
  rw [sameB_iff.2 rfl] at h
  exact h

attribute [local irreducible] World.cell? World.frozen? isAggB _root_.Go.Program.underlying

set_option maxRecDepth 100000 in
set_option maxHeartbeats 4000000 in
theorem matches_walk {w : World} {v : Value} {l : List OpV} (hl : ROps w v l) (hok : ∀ o ∈ l, o.ok) (nodes : Int) (hnodes : (Lit.int .i64 nodes).wf = true) :
    Calls Try.prog 3 #[.int .i64 nodes, v] w fun e w' => e = .returned (.bool true) ∧ Ext w w' := by
  have hlen6 : (l.length : Int) ≤ 9223372036854775807 := by obtain ⟨ad, c, _, h1, h2, _⟩ := hl; unfold maxLen at h2; omega
  have hb64 : -9223372036854775808 ≤ nodes ∧ nodes ≤ 9223372036854775807 := by
    simp [Lit.wf, IntKind.min, IntKind.max, IntKind.signed, IntKind.bits] at hnodes
    omega
  clear hnodes
  go_enter Try.func3, Try.ntmps3
  ((first | go_at_call 9 | (go_wp2_with fail; go_at_call 9)); refine (head_contract w).mono ?_; rintro _ w1 ⟨rfl, x1⟩)
  have hl1 := hl.keep x1 (fun _ _ h => h)
  cases hsh : shortB l 80 with
  | false =>
    have hs := short_contract 80 hl1 (by omega)
    rw [hsh] at hs
    ((first | go_at_call 10 | (go_wp2_with fail; go_at_call 10)); refine (hs).mono ?_; rintro _ _ ⟨rfl, rfl⟩)
    go_wp2_with fail
    go_ret
    exact ⟨rfl, x1⟩
  | true =>
    have hs := short_contract 80 hl1 (by omega)
    rw [hsh] at hs
    obtain ⟨h80, h100⟩ := shortB_out hsh
    have h100' := Lib.hid h100
    have hok' := Lib.hid hok
    clear hsh h100 hok
    ((first | go_at_call 10 | (go_wp2_with fail; go_at_call 10)); refine (hs).mono ?_; rintro _ _ ⟨rfl, rfl⟩)
    by_cases hin : 1 ≤ nodes ∧ nodes ≤ 8
    · obtain ⟨n, rfl⟩ : ∃ n : Nat, nodes = n := ⟨nodes.toNat, by omega⟩
      have hn8 : n ≤ 8 := by omega
      have hn1 : 1 ≤ n := by omega
      clear hin hb64
      ((first | go_at_call 11 | (go_wp2_with fail; go_at_call 11)); refine (new_good (w := w1) n hn1 hn8).mono ?_; rintro _ w2 ⟨p, L2, rfl, h2, x2, o2⟩)
      have l2 : LawAt w w2 p L2 (NetS.fresh n) := ⟨h2, x1.then_ext x2, fun b hb => o2 b (by have := x1.size; omega)⟩
      have g0 : Good (NetS.fresh n) 0 := ⟨Wf.fresh hn1 hn8, Cap.fresh n⟩
      ((first | go_at_call 12 | (go_wp2_with fail; go_at_call 12)); refine (rnew_good (w := w2) n hn1 hn8).mono ?_; rintro _ w3 ⟨q, R3, rfl, h3, x3, o3⟩)
      have b3 : BothAt w w3 p q L2 R3 (NetS.fresh n) (NetS.fresh n) := ⟨l2.then x3, h3, fun b hb => o3 b (by have := l2.ext.size; omega), fun b => by
        rcases Nat.lt_or_ge b w2.heap.size with hb | hb
        · exact .inr (o3 b hb)
        · exact .inl (h2.fresh b hb)⟩
      clear h2 x1 x2 o2 hl1 l2 h3 x3 o3
      go_wp2_with fail
      go_loopw [10] (fun u W => ∃ k : Nat, u = .int .i64 k ∧ k ≤ l.length ∧ ∃ S L R, BothAt w W p q L R S S ∧ Good S k ∧ S.n = n) (fun u _ => l.length - (intOf u).toNat)
      case atStart => exact ⟨0, rfl, Nat.zero_le _, _, L2, R3, b3, g0, rfl⟩
      case round =>
        clear b3 g0
        obtain ⟨k, rfl, hk, S, L, R, hB, g, hn⟩ := hrel
        have hlW := hl.keep hB.net.ext (fun _ _ h => h)
        by_cases hlt : k < l.length
        · have hok1 := hok'.out _ (List.getElem_mem hlt)
          have h1001 := h100'.out _ (List.getElem_mem hlt)
          obtain ⟨⟨kind, oa, ob, lost, again, text⟩, hol⟩ : ∃ o, l[k] = o := ⟨_, rfl⟩
          rw [hol] at hok1 h1001
          obtain ⟨hkd, hoa, hob⟩ := hok1
          dsimp only at hkd hoa hob h1001
          have hone := Lib.hid (show ∀ u ∈ [Value.int .u8 kind, .int .u8 oa, .int .u8 ob, .bool lost, .bool again, .string text], u.oneCell' = true from by simp [Value.oneCell'])
          have h1001' := Lib.hid h1001
          clear h1001
          go_wp2_with (first
            | ((with_reducible change wpList _ _ _ (Oper.mk _ (Op.call (Call.mk (Callee.builtin Builtin.len) _ _)) _ _ _ _ :: _) _ _); refine BigFrame.wpList_want rfl (fun K hK => ?_); refine op_len_ops rfl rfl Try.underlying22 hlW ?_; refine hK _ _ ?_; clear hK K)
            | ((with_reducible change wpList _ _ _ (Oper.mk _ (Op.indexAddr _ _ _) _ _ _ _ :: _) _ _); refine BigFrame.wpList_want rfl (fun K hK => ?_); refine op_index_ops (i := k) rfl rfl rfl Try.underlying22 Try.szE33 hlW hlt ?_; intro pp hpp hbb; refine hK _ _ ?_; clear hK K; rw [hol] at hpp; replace hpp := Lib.hid hpp)
            | ((with_reducible change wpList _ _ _ (Oper.mk _ (Op.load _ _) _ _ _ _ :: _) _ _); refine BigFrame.wpList_want rfl (fun K hK => ?_); refine op_loadN (p := pp) (vs := [.int .u8 kind, .int .u8 oa, .int .u8 ob, .bool lost, .bool again, .string text]) rfl rfl Try.ag33 Try.sz33 hpp.out ?_; refine hK _ _ ?_; clear hK K)
            | ((with_reducible change wpList _ _ _ (Oper.mk _ (Op.store _ _ _) _ _ _ _ :: _) _ _); refine BigFrame.wpList_want rfl (fun K hK => ?_); refine op_storeN (g := wr.heap.size) (i := 0) (T := 33) (vs := [.int .u8 kind, .int .u8 oa, .int .u8 ob, .bool lost, .bool again, .string text]) rfl rfl rfl Try.sz33 hone.out (obj_new _ _) (by simp) ?_; intro w4 hb4 ht4 hz4; refine hK _ _ ?_; clear hK K))
          clear hlW hpp hbb
          have hbx := hb4.storeAll rfl
          have hE4 := Ext.new ht4
          have hB4 := hB.then hE4.drew
          have hgL : L.tag wr.heap.size = .oth := hB.net.net.fresh _ (Nat.le_refl _)
          have hbox := Lib.hid (blk_cells (vs := [.int .u8 kind, .int .u8 oa, .int .u8 ob, .bool lost, .bool again, .string text]) hbx)
          have hz : ¬ ((n : Int) + 1 = 0) := by omega
          have hxa := Nat.mod_lt oa (show n + 1 > 0 by omega)
          have hya := Nat.mod_lt ob (show n + 1 > 0 by omega)
          have ex : ((oa % (n + 1) : Nat) : Int) = (oa : Int) % ((n : Int) + 1) := Int.natCast_emod _ _
          have ey : ((ob % (n + 1) : Nat) : Int) = (ob : Int) % ((n : Int) + 1) := Int.natCast_emod _ _
          generalize hxx : oa % (n + 1) = a at hxa ex
          generalize hyy : ob % (n + 1) = b at hya ey
          replace ex := Lib.hid ex
          replace ey := Lib.hid ey
          clear hxx hyy hb4 ht4 hz4 hB hE4
          refine wp_region_rt (by kernel_rfl) [0, 1, 3, 0, 8, 31, 0, 64, 192, 0, 512, 1984, 63, 8191] (.rd 0 (.rd 1 (.rd 2 (.rd 3 (.rd 4 (.rd 5 (.rd 6 (.rd 7 (.rd 8 (.rd 9 (.rd 10 (.rd 11 (.rd 12 (.rd 13 (.nil))))))))))))))) (by kernel_rfl) ?_
          iterate 1 (refine cw_rd rfl rfl rfl rfl rfl (fun K hK => ?_); go_wp2_with fail)
          (refine cw_rd rfl rfl rfl rfl rfl (fun K hK => ?_); refine op_load1 rfl rfl Try.ag5 (cell_drew (hbox.out 1 _ rfl)) ?_; refine hK _ ?_; clear hK K)
          iterate 5 (refine cw_rd rfl rfl rfl rfl rfl (fun K hK => ?_); go_wp2_with fail)
          (refine cw_rd rfl rfl rfl rfl rfl (fun K hK => ?_); refine op_load1 rfl rfl Try.ag5 (cell_drew (hbox.out 2 _ rfl)) ?_; refine hK _ ?_; clear hK K)
          iterate 6 (refine cw_rd rfl rfl rfl rfl rfl (fun K hK => ?_); go_wp2_with fail)
          refine cw_nil ?_
          rw [← ex.out, ← ey.out]
          clear ex ey hz
          go_upto_block 2 with (first
            | ((with_reducible change wpList _ _ _ (Oper.mk _ (Op.load _ _) _ _ _ _ :: _) _ _); refine BigFrame.wpList_want rfl (fun K hK => ?_); refine op_load1 rfl rfl Try.ag5 (cell_drew (hbox.out 0 _ rfl)) ?_; refine hK _ _ ?_; clear hK K))
          have hBd : BothAt w w4.drew.drew p q L R S S := hB4.then ((Touch.refl _ _).drew)
          have hbd : Blk w4.drew.drew wr.heap.size 33 #[.int .u8 kind, .int .u8 oa, .int .u8 ob, .bool lost, .bool again, .string text] := hbx
          have hbd0 : Blk w4.drew wr.heap.size 33 #[.int .u8 kind, .int .u8 oa, .int .u8 ob, .bool lost, .bool again, .string text] := hbx
          clear hbx
          go_cut [14] from 43 to 171 (fun u W => u = .bool true ∧ ∃ L' R', BothAt w W p q L' R' (S.act kind a b lost again text) (S.act kind a b lost again text))
          case first =>
            have hcases : kind % 4 = 0 ∨ kind % 4 = 1 ∨ kind % 4 = 2 ∨ kind % 4 = 3 := by omega
            rcases hcases with hc | hc | hc | hc
            · have hS := Lib.hid (S.act0 hc a b lost again text)
              have k0 : (((kind : Int) % 4) == 0) = true := by simp; omega
              have hcall := Lib.hid (put_is hBd.net.net g (by omega) a text (S' := S.put a text) (r := S.okI a) (by omega) (by have := h1001'.out; omega) rfl rfl)
              clear hc
              go_wp2_with fail
              refine wp_region_rt (by kernel_rfl) [0, 0, 0, 4, 15, 0, 0, 0, 128, 511, 1023, 2047] (.rd 0 (.rd 1 (.rd 2 (.rd 3 (.rd 5 (.rd 6 (.rd 7 (.rd 8 (.e1 4 [7, 8] (.e1 9 [] (.rd 10 (.rd 11 (.nil))))))))))))) (by kernel_rfl) ?_
              iterate 3 (refine cw_rd rfl rfl rfl rfl rfl (fun K hK => ?_); go_wp2_with fail)
              (refine cw_rd rfl rfl rfl rfl rfl (fun K hK => ?_); refine op_load1 rfl rfl Try.ag9 (hbd.cell (i := 5) rfl) ?_; refine hK _ ?_; clear hK K)
              iterate 3 (refine cw_rd rfl rfl rfl rfl rfl (fun K hK => ?_); go_wp2_with fail)
              (refine cw_rd rfl rfl rfl rfl rfl (fun K hK => ?_); refine op_load1 rfl rfl Try.ag9 (hbd.cell (i := 5) rfl) ?_; refine hK _ ?_; clear hK K)
              refine cw_e1 rfl rfl (fun K hK => ?_)
              go_wp2_with (first | (go_at_call 13; refine hcall.out.mono ?_; rintro _ w5 ⟨rfl, hpost⟩))
              obtain ⟨L5, hB5, hbox5⟩ := hBd.leftBox hbd hgL hpost
              refine ⟨?_, ?_⟩
              · (repeat (first | exact fl_nil | refine fl_skip rfl ?_ | (refine fl_take rfl ?_ ?_; (refine yldI_of rfl rfl ?_; first | exact run_ld rfl rfl Try.ag9 (hbox5.cell (i := 5) rfl) |  go_simp))))
              have hcr := Lib.hid (put_ref hB5.ref g.wf a text (by omega) (by have := h1001'.out; omega) (by have := g.cap.all; omega))
              clear hcall hpost
              refine cw_e1 rfl rfl (fun K hK => ?_)
              go_wp2_with (first | (go_at_call 14; refine hcr.out.mono ?_; rintro _ w6 ⟨rfl, hpr⟩))
              refine ⟨fl_none, ?_⟩
              iterate 2 (refine cw_rd rfl rfl rfl rfl rfl (fun K hK => ?_); go_wp2_with fail)
              refine cw_nil ?_
              go_wp2_with fail
              go_meet
              case rel =>
                obtain ⟨R6, hB6⟩ := hB5.right hpr
                rw [hS.out]
                exact ⟨by simp, L5, R6, hB6⟩
            · have hS := Lib.hid (S.act1 hc a b lost again text)
              have k0 : (((kind : Int) % 4) == 0) = false := by simp; omega
              have k1 : (((kind : Int) % 4) == 1) = true := by simp; omega
              have hcall := Lib.hid (send_is hB4.net.net g (by omega) a b (S' := S.send a b) (r := S.sendC a b) (by omega) (by omega) rfl rfl)
              clear hc
              ((first | go_at_call 15 | (go_wp2_with fail; go_at_call 15)); refine (hcall.out).mono ?_; rintro _ w5 ⟨rfl, hpost⟩)
              obtain ⟨L5, hB5, hbox5⟩ := hB4.leftBox hbd0 hgL hpost
              have hcr := Lib.hid (send_ref hB5.ref g.wf a b (by omega) (by omega) (fun i j => by have := g.cap.q i j; omega))
              clear hcall hpost
              ((first | go_at_call 16 | (go_wp2_with fail; go_at_call 16)); refine (hcr.out).mono ?_; rintro _ w6 ⟨rfl, hpr⟩)
              go_wp2_with fail
              go_meet
              case rel =>
                obtain ⟨R6, hB6⟩ := hB5.right hpr
                rw [hS.out]
                exact ⟨by simp, L5, R6, hB6⟩
            · have hS := Lib.hid (S.act2 hc a b lost again text)
              have k0 : (((kind : Int) % 4) == 0) = false := by simp; omega
              have k1 : (((kind : Int) % 4) == 1) = false := by simp; omega
              have k2 : (((kind : Int) % 4) == 2) = true := by simp; omega
              have hcall := Lib.hid (deliver_is hBd.net.net g a b lost again (S' := S.deliver a b lost again) (r := S.deliverC a b) (by omega) (by omega) rfl rfl)
              clear hc
              go_wp2_with fail
              refine wp_region_rt (by kernel_rfl) [0, 0, 0, 0, 8, 0, 32, 127, 0, 0, 0, 0, 2048, 0, 8192, 32767, 65535, 131071] (.rd 0 (.rd 1 (.rd 2 (.rd 3 (.rd 4 (.rd 5 (.rd 6 (.rd 8 (.rd 9 (.rd 10 (.rd 11 (.rd 12 (.rd 13 (.rd 14 (.e1 7 [11, 12, 13, 14] (.e1 15 [] (.rd 16 (.rd 17 (.nil))))))))))))))))))) (by kernel_rfl) ?_
              iterate 4 (refine cw_rd rfl rfl rfl rfl rfl (fun K hK => ?_); go_wp2_with fail)
              (refine cw_rd rfl rfl rfl rfl rfl (fun K hK => ?_); refine op_load1 rfl rfl Try.ag4 (hbd.cell (i := 3) rfl) ?_; refine hK _ ?_; clear hK K)
              iterate 1 (refine cw_rd rfl rfl rfl rfl rfl (fun K hK => ?_); go_wp2_with fail)
              (refine cw_rd rfl rfl rfl rfl rfl (fun K hK => ?_); refine op_load1 rfl rfl Try.ag4 (hbd.cell (i := 4) rfl) ?_; refine hK _ ?_; clear hK K)
              iterate 4 (refine cw_rd rfl rfl rfl rfl rfl (fun K hK => ?_); go_wp2_with fail)
              (refine cw_rd rfl rfl rfl rfl rfl (fun K hK => ?_); refine op_load1 rfl rfl Try.ag4 (hbd.cell (i := 3) rfl) ?_; refine hK _ ?_; clear hK K)
              iterate 1 (refine cw_rd rfl rfl rfl rfl rfl (fun K hK => ?_); go_wp2_with fail)
              (refine cw_rd rfl rfl rfl rfl rfl (fun K hK => ?_); refine op_load1 rfl rfl Try.ag4 (hbd.cell (i := 4) rfl) ?_; refine hK _ ?_; clear hK K)
              refine cw_e1 rfl rfl (fun K hK => ?_)
              go_wp2_with (first | (go_at_call 17; refine hcall.out.mono ?_; rintro _ w5 ⟨rfl, hpost⟩))
              obtain ⟨L5, hB5, hbox5⟩ := hBd.leftBox hbd hgL hpost
              refine ⟨?_, ?_⟩
              · (repeat (first | exact fl_nil | refine fl_skip rfl ?_ | (refine fl_take rfl ?_ ?_; (refine yldI_of rfl rfl ?_; first | exact run_ld rfl rfl Try.ag4 (hbox5.cell (i := 3) rfl) | exact run_ld rfl rfl Try.ag4 (hbox5.cell (i := 4) rfl) |  go_simp))))
              have hcr := Lib.hid (deliver_ref hB5.ref g.wf a b lost again (by omega) (by omega))
              clear hcall hpost
              refine cw_e1 rfl rfl (fun K hK => ?_)
              go_wp2_with (first | (go_at_call 18; refine hcr.out.mono ?_; rintro _ w6 ⟨rfl, hpr⟩))
              refine ⟨fl_none, ?_⟩
              iterate 2 (refine cw_rd rfl rfl rfl rfl rfl (fun K hK => ?_); go_wp2_with fail)
              refine cw_nil ?_
              go_wp2_with fail
              go_meet
              case rel =>
                obtain ⟨R6, hB6⟩ := hB5.right hpr
                rw [hS.out]
                exact ⟨by simp, L5, R6, hB6⟩
            · have hS := Lib.hid (S.act3 hc a b lost again text)
              have k0 : (((kind : Int) % 4) == 0) = false := by simp; omega
              have k1 : (((kind : Int) % 4) == 1) = false := by simp; omega
              have k2 : (((kind : Int) % 4) == 2) = false := by simp; omega
              have hcall := Lib.hid (cut_is hBd.net.net a b (!lost) (S' := S.cutTo a b (!lost)) (r := S.codeB a b) (by omega) (by omega) rfl rfl)
              clear hc
              go_wp2_with fail
              refine wp_region_rt (by kernel_rfl) [0, 0, 0, 0, 8, 24, 63, 0, 0, 0, 0, 1024, 3072, 8191, 16383, 32767] (.rd 0 (.rd 1 (.rd 2 (.rd 3 (.rd 4 (.rd 5 (.rd 7 (.rd 8 (.rd 9 (.rd 10 (.rd 11 (.rd 12 (.e1 6 [10, 11, 12] (.e1 13 [] (.rd 14 (.rd 15 (.nil))))))))))))))))) (by kernel_rfl) ?_
              iterate 4 (refine cw_rd rfl rfl rfl rfl rfl (fun K hK => ?_); go_wp2_with fail)
              (refine cw_rd rfl rfl rfl rfl rfl (fun K hK => ?_); refine op_load1 rfl rfl Try.ag4 (hbd.cell (i := 3) rfl) ?_; refine hK _ ?_; clear hK K)
              iterate 5 (refine cw_rd rfl rfl rfl rfl rfl (fun K hK => ?_); go_wp2_with fail)
              (refine cw_rd rfl rfl rfl rfl rfl (fun K hK => ?_); refine op_load1 rfl rfl Try.ag4 (hbd.cell (i := 3) rfl) ?_; refine hK _ ?_; clear hK K)
              iterate 1 (refine cw_rd rfl rfl rfl rfl rfl (fun K hK => ?_); go_wp2_with fail)
              refine cw_e1 rfl rfl (fun K hK => ?_)
              go_wp2_with (first | (go_at_call 19; refine hcall.out.mono ?_; rintro _ w5 ⟨rfl, hpost⟩))
              obtain ⟨L5, hB5, hbox5⟩ := hBd.leftBox hbd hgL hpost
              refine ⟨?_, ?_⟩
              · (repeat (first | exact fl_nil | refine fl_skip rfl ?_ | (refine fl_take rfl ?_ ?_; (refine yldI_of rfl rfl ?_; first | exact run_ld rfl rfl Try.ag4 (hbox5.cell (i := 3) rfl) |  go_simp))))
              have hcr := Lib.hid (cut_ref hB5.ref a b (!lost) (by omega) (by omega))
              clear hcall hpost
              refine cw_e1 rfl rfl (fun K hK => ?_)
              go_wp2_with (first | (go_at_call 20; refine hcr.out.mono ?_; rintro _ w6 ⟨rfl, hpr⟩))
              refine ⟨fl_none, ?_⟩
              iterate 2 (refine cw_rd rfl rfl rfl rfl rfl (fun K hK => ?_); go_wp2_with fail)
              refine cw_nil ?_
              go_wp2_with fail
              go_meet
              case rel =>
                obtain ⟨R6, hB6⟩ := hB5.right hpr
                rw [hS.out]
                exact ⟨by simp, L5, R6, hB6⟩
          case rest =>
            obtain ⟨rfl, L1, R1, hB1⟩ := hcut
            have g1 := g.act (by omega) kind a b lost again (text := text) h1001'.out
            have e1 := Lib.hid ((NetS.act_n S kind a b lost again text).trans hn)
            clear hB4 hBd hbd hbd0 hbox hgL hone h1001'
            generalize S.act kind a b lost again text = S1 at hB1 g1 e1
            have hla : (S1.hasL a).length ≤ 1000000 := by have := g1.wf.hasLen a; omega
            have hlb : (S1.hasL b).length ≤ 1000000 := by have := g1.wf.hasLen b; omega
            have hlab : (S1.lacks a b).length ≤ 1000000 := by have := g1.wf.lacksLen a b; omega
            have hlba : (S1.lacks b a).length ≤ 1000000 := by have := g1.wf.lacksLen b a; omega
            ((first | go_at_call 22 | (go_wp2_with fail; go_at_call 22)); refine (has_is hB1.net.net g1 a (by omega) rfl).mono ?_; rintro _ w5 ⟨v5, rfl, r5, x5, f5⟩)
            replace hB1 := hB1.then x5
            ((first | go_at_call 23 | (go_wp2_with fail; go_at_call 23)); refine (has_ref hB1.ref a (by omega)).mono ?_; rintro _ _ ⟨v6, rfl, rfl, r6⟩)
            ((first | go_at_call 21 | (go_wp2_with fail; go_at_call 21)); refine (same_true r5 r6 hla).mono ?_; rintro _ w7 ⟨rfl, x7⟩)
            replace hB1 := hB1.then x7
            clear r5 x5 f5 r6 x7
            ((first | go_at_call 22 | (go_wp2_with fail; go_at_call 22)); refine (has_is hB1.net.net g1 b (by omega) rfl).mono ?_; rintro _ w8 ⟨v8, rfl, r8, x8, f8⟩)
            replace hB1 := hB1.then x8
            ((first | go_at_call 23 | (go_wp2_with fail; go_at_call 23)); refine (has_ref hB1.ref b (by omega)).mono ?_; rintro _ _ ⟨v9, rfl, rfl, r9⟩)
            ((first | go_at_call 21 | (go_wp2_with fail; go_at_call 21)); refine (same_true r8 r9 hlb).mono ?_; rintro _ w10 ⟨rfl, x10⟩)
            replace hB1 := hB1.then x10
            clear r8 x8 f8 r9 x10
            ((first | go_at_call 24 | (go_wp2_with fail; go_at_call 24)); refine (lacks_is hB1.net.net g1 a b (by omega) (by omega) rfl).mono ?_; rintro _ w11 ⟨v11, rfl, r11, x11, f11⟩)
            replace hB1 := hB1.then x11
            ((first | go_at_call 25 | (go_wp2_with fail; go_at_call 25)); refine (lacks_ref hB1.ref g1.wf a b (by omega) (by omega)).mono ?_; rintro _ w12 ⟨v12, rfl, r12, x12, f12⟩)
            replace hB1 := hB1.then x12
            ((first | go_at_call 21 | (go_wp2_with fail; go_at_call 21)); refine (same_true (r11.keep x12 (fun _ _ h => h)) r12 hlab).mono ?_; rintro _ w13 ⟨rfl, x13⟩)
            replace hB1 := hB1.then x13
            clear r11 x11 f11 r12 x12 f12 x13
            ((first | go_at_call 24 | (go_wp2_with fail; go_at_call 24)); refine (lacks_is hB1.net.net g1 b a (by omega) (by omega) rfl).mono ?_; rintro _ w14 ⟨v14, rfl, r14, x14, f14⟩)
            replace hB1 := hB1.then x14
            ((first | go_at_call 25 | (go_wp2_with fail; go_at_call 25)); refine (lacks_ref hB1.ref g1.wf b a (by omega) (by omega)).mono ?_; rintro _ w15 ⟨v15, rfl, r15, x15, f15⟩)
            replace hB1 := hB1.then x15
            ((first | go_at_call 21 | (go_wp2_with fail; go_at_call 21)); refine (same_true (r14.keep x15 (fun _ _ h => h)) r15 hlba).mono ?_; rintro _ w16 ⟨rfl, x16⟩)
            replace hB1 := hB1.then x16
            clear r14 x14 f14 r15 x15 f15 x16
            go_wp2_with fail
            exact ⟨⟨k + 1, by go_num, by omega, S1, L1, R1, hB1, g1, e1.out⟩, by simp [intOf]; omega⟩
        · have e : k = l.length := by omega
          subst e
          go_wp2_with (first
            | ((with_reducible change wpList _ _ _ (Oper.mk _ (Op.call (Call.mk (Callee.builtin Builtin.len) _ _)) _ _ _ _ :: _) _ _); refine BigFrame.wpList_want rfl (fun K hK => ?_); refine op_len_ops rfl rfl Try.underlying22 hlW ?_; refine hK _ _ ?_; clear hK K))
          go_ret
          exact ⟨rfl, hB.net.ext⟩
    · ((first | go_at_call 11 | (go_wp2_with fail; go_at_call 11)); refine (new_bad (w := w1) nodes hb64.1 hb64.2 (by omega)).mono ?_; rintro _ _ ⟨rfl, rfl⟩)
      ((first | go_at_call 12 | (go_wp2_with fail; go_at_call 12)); refine (rnew_bad (w := w1) nodes hb64.1 hb64.2 (by omega)).mono ?_; rintro _ _ ⟨rfl, rfl⟩)
      go_wp2_with fail
      go_ret
      exact ⟨rfl, x1⟩
end Go.Proofs.Ytcipfpebjeakfaa
