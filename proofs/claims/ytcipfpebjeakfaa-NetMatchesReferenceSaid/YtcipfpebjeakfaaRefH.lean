/-
  Contract of the reference: Deliver, where a message is there.
-/
import Derived.Test.YtcipfpebjeakfaaRefG
namespace Go.Proofs.Ytcipfpebjeakfaa
open Go Go.RowKit Go.WideMaps

attribute [local irreducible] World.cell? World.frozen? isAggB _root_.Go.Program.underlying


/-- Behind a store into one of the reference's rows. -/
theorem DelR.keepRow {w W W' : World} {q : Nat} {R R1 : RLay} {S1 : NetS} {b a : Nat} {m : Msg} {gm gx : Nat} {mv vx : Value} {xs ys : List ByteArray} (h : DelR w W q R R1 S1 b a m gm gx mv vx xs ys)
    {r0 : RowId} (h0 : r0.ok { S1 with sets := updS S1.sets (.got b a) ys }) (hr : r0.tagOf = .row r0) (ht : Touch (fun x => rowBlock (R1.val r0) = some x) W W') :
    Blk W' gm 87 #[mv, .int .i64 m.length, .int .i64 m.heard] ∧ Blk W' gx 74 #[vx, R1.val (.heard b), R1.val (.known b), R1.val (.got b)] ∧ Row W' 9 1 vx (xs.map .string) ∧ RTo w.heap.size w W' R R1 := by
  have gtag : ∀ x, rowBlock (R1.val r0) = some x → R1.tag x = .row r0 := fun x hx => by rw [h.ref.tag r0 h0 x hx, hr]
  refine ⟨ht.obj h.bm fun e => ?_, ht.obj h.bx fun e => ?_, h.rx.keep ht fun x hx e => ?_, h.rto.base, h.rto.tag, h.rto.touch.trans ht fun x _ e => ?_⟩
  · have := gtag gm e; rw [h.tm] at this; cases this
  · have := gtag gx e; rw [h.tx] at this; cases this
  · have h1 := gtag x e
    rcases h.dx x hx with h2 | h2 <;> (rw [h1] at h2; cases h2)
  · rcases Nat.lt_or_ge x w.heap.size with hx | hx
    · have h1 := gtag x e
      rw [h.rto.tag x hx] at h1
      exact .inr (.inr ⟨_, h1⟩)
    · exact .inl hx

/-- What stands behind the first 'if': the message in a box, the state with or without it. -/
structure Taken (w W : World) (q : Nat) (R : RLay) (S1 : NetS) (m : Msg) (gm : Nat) (mv : Value) (R1 : RLay) : Prop where
  ref : RefAt W q R1 S1
  rto : RTo w.heap.size w W R R1
  bm : Blk W gm 87 #[mv, .int .i64 m.length, .int .i64 m.heard]
  tm : R1.tag gm = .oth
  rm : Row W 9 1 mv (m.texts.map .string)
  dm : ∀ x, rowBlock mv = some x → R1.tag x = .data
  gw : w.heap.size ≤ gm

set_option maxRecDepth 100000 in
set_option maxHeartbeats 4000000 in
theorem deliver_ref_on {w : World} {q : Nat} {R : RLay} {S : NetS} (h : RefAt w q R S) (wf : Wf S) (a b : Nat) (lost again : Bool) (ha6 : a ≤ 1000) (hb6 : b ≤ 1000) (hdc : S.deliverC a b = true) :
    Calls Try.prog 18 #[ptr q, .int .i64 a, .int .i64 b, .bool lost, .bool again] w fun e w' => e = .returned (.bool true) ∧ RefPost w.heap.size w q R (S.deliver a b lost again) w' := by
  have c1 := pair_ref h a b ha6 hb6
  obtain ⟨hok, hoff, m, ms, hq⟩ := NetS.deliver_eq hdc
  obtain ⟨ha, hb, hne⟩ := NetS.okB_iff.1 hok
  rw [hok] at c1
  obtain ⟨S1, hS1⟩ : ∃ S1, S1 = if (lost || !again) then S.pop a b else S := ⟨_, rfl⟩
  have hdel := Lib.hid (show S.deliver a b lost again = if lost then S1 else S1.recv a b m from by
    unfold NetS.deliver
    rw [if_pos hok, if_neg (by rw [hoff]; simp), hq, hS1]
    cases lost <;> cases again <;> rfl)
  have hS1' := Lib.hid hS1
  have hmt : m.texts.length ≤ 1000 := Nat.le_trans (nodup_length _ _ (wf.msg a b ha hb m (by rw [hq]; simp)).1 (wf.msg a b ha hb m (by rw [hq]; simp)).2.1) wf.all
  have hmall := Lib.hid (show ∀ s ∈ m.texts, s ∈ S1.sets .all from by
    have h1 := (wf.msg a b ha hb m (by rw [hq]; simp)).2.1
    rw [hS1]; split <;> exact h1)
  have hm1 : m.length ≤ 1000 := (wf.msg a b ha hb m (by rw [hq]; simp)).2.2.1
  have hm2 : m.heard ≤ 1000 := (wf.msg a b ha hb m (by rw [hq]; simp)).2.2.2
  have wf1 : Wf S1 := by rw [hS1]; split; exact wf.pop a b; exact wf
  have hn1 : S1.n = S.n := by rw [hS1]; split <;> rfl
  have f1 := Lib.hid h.f1
  have f2 := Lib.hid h.f2
  have rO : RowN w 76 1 (R.val .off) S.n (fun i _ => R.val (.orow i)) := h.row .off trivial
  obtain ⟨ga, ka, hea⟩ := rO.elem ha (by omega)
  have hca := Lib.hid (RowN.one rO hea ha)
  have rA : RowN w 4 1 (R.val (.orow a)) S.n (fun j _ => .bool (S.off a j)) := h.row (.orow a) ha
  obtain ⟨go, ko, hex⟩ := rA.elem hb (by omega)
  have hcx := Lib.hid (RowN.one rA hex hb)
  rw [hoff] at hcx
  have hea' := Lib.hid hea
  have hex' := Lib.hid hex
  have rQ : RowN w 75 1 (R.val .queues) S.n (fun i _ => R.val (.qrow i)) := h.row .queues trivial
  obtain ⟨gq, kq, heq⟩ := rQ.elem ha (by omega)
  have hcq := Lib.hid (RowN.one rQ heq ha)
  have rB : RowN w 85 1 (R.val (.qrow a)) S.n (fun j _ => R.val (.q a j)) := h.row (.qrow a) ha
  obtain ⟨gz, kz, hez⟩ := rB.elem hb (by omega)
  have hcz := Lib.hid (RowN.one rB hez hb)
  have rM := h.row (.q a b) ⟨ha, hb⟩
  simp only [RowId.At] at rM
  have hql := Lib.hid (show (msgCells (msgVals R a b (S.queues a b).length) (S.queues a b)).length = (S.queues a b).length * 3 from msgCells_length _ _ (msgVals_length _ _ _ _))
  have hqp : 0 < (S.queues a b).length := by rw [hq]; simp
  have hqne : (((S.queues a b).length : Int) == 0) = false := by rw [beq_eq_false_iff_ne]; omega
  obtain ⟨gf, kf, hef⟩ := rM.elem (i := 0) (by rw [hql.out]; omega) (by omega)
  have rmv : Row w 9 1 (R.val (.msg a b 0)) (m.texts.map .string) := h.row (.msg a b 0) ⟨ha, hb, hqp⟩ m (by rw [hq]; rfl)
  have dmv := Lib.hid (show ∀ x, rowBlock (R.val (.msg a b 0)) = some x → R.tag x = .data from fun x hx => h.tag (.msg a b 0) ⟨ha, hb, hqp⟩ x hx)
  have hcf := Lib.hid (show ∀ j u, [R.val (.msg a b 0), .int .i64 m.length, .int .i64 m.heard][j]? = some u → w.cell? ((⟨gf, kf, none⟩ : Addr).add j) = some u from fun j u hu => by
    have hadd : (⟨gf, kf, none⟩ : Addr).add j = ⟨gf, kf + j, none⟩ := by unfold Addr.add; split <;> simp_all
    rw [hadd]
    refine hef.cell rM ?_
    have hj : j < 3 := by have := (List.getElem?_eq_some_iff.1 hu).1; simpa using this
    rw [hq]
    rcases j with _ | _ | _ | j
    · simpa [msgVals, List.range_succ_eq_map, msgCells] using hu
    · simpa [msgVals, List.range_succ_eq_map, msgCells] using hu
    · simpa [msgVals, List.range_succ_eq_map, msgCells] using hu
    · omega)
  have hone := Lib.hid (show ∀ u ∈ [R.val (.msg a b 0), .int .i64 m.length, .int .i64 m.heard], u.oneCell' = true from fun u hu => by
    simp only [List.mem_cons, List.not_mem_nil, or_false] at hu
    rcases hu with rfl | rfl | rfl
    · exact row_one rmv
    · rfl
    · rfl)
  have heq' := Lib.hid heq
  have hez' := Lib.hid hez
  have hef' := Lib.hid hef
  have hq' := Lib.hid hq
  have ha' := Lib.hid ha
  have hb' := Lib.hid hb
  have ntag := Lib.hid (h.fresh w.heap.size (Nat.le_refl _))
  generalize hmv : R.val (.msg a b 0) = mv at rmv dmv hcf hone
  clear hmv hok hdc hea hex rO rA hoff heq hez hef rQ hq hS1 ha hb hne
  go_enter Try.func18, Try.ntmps18
  ((first | go_at_call 36 | (go_wp2_with fail; go_at_call 36)); refine (c1).mono ?_; rintro _ _ ⟨rfl, rfl⟩)
  clear c1
  unfold ptr
  go_upto_region 4 with (first
    | ((with_reducible change wpList _ _ _ (Oper.mk _ (Op.load _ _) _ _ _ _ :: _) _ _); refine BigFrame.wpList_want rfl (fun K hK => ?_); refine op_load1 rfl rfl Try.ag69 f2.out ?_; refine hK _ _ ?_; clear hK K)
    | ((with_reducible change wpList _ _ _ (Oper.mk _ (Op.indexAddr _ _ _) _ _ _ _ :: _) _ _); refine BigFrame.wpList_want rfl (fun K hK => ?_); refine op_elem rfl rfl rfl Try.underlying69 Try.szE76 hea'.out ?_; refine hK _ _ ?_; clear hK K)
    | ((with_reducible change wpList _ _ _ (Oper.mk _ (Op.load _ _) _ _ _ _ :: _) _ _); refine BigFrame.wpList_want rfl (fun K hK => ?_); refine op_load1 rfl rfl Try.ag76 hca.out ?_; refine hK _ _ ?_; clear hK K)
    | ((with_reducible change wpList _ _ _ (Oper.mk _ (Op.indexAddr _ _ _) _ _ _ _ :: _) _ _); refine BigFrame.wpList_want rfl (fun K hK => ?_); refine op_elem rfl rfl rfl Try.underlying76 Try.szE4 hex'.out ?_; refine hK _ _ ?_; clear hK K)
    | ((with_reducible change wpList _ _ _ (Oper.mk _ (Op.load _ _) _ _ _ _ :: _) _ _); refine BigFrame.wpList_want rfl (fun K hK => ?_); refine op_load1 rfl rfl Try.ag4 hcx.out ?_; refine hK _ _ ?_; clear hK K)
    | ((with_reducible change wpList _ _ _ (Oper.mk _ (Op.load _ _) _ _ _ _ :: _) _ _); refine BigFrame.wpList_want rfl (fun K hK => ?_); refine op_load1 rfl rfl Try.ag68 f1.out ?_; refine hK _ _ ?_; clear hK K)
    | ((with_reducible change wpList _ _ _ (Oper.mk _ (Op.indexAddr _ _ _) _ _ _ _ :: _) _ _); refine BigFrame.wpList_want rfl (fun K hK => ?_); refine op_elem rfl rfl rfl Try.underlying68 Try.szE75 heq'.out ?_; refine hK _ _ ?_; clear hK K)
    | ((with_reducible change wpList _ _ _ (Oper.mk _ (Op.load _ _) _ _ _ _ :: _) _ _); refine BigFrame.wpList_want rfl (fun K hK => ?_); refine op_load1 rfl rfl Try.ag75 hcq.out ?_; refine hK _ _ ?_; clear hK K)
    | ((with_reducible change wpList _ _ _ (Oper.mk _ (Op.indexAddr _ _ _) _ _ _ _ :: _) _ _); refine BigFrame.wpList_want rfl (fun K hK => ?_); refine op_elem rfl rfl rfl Try.underlying75 Try.szE85 hez'.out ?_; refine hK _ _ ?_; clear hK K)
    | ((with_reducible change wpList _ _ _ (Oper.mk _ (Op.load _ _) _ _ _ _ :: _) _ _); refine BigFrame.wpList_want rfl (fun K hK => ?_); refine op_load1 rfl rfl Try.ag85 hcz.out ?_; refine hK _ _ ?_; clear hK K)
    | ((with_reducible change wpList _ _ _ (Oper.mk _ (Op.call (Call.mk (Callee.builtin Builtin.len) _ _)) _ _ _ _ :: _) _ _); refine BigFrame.wpList_want rfl (fun K hK => ?_); refine op_len_row rfl rfl Try.underlying85 rM (by omega) hql.out ?_; refine hK _ _ ?_; clear hK K)
    | ((with_reducible change wpList _ _ _ (Oper.mk _ (Op.indexAddr _ _ _) _ _ _ _ :: _) _ _); refine BigFrame.wpList_want rfl (fun K hK => ?_); refine op_elem (i := 0) rfl rfl rfl Try.underlying85 Try.szE87 hef'.out ?_; refine hK _ _ ?_; clear hK K)
    | ((with_reducible change wpList _ _ _ (Oper.mk _ (Op.load _ _) _ _ _ _ :: _) _ _); refine BigFrame.wpList_want rfl (fun K hK => ?_); refine op_loadN (p := ⟨gf, kf, none⟩) (vs := [mv, .int .i64 m.length, .int .i64 m.heard]) rfl rfl Try.ag87 Try.szE87 hcf.out ?_; refine hK _ _ ?_; clear hK K)
    | ((with_reducible change wpList _ _ _ (Oper.mk _ (Op.store _ _ _) _ _ _ _ :: _) _ _); refine BigFrame.wpList_want rfl (fun K hK => ?_); refine op_storeN (g := w.heap.size) (i := 0) (T := 87) (vs := [mv, .int .i64 m.length, .int .i64 m.heard]) rfl rfl rfl Try.szE87 hone.out (obj_new w _) (by simp) ?_; intro w2 hb2 ht2 hz2; refine hK _ _ ?_; clear hK K))
  have hE2 := Ext.new ht2
  have hb3 := hb2.storeAll rfl
  dsimp only [Act.put]
  go_cut [61] from 14 (fun u W => u = .bool (lost || !again) ∧ Ext w W ∧ Blk W w.heap.size 87 #[mv, .int .i64 m.length, .int .i64 m.heard])
  case first =>
    cases lost <;> cases again
    all_goals
      go_wp2_with fail
      go_meet
      case rel => exact ⟨rfl, hE2, hb3⟩
  case rest =>
    obtain ⟨rfl, hE, hbm⟩ := hcut
    clear hE2 hb3 hb2 ht2 hz2
    have gtag : ∀ x, rowBlock (R.val (.qrow a)) = some x → R.tag x = .row (.qrow a) := fun x hx => h.tag (.qrow a) ha'.out x hx
    have ngm : ¬ rowBlock (R.val (.qrow a)) = some w.heap.size := fun e => by have := gtag _ e; rw [ntag.out] at this; cases this
    have gtag := Lib.hid gtag
    have ngm := Lib.hid ngm
    go_upto_if 61 with fail
    go_cut [] from 14 (fun W => ∃ R1, Taken w W q R S1 m w.heap.size mv R1)
    case first =>
      cases hla : (lost || !again) with
      | true =>
        have hS2 := hS1'.out
        rw [hla, if_pos rfl] at hS2
        have hS2 := Lib.hid hS2
        have f1c := Lib.hid (hE.cell f1.out (fun h => h))
        have hcqc := Lib.hid (hE.cell hcq.out (fun h => h))
        have hczc := Lib.hid (hE.cell hcz.out (fun h => h))
        have rMd := (rM.keep hE (fun _ _ h => h)).drew
        have rBd := (rB.keep hE (fun _ _ h => h)).keep (F := fun _ => False) ((Touch.refl _ wc).drew) (fun _ _ h => h)
        clear hla hS1'
        go_wp2_with fail
        refine wp_region_rt (by kernel_rfl) [0, 1, 3, 7, 0, 31, 63, 0, 0, 256, 768, 1792, 0, 7936, 16128, 0, 65280, 130816, 261888, 524287, 1048575] (.rd 0 (.rd 1 (.rd 2 (.rd 3 (.rd 4 (.rd 5 (.rd 6 (.rd 7 (.rd 8 (.rd 9 (.rd 10 (.rd 11 (.rd 12 (.rd 13 (.rd 14 (.rd 15 (.rd 16 (.rd 17 (.rd 18 (.rd 19 (.e1 20 [] (.nil)))))))))))))))))))))) (by kernel_rfl) ?_
        iterate 3 (refine cw_rd rfl rfl rfl rfl rfl (fun K hK => ?_); go_wp2_with fail)
        (refine cw_rd rfl rfl rfl rfl rfl (fun K hK => ?_); refine op_load1 rfl rfl Try.ag68 (cell_drew f1c.out) ?_; refine op_norm rfl ?_; go_wp2_with fail)
        iterate 1 (refine cw_rd rfl rfl rfl rfl rfl (fun K hK => ?_); go_wp2_with fail)
        (refine cw_rd rfl rfl rfl rfl rfl (fun K hK => ?_); refine op_elem rfl rfl rfl Try.underlying68 Try.szE75 heq'.out ?_; refine op_norm rfl ?_; go_wp2_with fail)
        (refine cw_rd rfl rfl rfl rfl rfl (fun K hK => ?_); refine op_load1 rfl rfl Try.ag75 (cell_drew hcqc.out) ?_; refine op_norm rfl ?_; go_wp2_with fail)
        iterate 4 (refine cw_rd rfl rfl rfl rfl rfl (fun K hK => ?_); go_wp2_with fail)
        (refine cw_rd rfl rfl rfl rfl rfl (fun K hK => ?_); refine op_load1 rfl rfl Try.ag68 (cell_drew f1c.out) ?_; refine op_norm rfl ?_; go_wp2_with fail)
        iterate 1 (refine cw_rd rfl rfl rfl rfl rfl (fun K hK => ?_); go_wp2_with fail)
        (refine cw_rd rfl rfl rfl rfl rfl (fun K hK => ?_); refine op_elem rfl rfl rfl Try.underlying68 Try.szE75 heq'.out ?_; refine op_norm rfl ?_; go_wp2_with fail)
        (refine cw_rd rfl rfl rfl rfl rfl (fun K hK => ?_); refine op_load1 rfl rfl Try.ag75 (cell_drew hcqc.out) ?_; refine op_norm rfl ?_; go_wp2_with fail)
        iterate 1 (refine cw_rd rfl rfl rfl rfl rfl (fun K hK => ?_); go_wp2_with fail)
        (refine cw_rd rfl rfl rfl rfl rfl (fun K hK => ?_); refine op_elem rfl rfl rfl Try.underlying75 Try.szE85 hez'.out ?_; refine op_norm rfl ?_; go_wp2_with fail)
        (refine cw_rd rfl rfl rfl rfl rfl (fun K hK => ?_); refine op_load1 rfl rfl Try.ag85 (cell_drew hczc.out) ?_; refine op_norm rfl ?_; go_wp2_with fail)
        (refine cw_rd rfl rfl rfl rfl rfl (fun K hK => ?_); refine op_slice_row (k := 1) rfl rfl rfl Try.underlying85 Try.szE87 rMd (by rw [hql.out]; omega) (by omega) ?_; intro v2 hv2 hb2; refine op_norm rfl ?_; go_wp2_with fail)
        (refine cw_rd rfl rfl rfl rfl rfl (fun K hK => ?_); refine op_elem rfl rfl rfl Try.underlying75 Try.szE85 hez'.out ?_; refine op_norm rfl ?_; go_wp2_with fail)
        refine cw_e1 rfl rfl (fun K hK => ?_)
        refine op_store_rowN (d := 0) (u := v2) rfl rfl rfl Try.sz85 (row_one hv2) rBd hez'.out hb'.out (by omega) ?_
        intro wS hS tS
        refine op_done rfl ?_
        refine hK _ _ ?_
        clear hK K
        refine ⟨fl_none, ?_⟩
        refine cw_nil ?_
        go_wp2_with fail
        go_meet
        case rel =>
          obtain ⟨R1, r1, r2, r3⟩ := RefPost.pop h ha'.out hb'.out hq'.out hE.drew hv2 hb2 tS hS
          have nv : ∀ x, rowBlock v2 = some x → R.tag x = .data := fun x hx => h.tag (.q a b) ⟨ha'.out, hb'.out⟩ x (hb2 x hx)
          have nd : ∀ x, R.tag x = .data → ¬ rowBlock (R.val (.qrow a)) = some x := fun x hx e => by have := gtag.out x e; rw [hx] at this; cases this
          refine ⟨R1, by rw [hS2.out]; exact r1, r2, tS.obj hbm ngm.out, ?_, (rmv.keep hE.drew (fun _ _ h => h)).keep tS (fun x hx => nd x (dmv.out x hx)), fun x hx => ?_, Nat.le_refl _⟩
          · rw [r3, tagNew_old (v := v2) (b := w.heap.size) (fun e => by have := nv _ e; rw [ntag.out] at this; cases this), tagNew_old (v := .slice none 0 0) (by simp [rowBlock])]
            exact ntag.out
          · rw [r3]
            by_cases e : rowBlock v2 = some x
            · exact tagNew_new e
            · rw [tagNew_old e, tagNew_old (v := .slice none 0 0) (by simp [rowBlock])]
              exact dmv.out x hx
      | false =>
        have hS2 := hS1'.out
        rw [hla, if_neg (by simp)] at hS2
        have hS2 := Lib.hid hS2
        clear hS1' hla
        go_wp2_with fail
        go_meet
        case rel =>
          exact ⟨R, by rw [hS2.out]; exact h.ext hE, RTo.same (Nat.le_refl _) hE, hbm, ntag.out, rmv.keep hE (fun _ _ h => h), dmv.out, Nat.le_refl _⟩
    case rest =>
      clear hE hbm rM rB rmv dmv hcf hone hcz hcq hca hcx f1 f2 hql
      obtain ⟨R1, hk⟩ := hcut
      cases lost with
      | true =>
        have hd := hdel.out
        rw [if_pos rfl] at hd
        have hd := Lib.hid hd
        go_wp2_with fail
        go_ret
        exact ⟨rfl, by (first | rw [hd.out] | skip); exact ⟨R1, hk.ref, hk.rto⟩⟩
      | false =>
        have hd := hdel.out
        rw [if_neg (by simp)] at hd
        have hd := Lib.hid hd
        clear hdel h ntag gtag ngm heq' hez' hef' hea' hex' hqne hqp hq'
        have hbn : b < S1.n := by rw [hn1]; exact hb'.out
        have han : a < S1.n := by rw [hn1]; exact ha'.out
        have f0 := Lib.hid hk.ref.f0
        obtain ⟨gn, kn, hen⟩ := hk.ref.nodeElem hbn
        have hcn := Lib.hid (hk.ref.nodeCells hbn hen)
        have hen' := Lib.hid hen
        have hon := Lib.hid (hk.ref.nodeOne hbn)
        have rT := hk.ref.row (.texts b) hbn
        simp only [RowId.At] at rT
        have dT := Lib.hid (show ∀ x, rowBlock (R1.val (.texts b)) = some x → R1.tag x = .data from fun x hx => hk.ref.tag (.texts b) hbn x hx)
        have ntg := Lib.hid (hk.ref.fresh wc.heap.size (Nat.le_refl _))
        have hgs := Lib.hid hk.rto.touch.size
        clear hen
        go_upto_region 9 with (first
          | ((with_reducible change wpList _ _ _ (Oper.mk _ (Op.load _ _) _ _ _ _ :: _) _ _); refine BigFrame.wpList_want rfl (fun K hK => ?_); refine op_load1 rfl rfl Try.ag67 f0.out ?_; refine hK _ _ ?_; clear hK K)
          | ((with_reducible change wpList _ _ _ (Oper.mk _ (Op.indexAddr _ _ _) _ _ _ _ :: _) _ _); refine BigFrame.wpList_want rfl (fun K hK => ?_); refine op_elem rfl rfl rfl Try.underlying67 Try.szE74 hen'.out ?_; refine hK _ _ ?_; clear hK K)
          | ((with_reducible change wpList _ _ _ (Oper.mk _ (Op.load _ _) _ _ _ _ :: _) _ _); refine BigFrame.wpList_want rfl (fun K hK => ?_); refine op_loadN (p := ⟨gn, kn, none⟩) (vs := [R1.val (.texts b), R1.val (.heard b), R1.val (.known b), R1.val (.got b)]) rfl rfl Try.ag74 Try.szE74 hcn.out ?_; refine hK _ _ ?_; clear hK K)
          | ((with_reducible change wpList _ _ _ (Oper.mk _ (Op.store _ _ _) _ _ _ _ :: _) _ _); refine BigFrame.wpList_want rfl (fun K hK => ?_); refine op_storeN (g := wc.heap.size) (i := 0) (T := 74) (vs := [R1.val (.texts b), R1.val (.heard b), R1.val (.known b), R1.val (.got b)]) rfl rfl rfl Try.szE74 hon.out (obj_new wc _) (by simp) ?_; intro w2 hb2 ht2 hz2; refine hK _ _ ?_; clear hK K))
        have hE2 := Ext.new ht2
        have hb3 := hb2.storeAll rfl
        have hhas1 := wf1.has b hbn
        have hgot1 : S1.sets = updS S1.sets (.got b a) (S1.sets (.got b a)) := by funext x; unfold updS; split <;> simp_all
        have hD : DelR w w2 q R R1 S1 b a m w.heap.size wc.heap.size mv (R1.val (.texts b)) (S1.texts b) (S1.sets (.got b a)) :=
          ⟨by rw [← hgot1]; exact hk.ref.ext hE2, hk.rto.ext hE2, hE2.obj hk.bm (fun h => h), hk.tm, hk.rm.keep hE2 (fun _ _ h => h), hk.dm, hb3, ntg.out, rT.keep hE2 (fun _ _ h => h), fun x hx => .inr (dT.out x hx), Nat.le_refl _, hgs.out, fun x hx ho => by rw [dT.out x hx] at ho; cases ho⟩
        clear hgot1 hk rT dT ntg hcn hon f0 hen' hb2 ht2 hz2 hE2 hb3 hgs
        dsimp only [Act.put]
        generalize hgx : wc.heap.size = gx at hD ⊢
        clear hgx
        go_wp2_with fail
        have hmlen := Lib.hid (show (m.texts.map Value.string).length = m.texts.length * 1 from by simp)
        go_loopw [13] (fun u W => ∃ k : Nat, u = .int .i64 k ∧ k ≤ m.texts.length ∧ ∃ R2 vx, DelR w W q R R2 S1 b a m w.heap.size gx mv vx ((S1.recvs b a (m.texts.take k)).texts b) ((S1.recvs b a (m.texts.take k)).sets (.got b a))) (fun u _ => m.texts.length - (intOf u).toNat)
        case atStart => exact ⟨0, rfl, Nat.zero_le _, R1, _, by simpa [NetS.recvs] using hD⟩
        case round =>
          clear hD
          obtain ⟨k, rfl, hk, R2, vx, hr⟩ := hrel
          have hhas := NetS.recvs_has b a (m.texts.take k) S1 hhas1
          have hwT : Wf (S1.recvs b a (m.texts.take k)) := wf1.recvsAt _ fun s hs => hmall.out s (List.mem_of_mem_take hs)
          have hnT : (S1.recvs b a (m.texts.take k)).n = S1.n := NetS.recvs_n b a _ S1
          have hT6 : ((S1.recvs b a (m.texts.take k)).texts b).length ≤ 1000 := hwT.textsLen (by omega)
          have hG6 : ((S1.recvs b a (m.texts.take k)).sets (.got b a)).length ≤ 1000 := Nat.le_trans (nodup_length _ _ (hwT.gotN b a (by omega) (by omega)) (hwT.got b a (by omega) (by omega))) hwT.all
          clear hwT hnT
          have hm0 := Lib.hid (hr.bm.cell (i := 0) rfl)
          by_cases hlt : k < m.texts.length
          · have hstep := NetS.recvs_step S1 b a hlt
            have htx := NetS.recv1_texts (S1.recvs b a (m.texts.take k)) b a m.texts[k] hhas
            have hgt := NetS.recv1_got (S1.recvs b a (m.texts.take k)) b a m.texts[k]
            rw [← hstep] at htx hgt
            replace htx := Lib.hid htx
            replace hgt := Lib.hid hgt
            clear hstep hhas
            generalize (S1.recvs b a (m.texts.take k)).texts b = xs at hr htx hT6
            generalize (S1.recvs b a (m.texts.take k)).sets (.got b a) = ys at hr hgt hG6
            have hxb := Lib.hid (show (k + 1) * 1 ≤ (m.texts.map Value.string).length from by rw [hmlen.out]; omega)
            have hx := Lib.hid (show (m.texts.map Value.string)[k * 1 + 0]? = some (.string m.texts[k]) from by simp [hlt])
            obtain ⟨ge, ke, hee⟩ := hr.rm.elem hxb.out (by omega)
            have hee' := Lib.hid hee
            have hxc := Lib.hid (show wr.cell? ⟨ge, ke, none⟩ = some (.string m.texts[k]) from hee.cell hr.rm hx.out)
            have hb0 := Lib.hid (hr.bx.cell (i := 0) rfl)
            have cin := in_contract (w := wr.drew) m.texts[k] hr.rx.drew (by omega)
            clear hee
            generalize hs : m.texts[k] = s at htx hgt hx hxc cin
            clear hs
            go_wp2_with (first
              | ((with_reducible change wpList _ _ _ (Oper.mk _ (Op.load _ _) _ _ _ _ :: _) _ _); refine BigFrame.wpList_want rfl (fun K hK => ?_); refine op_load1 rfl rfl Try.ag39 hm0.out ?_; refine hK _ _ ?_; clear hK K)
              | ((with_reducible change wpList _ _ _ (Oper.mk _ (Op.call (Call.mk (Callee.builtin Builtin.len) _ _)) _ _ _ _ :: _) _ _); refine BigFrame.wpList_want rfl (fun K hK => ?_); refine op_len_row rfl rfl Try.underlying39 hr.rm (by omega) hmlen.out ?_; refine hK _ _ ?_; clear hK K))
            refine wp_region_rt (by kernel_rfl) [0, 1, 0, 4, 0, 28, 60, 127, 255] (.rd 0 (.rd 1 (.rd 2 (.rd 3 (.rd 4 (.rd 5 (.rd 6 (.e1 7 [] (.rd 8 (.nil)))))))))) (by kernel_rfl) ?_
            iterate 1 (refine cw_rd rfl rfl rfl rfl rfl (fun K hK => ?_); go_wp2_with fail)
            (refine cw_rd rfl rfl rfl rfl rfl (fun K hK => ?_); refine op_load1 rfl rfl Try.ag39 (cell_drew hb0.out) ?_; refine op_norm rfl ?_; go_wp2_with fail)
            iterate 1 (refine cw_rd rfl rfl rfl rfl rfl (fun K hK => ?_); go_wp2_with fail)
            (refine cw_rd rfl rfl rfl rfl rfl (fun K hK => ?_); refine op_load1 rfl rfl Try.ag39 (cell_drew hm0.out) ?_; refine op_norm rfl ?_; go_wp2_with fail)
            iterate 1 (refine cw_rd rfl rfl rfl rfl rfl (fun K hK => ?_); go_wp2_with fail)
            (refine cw_rd rfl rfl rfl rfl rfl (fun K hK => ?_); refine op_elem rfl rfl rfl Try.underlying39 Try.szE9 hee'.out ?_; refine op_norm rfl ?_; go_wp2_with fail)
            (refine cw_rd rfl rfl rfl rfl rfl (fun K hK => ?_); refine op_load1 rfl rfl Try.ag9 (cell_drew hxc.out) ?_; refine op_norm rfl ?_; go_wp2_with fail)
            refine cw_e1 rfl rfl (fun K hK => ?_)
            go_wp2_with (first | (go_at_call 29; refine cin.mono ?_; rintro _ _ ⟨rfl, rfl⟩))
            refine ⟨fl_none, ?_⟩
            iterate 1 (refine cw_rd rfl rfl rfl rfl rfl (fun K hK => ?_); go_wp2_with fail)
            refine cw_nil ?_
            clear cin
            have hrd := hr.ext ((Touch.refl _ wr).drew)
            go_upto_if 105 with fail
            go_cut [] from 90 to 147 (fun W => ∃ R3 vx', DelR w W q R R3 S1 b a m w.heap.size gx mv vx' ((S1.recvs b a (m.texts.take (k + 1))).texts b) ys)
            case first =>
              cases hib : inB s xs with
              | true =>
                go_wp2_with fail
                go_meet
                case rel =>
                  have hin : s ∈ xs := by
                    by_cases hin : s ∈ xs
                    · exact hin
                    · rw [inB_false hin] at hib; cases hib
                  rw [htx.out, if_pos hin]
                  exact ⟨R2, vx, hrd⟩
              | false =>
                have hin := Lib.hid (show s ∉ xs from fun hin => by rw [inB_true hin] at hib; cases hib)
                clear hib
                have m0 := Lib.hid (cell_drew hm0.out)
                have b0 := Lib.hid (cell_drew hb0.out)
                have xc := Lib.hid (cell_drew hxc.out)
                generalize wr.drew = W1 at hrd m0 b0 xc
                go_wp2_with fail
                refine wp_region_rt (by kernel_rfl) [0, 0, 2, 7, 0, 16, 0, 112, 240, 496, 1023, 2047, 4095] (.rd 1 (.rd 2 (.rd 4 (.rd 5 (.rd 6 (.rd 7 (.rd 8 (.e2 0 [1, 2, 4, 5, 7, 8] (.e2 3 [4, 5, 7, 8] (.e1 9 [1, 2] (.e1 10 [] (.rd 11 (.e1 12 [] (.nil))))) 9 [1, 2] (.e1 3 [4, 5, 7, 8] (.e1 10 [] (.rd 11 (.e1 12 [] (.nil)))))) 9 [1, 2] (.e1 0 [1, 2, 4, 5, 7, 8] (.e1 3 [4, 5, 7, 8] (.e1 10 [] (.rd 11 (.e1 12 [] (.nil)))))))))))))) (by kernel_rfl) ?_
                iterate 1 (refine cw_rd rfl rfl rfl rfl rfl (fun K hK => ?_); go_wp2_with fail)
                (refine cw_rd rfl rfl rfl rfl rfl (fun K hK => ?_); refine op_load1 rfl rfl Try.ag39 (cell_drew b0.out) ?_; refine op_norm rfl ?_; go_wp2_with fail)
                iterate 1 (refine cw_rd rfl rfl rfl rfl rfl (fun K hK => ?_); go_wp2_with fail)
                (refine cw_rd rfl rfl rfl rfl rfl (fun K hK => ?_); refine op_load1 rfl rfl Try.ag39 (cell_drew m0.out) ?_; refine op_norm rfl ?_; go_wp2_with fail)
                iterate 1 (refine cw_rd rfl rfl rfl rfl rfl (fun K hK => ?_); go_wp2_with fail)
                (refine cw_rd rfl rfl rfl rfl rfl (fun K hK => ?_); refine op_elem rfl rfl rfl Try.underlying39 Try.szE9 hee'.out ?_; refine op_norm rfl ?_; go_wp2_with fail)
                (refine cw_rd rfl rfl rfl rfl rfl (fun K hK => ?_); refine op_load1 rfl rfl Try.ag9 (cell_drew xc.out) ?_; refine op_norm rfl ?_; go_wp2_with fail)
                have hE : Ext W1 W1.drew := (Touch.refl _ W1).drew
                obtain ⟨i9, hi9, hz9, hsz9, _⟩ := info_parts Try.in9
                have hzc9 : (Value.string ⟨#[]⟩).cells.size = 1 := rfl
                refine cw_e2 ?_ ?_
                · refine cw_e1 rfl rfl (fun K hK => ?_)
                  refine op_build0 rfl Try.underlying39 hi9 ?_
                  intro vE wE rE nE xE
                  refine op_norm rfl ?_
                  go_wp2_with fail
                  try replace rT1 := rT1.keep xE (fun _ _ h => h)
                  replace hE := hE.then_ext xE
                  rw [hsz9] at rE
                  have oE : Own _ _ vE [] := ⟨rE, (fun b hb => by rw [nE] at hb; cases hb), hE⟩
                  clear rE xE
                  refine ⟨?_, ?_⟩
                  · (repeat (first | exact fl_nil | refine fl_skip rfl ?_ | (refine fl_take rfl ?_ ?_; (refine yldI_of rfl rfl ?_; first | exact run_ld rfl rfl Try.ag39 (hE.cell b0.out (fun h => h)) | exact run_ld rfl rfl Try.ag39 (hE.cell m0.out (fun h => h)) | exact run_ld rfl rfl Try.ag9 (hE.cell xc.out (fun h => h)) | exact run_el rfl rfl rfl Try.underlying39 Try.szE9 hee'.out |  go_simp))))
                  refine cw_e2 ?_ ?_
                  · refine cw_e1 rfl rfl (fun K hK => ?_)
                    refine op_append_texts rfl rfl rfl oE (hrd.rx.keep hE (fun _ _ h => h)) (by simp only [List.length_nil]; omega) ?_
                    intro vA wA oA tA
                    refine op_norm rfl ?_
                    go_wp2_with fail
                    try replace rT1 := rT1.keep (ext_none nE tA) (fun _ _ h => h)
                    replace hE := oA.ext
                    clear tA oE nE
                    refine ⟨?_, ?_⟩
                    · (repeat (first | exact fl_nil | refine fl_skip rfl ?_ | (refine fl_take rfl ?_ ?_; (refine yldI_of rfl rfl ?_; first | exact run_ld rfl rfl Try.ag39 (hE.cell b0.out (fun h => h)) | exact run_ld rfl rfl Try.ag39 (hE.cell m0.out (fun h => h)) | exact run_ld rfl rfl Try.ag9 (hE.cell xc.out (fun h => h)) | exact run_el rfl rfl rfl Try.underlying39 Try.szE9 hee'.out |  go_simp))))
                    refine cw_e1 rfl rfl (fun K hK => ?_)
                    refine op_build1 (v := .string s) rfl rfl Try.underlying39 hi9 hz9 hsz9 hzc9 rfl ?_
                    intro vT wT rT1 fT xT
                    refine op_norm rfl ?_
                    go_wp2_with fail
                    try replace oE := oE.then xT
                    try replace oA := oA.then xT
                    replace hE := hE.then_ext xT
                    clear xT fT
                    refine ⟨?_, ?_⟩
                    · (repeat (first | exact fl_nil | refine fl_skip rfl ?_ | (refine fl_take rfl ?_ ?_; (refine yldI_of rfl rfl ?_; first | exact run_ld rfl rfl Try.ag39 (hE.cell b0.out (fun h => h)) | exact run_ld rfl rfl Try.ag39 (hE.cell m0.out (fun h => h)) | exact run_ld rfl rfl Try.ag9 (hE.cell xc.out (fun h => h)) | exact run_el rfl rfl rfl Try.underlying39 Try.szE9 hee'.out |  go_simp))))
                    refine cw_e1 rfl rfl (fun K hK => ?_)
                    refine op_append_texts (ys := [s]) rfl rfl rfl oA rT1 (by simp only [List.nil_append, List.length_cons, List.length_nil]; omega) ?_
                    intro vB wB oB tB
                    refine op_norm rfl ?_
                    go_wp2_with fail
                    replace hE := oB.ext
                    rw [List.nil_append] at oB
                    clear tB oA rT1
                    refine ⟨?_, ?_⟩
                    · (repeat (first | exact fl_nil | refine fl_skip rfl ?_ | (refine fl_take rfl ?_ ?_; (refine yldI_of rfl rfl ?_; first | exact run_ld rfl rfl Try.ag39 (hE.cell b0.out (fun h => h)) | exact run_ld rfl rfl Try.ag39 (hE.cell m0.out (fun h => h)) | exact run_ld rfl rfl Try.ag9 (hE.cell xc.out (fun h => h)) | exact run_el rfl rfl rfl Try.underlying39 Try.szE9 hee'.out |  go_simp))))
                    iterate 1 (refine cw_rd rfl rfl rfl rfl rfl (fun K hK => ?_); go_wp2_with fail)
                    refine cw_e1 rfl rfl (fun K hK => ?_)
                    refine op_store1 (g := gx) (i := 0) (T := 74) (v := vB) rfl rfl rfl Try.sz39 (row_one oB.row) (hE.obj hrd.bx (fun h => h)) (by simp) ?_
                    intro wS hS tS zS
                    refine op_done rfl ?_
                    refine hK _ _ ?_
                    clear hK K
                    refine ⟨fl_none, ?_⟩
                    refine cw_nil ?_
                    go_wp2_with fail
                    go_meet
                    case rel =>
                      rw [htx.out, if_neg hin.out]
                      exact ⟨R2, vB, hrd.text oB tS hS⟩
                  · refine cw_e1 rfl rfl (fun K hK => ?_)
                    refine op_build1 (v := .string s) rfl rfl Try.underlying39 hi9 hz9 hsz9 hzc9 rfl ?_
                    intro vT wT rT1 fT xT
                    refine op_norm rfl ?_
                    go_wp2_with fail
                    try replace oE := oE.then xT
                    try replace oA := oA.then xT
                    replace hE := hE.then_ext xT
                    clear xT fT
                    refine ⟨?_, ?_⟩
                    · (repeat (first | exact fl_nil | refine fl_skip rfl ?_ | (refine fl_take rfl ?_ ?_; (refine yldI_of rfl rfl ?_; first | exact run_ld rfl rfl Try.ag39 (hE.cell b0.out (fun h => h)) | exact run_ld rfl rfl Try.ag39 (hE.cell m0.out (fun h => h)) | exact run_ld rfl rfl Try.ag9 (hE.cell xc.out (fun h => h)) | exact run_el rfl rfl rfl Try.underlying39 Try.szE9 hee'.out |  go_simp))))
                    refine cw_e1 rfl rfl (fun K hK => ?_)
                    refine op_append_texts rfl rfl rfl oE (hrd.rx.keep hE (fun _ _ h => h)) (by simp only [List.length_nil]; omega) ?_
                    intro vA wA oA tA
                    refine op_norm rfl ?_
                    go_wp2_with fail
                    try replace rT1 := rT1.keep (ext_none nE tA) (fun _ _ h => h)
                    replace hE := oA.ext
                    clear tA oE nE
                    refine ⟨?_, ?_⟩
                    · (repeat (first | exact fl_nil | refine fl_skip rfl ?_ | (refine fl_take rfl ?_ ?_; (refine yldI_of rfl rfl ?_; first | exact run_ld rfl rfl Try.ag39 (hE.cell b0.out (fun h => h)) | exact run_ld rfl rfl Try.ag39 (hE.cell m0.out (fun h => h)) | exact run_ld rfl rfl Try.ag9 (hE.cell xc.out (fun h => h)) | exact run_el rfl rfl rfl Try.underlying39 Try.szE9 hee'.out |  go_simp))))
                    refine cw_e1 rfl rfl (fun K hK => ?_)
                    refine op_append_texts (ys := [s]) rfl rfl rfl oA rT1 (by simp only [List.nil_append, List.length_cons, List.length_nil]; omega) ?_
                    intro vB wB oB tB
                    refine op_norm rfl ?_
                    go_wp2_with fail
                    replace hE := oB.ext
                    rw [List.nil_append] at oB
                    clear tB oA rT1
                    refine ⟨?_, ?_⟩
                    · (repeat (first | exact fl_nil | refine fl_skip rfl ?_ | (refine fl_take rfl ?_ ?_; (refine yldI_of rfl rfl ?_; first | exact run_ld rfl rfl Try.ag39 (hE.cell b0.out (fun h => h)) | exact run_ld rfl rfl Try.ag39 (hE.cell m0.out (fun h => h)) | exact run_ld rfl rfl Try.ag9 (hE.cell xc.out (fun h => h)) | exact run_el rfl rfl rfl Try.underlying39 Try.szE9 hee'.out |  go_simp))))
                    iterate 1 (refine cw_rd rfl rfl rfl rfl rfl (fun K hK => ?_); go_wp2_with fail)
                    refine cw_e1 rfl rfl (fun K hK => ?_)
                    refine op_store1 (g := gx) (i := 0) (T := 74) (v := vB) rfl rfl rfl Try.sz39 (row_one oB.row) (hE.obj hrd.bx (fun h => h)) (by simp) ?_
                    intro wS hS tS zS
                    refine op_done rfl ?_
                    refine hK _ _ ?_
                    clear hK K
                    refine ⟨fl_none, ?_⟩
                    refine cw_nil ?_
                    go_wp2_with fail
                    go_meet
                    case rel =>
                      rw [htx.out, if_neg hin.out]
                      exact ⟨R2, vB, hrd.text oB tS hS⟩
                · refine cw_e1 rfl rfl (fun K hK => ?_)
                  refine op_build1 (v := .string s) rfl rfl Try.underlying39 hi9 hz9 hsz9 hzc9 rfl ?_
                  intro vT wT rT1 fT xT
                  refine op_norm rfl ?_
                  go_wp2_with fail
                  try replace oE := oE.then xT
                  try replace oA := oA.then xT
                  replace hE := hE.then_ext xT
                  clear xT fT
                  refine ⟨?_, ?_⟩
                  · (repeat (first | exact fl_nil | refine fl_skip rfl ?_ | (refine fl_take rfl ?_ ?_; (refine yldI_of rfl rfl ?_; first | exact run_ld rfl rfl Try.ag39 (hE.cell b0.out (fun h => h)) | exact run_ld rfl rfl Try.ag39 (hE.cell m0.out (fun h => h)) | exact run_ld rfl rfl Try.ag9 (hE.cell xc.out (fun h => h)) | exact run_el rfl rfl rfl Try.underlying39 Try.szE9 hee'.out |  go_simp))))
                  refine cw_e1 rfl rfl (fun K hK => ?_)
                  refine op_build0 rfl Try.underlying39 hi9 ?_
                  intro vE wE rE nE xE
                  refine op_norm rfl ?_
                  go_wp2_with fail
                  try replace rT1 := rT1.keep xE (fun _ _ h => h)
                  replace hE := hE.then_ext xE
                  rw [hsz9] at rE
                  have oE : Own _ _ vE [] := ⟨rE, (fun b hb => by rw [nE] at hb; cases hb), hE⟩
                  clear rE xE
                  refine ⟨?_, ?_⟩
                  · (repeat (first | exact fl_nil | refine fl_skip rfl ?_ | (refine fl_take rfl ?_ ?_; (refine yldI_of rfl rfl ?_; first | exact run_ld rfl rfl Try.ag39 (hE.cell b0.out (fun h => h)) | exact run_ld rfl rfl Try.ag39 (hE.cell m0.out (fun h => h)) | exact run_ld rfl rfl Try.ag9 (hE.cell xc.out (fun h => h)) | exact run_el rfl rfl rfl Try.underlying39 Try.szE9 hee'.out |  go_simp))))
                  refine cw_e1 rfl rfl (fun K hK => ?_)
                  refine op_append_texts rfl rfl rfl oE (hrd.rx.keep hE (fun _ _ h => h)) (by simp only [List.length_nil]; omega) ?_
                  intro vA wA oA tA
                  refine op_norm rfl ?_
                  go_wp2_with fail
                  try replace rT1 := rT1.keep (ext_none nE tA) (fun _ _ h => h)
                  replace hE := oA.ext
                  clear tA oE nE
                  refine ⟨?_, ?_⟩
                  · (repeat (first | exact fl_nil | refine fl_skip rfl ?_ | (refine fl_take rfl ?_ ?_; (refine yldI_of rfl rfl ?_; first | exact run_ld rfl rfl Try.ag39 (hE.cell b0.out (fun h => h)) | exact run_ld rfl rfl Try.ag39 (hE.cell m0.out (fun h => h)) | exact run_ld rfl rfl Try.ag9 (hE.cell xc.out (fun h => h)) | exact run_el rfl rfl rfl Try.underlying39 Try.szE9 hee'.out |  go_simp))))
                  refine cw_e1 rfl rfl (fun K hK => ?_)
                  refine op_append_texts (ys := [s]) rfl rfl rfl oA rT1 (by simp only [List.nil_append, List.length_cons, List.length_nil]; omega) ?_
                  intro vB wB oB tB
                  refine op_norm rfl ?_
                  go_wp2_with fail
                  replace hE := oB.ext
                  rw [List.nil_append] at oB
                  clear tB oA rT1
                  refine ⟨?_, ?_⟩
                  · (repeat (first | exact fl_nil | refine fl_skip rfl ?_ | (refine fl_take rfl ?_ ?_; (refine yldI_of rfl rfl ?_; first | exact run_ld rfl rfl Try.ag39 (hE.cell b0.out (fun h => h)) | exact run_ld rfl rfl Try.ag39 (hE.cell m0.out (fun h => h)) | exact run_ld rfl rfl Try.ag9 (hE.cell xc.out (fun h => h)) | exact run_el rfl rfl rfl Try.underlying39 Try.szE9 hee'.out |  go_simp))))
                  iterate 1 (refine cw_rd rfl rfl rfl rfl rfl (fun K hK => ?_); go_wp2_with fail)
                  refine cw_e1 rfl rfl (fun K hK => ?_)
                  refine op_store1 (g := gx) (i := 0) (T := 74) (v := vB) rfl rfl rfl Try.sz39 (row_one oB.row) (hE.obj hrd.bx (fun h => h)) (by simp) ?_
                  intro wS hS tS zS
                  refine op_done rfl ?_
                  refine hK _ _ ?_
                  clear hK K
                  refine ⟨fl_none, ?_⟩
                  refine cw_nil ?_
                  go_wp2_with fail
                  go_meet
                  case rel =>
                    rw [htx.out, if_neg hin.out]
                    exact ⟨R2, vB, hrd.text oB tS hS⟩
            case rest =>
              clear hrd hr hm0 hb0 hxc htx
              obtain ⟨R3, vx', hr⟩ := hcut
              obtain ⟨xs', hxs⟩ : ∃ xs', (S1.recvs b a (m.texts.take (k + 1))).texts b = xs' := ⟨_, rfl⟩
              rw [hxs] at hr
              replace hxs := Lib.hid hxs
              have hbn2 : b < ({ S1 with sets := updS S1.sets (.got b a) ys } : NetS).n := hbn
              have rG : RowN wc 39 1 (R3.val (.got b)) S1.n (fun j _ => R3.val (.gotT b j)) := hr.ref.row (.got b) hbn
              obtain ⟨gg, kg, heg⟩ := rG.elem han (by omega)
              have heg' := Lib.hid heg
              have hcg := Lib.hid (RowN.one rG heg han)
              have rY := hr.ref.row (.gotT b a) ⟨hbn, han⟩
              simp only [RowId.At] at rY
              rw [show updS S1.sets (.got b a) ys (.got b a) = ys from by simp [updS]] at rY
              have b3 := Lib.hid (hr.bx.cell (i := 3) rfl)
              have m0 := Lib.hid (hr.bm.cell (i := 0) rfl)
              have xc := Lib.hid (show wc.cell? ⟨ge, ke, none⟩ = some (.string s) from hee'.out.cell hr.rm hx.out)
              have cin := in_contract (w := wc.drew) s rY.drew (by omega)
              clear heg
              go_wp2_with fail
              refine wp_region_rt (by kernel_rfl) [0, 1, 0, 7, 15, 0, 32, 0, 224, 480, 1023, 2047] (.rd 0 (.rd 1 (.rd 2 (.rd 3 (.rd 4 (.rd 5 (.rd 6 (.rd 7 (.rd 8 (.rd 9 (.e1 10 [] (.rd 11 (.nil))))))))))))) (by kernel_rfl) ?_
              iterate 1 (refine cw_rd rfl rfl rfl rfl rfl (fun K hK => ?_); go_wp2_with fail)
              (refine cw_rd rfl rfl rfl rfl rfl (fun K hK => ?_); refine op_load1 rfl rfl Try.ag45 (cell_drew b3.out) ?_; refine op_norm rfl ?_; go_wp2_with fail)
              iterate 1 (refine cw_rd rfl rfl rfl rfl rfl (fun K hK => ?_); go_wp2_with fail)
              (refine cw_rd rfl rfl rfl rfl rfl (fun K hK => ?_); refine op_elem rfl rfl rfl Try.underlying45 Try.szE39 heg'.out ?_; refine op_norm rfl ?_; go_wp2_with fail)
              (refine cw_rd rfl rfl rfl rfl rfl (fun K hK => ?_); refine op_load1 rfl rfl Try.ag39 (cell_drew hcg.out) ?_; refine op_norm rfl ?_; go_wp2_with fail)
              iterate 1 (refine cw_rd rfl rfl rfl rfl rfl (fun K hK => ?_); go_wp2_with fail)
              (refine cw_rd rfl rfl rfl rfl rfl (fun K hK => ?_); refine op_load1 rfl rfl Try.ag39 (cell_drew m0.out) ?_; refine op_norm rfl ?_; go_wp2_with fail)
              iterate 1 (refine cw_rd rfl rfl rfl rfl rfl (fun K hK => ?_); go_wp2_with fail)
              (refine cw_rd rfl rfl rfl rfl rfl (fun K hK => ?_); refine op_elem rfl rfl rfl Try.underlying39 Try.szE9 hee'.out ?_; refine op_norm rfl ?_; go_wp2_with fail)
              (refine cw_rd rfl rfl rfl rfl rfl (fun K hK => ?_); refine op_load1 rfl rfl Try.ag9 (cell_drew xc.out) ?_; refine op_norm rfl ?_; go_wp2_with fail)
              refine cw_e1 rfl rfl (fun K hK => ?_)
              go_wp2_with (first | (go_at_call 29; refine cin.mono ?_; rintro _ _ ⟨rfl, rfl⟩))
              refine ⟨fl_none, ?_⟩
              iterate 1 (refine cw_rd rfl rfl rfl rfl rfl (fun K hK => ?_); go_wp2_with fail)
              refine cw_nil ?_
              clear cin
              have hED : Ext wc wc.drew := (Touch.refl _ wc).drew
              have hrd := hr.ext hED
              have b3 := Lib.hid (cell_drew b3.out)
              have m0 := Lib.hid (cell_drew m0.out)
              have xc := Lib.hid (cell_drew xc.out)
              have hcg := Lib.hid (cell_drew hcg.out)
              replace rG := rG.keep hED (fun _ _ h => h)
              replace rY := rY.keep hED (fun _ _ h => h)
              clear hED hr
              generalize wc.drew = W1 at hrd b3 m0 xc hcg rG rY ⊢
              go_upto_if 129 with fail
              cases hib : inB s ys with
              | true =>
                have hin : s ∈ ys := by
                  by_cases hin : s ∈ ys
                  · exact hin
                  · rw [inB_false hin] at hib; cases hib
                have hfin := hgt.out
                rw [if_pos hin] at hfin
                have hfin := Lib.hid (show DelR w W1 q R R3 S1 b a m w.heap.size gx mv vx' xs' ((S1.recvs b a (m.texts.take (k + 1))).sets (.got b a)) from by rw [hfin]; exact hrd)
                clear hin hib
                go_wp2_with fail
                exact ⟨⟨k + 1, by go_num, hlt, R3, vx', by rw [hxs.out]; exact hfin.out⟩, by simp [intOf]; omega⟩
              | false =>
                have hin := Lib.hid (show s ∉ ys from fun hin => by rw [inB_true hin] at hib; cases hib)
                clear hib
                go_wp2_with fail
                refine wp_region_rt (by kernel_rfl) [0, 1, 0, 0, 0, 16, 0, 112, 240, 504, 0, 1024, 0, 7168, 15360, 31744, 65528, 131071, 262143] (.rd 0 (.rd 1 (.rd 2 (.rd 4 (.rd 5 (.rd 6 (.rd 7 (.rd 8 (.rd 10 (.rd 11 (.rd 12 (.rd 13 (.rd 14 (.e2 3 [0, 1, 4, 5, 7, 8, 10, 11, 13, 14] (.e2 9 [0, 1, 10, 11, 13, 14] (.e1 15 [0, 1, 4, 5, 7, 8] (.e1 16 [0, 1] (.rd 17 (.e1 18 [] (.nil))))) 15 [0, 1, 4, 5, 7, 8] (.e1 9 [0, 1, 10, 11, 13, 14] (.e1 16 [0, 1] (.rd 17 (.e1 18 [] (.nil)))))) 15 [0, 1, 4, 5, 7, 8] (.e1 3 [0, 1, 4, 5, 7, 8, 10, 11, 13, 14] (.e1 9 [0, 1, 10, 11, 13, 14] (.e1 16 [0, 1] (.rd 17 (.e1 18 [] (.nil)))))))))))))))))))) (by kernel_rfl) ?_
                iterate 1 (refine cw_rd rfl rfl rfl rfl rfl (fun K hK => ?_); go_wp2_with fail)
                (refine cw_rd rfl rfl rfl rfl rfl (fun K hK => ?_); refine op_load1 rfl rfl Try.ag45 (cell_drew b3.out) ?_; refine op_norm rfl ?_; go_wp2_with fail)
                iterate 2 (refine cw_rd rfl rfl rfl rfl rfl (fun K hK => ?_); go_wp2_with fail)
                (refine cw_rd rfl rfl rfl rfl rfl (fun K hK => ?_); refine op_load1 rfl rfl Try.ag45 (cell_drew b3.out) ?_; refine op_norm rfl ?_; go_wp2_with fail)
                iterate 1 (refine cw_rd rfl rfl rfl rfl rfl (fun K hK => ?_); go_wp2_with fail)
                (refine cw_rd rfl rfl rfl rfl rfl (fun K hK => ?_); refine op_elem rfl rfl rfl Try.underlying45 Try.szE39 heg'.out ?_; refine op_norm rfl ?_; go_wp2_with fail)
                (refine cw_rd rfl rfl rfl rfl rfl (fun K hK => ?_); refine op_load1 rfl rfl Try.ag39 (cell_drew hcg.out) ?_; refine op_norm rfl ?_; go_wp2_with fail)
                iterate 1 (refine cw_rd rfl rfl rfl rfl rfl (fun K hK => ?_); go_wp2_with fail)
                (refine cw_rd rfl rfl rfl rfl rfl (fun K hK => ?_); refine op_load1 rfl rfl Try.ag39 (cell_drew m0.out) ?_; refine op_norm rfl ?_; go_wp2_with fail)
                iterate 1 (refine cw_rd rfl rfl rfl rfl rfl (fun K hK => ?_); go_wp2_with fail)
                (refine cw_rd rfl rfl rfl rfl rfl (fun K hK => ?_); refine op_elem rfl rfl rfl Try.underlying39 Try.szE9 hee'.out ?_; refine op_norm rfl ?_; go_wp2_with fail)
                (refine cw_rd rfl rfl rfl rfl rfl (fun K hK => ?_); refine op_load1 rfl rfl Try.ag9 (cell_drew xc.out) ?_; refine op_norm rfl ?_; go_wp2_with fail)
                have hE : Ext W1 W1.drew := (Touch.refl _ W1).drew
                obtain ⟨i9, hi9, hz9, hsz9, _⟩ := info_parts Try.in9
                have hzc9 : (Value.string ⟨#[]⟩).cells.size = 1 := rfl
                refine cw_e2 ?_ ?_
                · refine cw_e1 rfl rfl (fun K hK => ?_)
                  refine op_build0 rfl Try.underlying39 hi9 ?_
                  intro vE wE rE nE xE
                  refine op_norm rfl ?_
                  go_wp2_with fail
                  try replace rT1 := rT1.keep xE (fun _ _ h => h)
                  replace hE := hE.then_ext xE
                  rw [hsz9] at rE
                  have oE : Own _ _ vE [] := ⟨rE, (fun b hb => by rw [nE] at hb; cases hb), hE⟩
                  clear rE xE
                  refine ⟨?_, ?_⟩
                  · (repeat (first | exact fl_nil | refine fl_skip rfl ?_ | (refine fl_take rfl ?_ ?_; (refine yldI_of rfl rfl ?_; first | exact run_ld rfl rfl Try.ag45 (hE.cell b3.out (fun h => h)) | exact run_ld rfl rfl Try.ag39 (hE.cell hcg.out (fun h => h)) | exact run_ld rfl rfl Try.ag39 (hE.cell m0.out (fun h => h)) | exact run_ld rfl rfl Try.ag9 (hE.cell xc.out (fun h => h)) | exact run_el rfl rfl rfl Try.underlying39 Try.szE9 hee'.out | exact run_el rfl rfl rfl Try.underlying45 Try.szE39 heg'.out |  go_simp))))
                  refine cw_e2 ?_ ?_
                  · refine cw_e1 rfl rfl (fun K hK => ?_)
                    refine op_append_texts rfl rfl rfl oE (rY.keep hE (fun _ _ h => h)) (by simp only [List.length_nil]; omega) ?_
                    intro vA wA oA tA
                    refine op_norm rfl ?_
                    go_wp2_with fail
                    try replace rT1 := rT1.keep (ext_none nE tA) (fun _ _ h => h)
                    replace hE := oA.ext
                    clear tA oE nE
                    refine ⟨?_, ?_⟩
                    · (repeat (first | exact fl_nil | refine fl_skip rfl ?_ | (refine fl_take rfl ?_ ?_; (refine yldI_of rfl rfl ?_; first | exact run_ld rfl rfl Try.ag45 (hE.cell b3.out (fun h => h)) | exact run_ld rfl rfl Try.ag39 (hE.cell hcg.out (fun h => h)) | exact run_ld rfl rfl Try.ag39 (hE.cell m0.out (fun h => h)) | exact run_ld rfl rfl Try.ag9 (hE.cell xc.out (fun h => h)) | exact run_el rfl rfl rfl Try.underlying39 Try.szE9 hee'.out | exact run_el rfl rfl rfl Try.underlying45 Try.szE39 heg'.out |  go_simp))))
                    refine cw_e1 rfl rfl (fun K hK => ?_)
                    refine op_build1 (v := .string s) rfl rfl Try.underlying39 hi9 hz9 hsz9 hzc9 rfl ?_
                    intro vT wT rT1 fT xT
                    refine op_norm rfl ?_
                    go_wp2_with fail
                    try replace oE := oE.then xT
                    try replace oA := oA.then xT
                    replace hE := hE.then_ext xT
                    clear xT fT
                    refine ⟨?_, ?_⟩
                    · (repeat (first | exact fl_nil | refine fl_skip rfl ?_ | (refine fl_take rfl ?_ ?_; (refine yldI_of rfl rfl ?_; first | exact run_ld rfl rfl Try.ag45 (hE.cell b3.out (fun h => h)) | exact run_ld rfl rfl Try.ag39 (hE.cell hcg.out (fun h => h)) | exact run_ld rfl rfl Try.ag39 (hE.cell m0.out (fun h => h)) | exact run_ld rfl rfl Try.ag9 (hE.cell xc.out (fun h => h)) | exact run_el rfl rfl rfl Try.underlying39 Try.szE9 hee'.out | exact run_el rfl rfl rfl Try.underlying45 Try.szE39 heg'.out |  go_simp))))
                    refine cw_e1 rfl rfl (fun K hK => ?_)
                    refine op_append_texts (ys := [s]) rfl rfl rfl oA rT1 (by simp only [List.nil_append, List.length_cons, List.length_nil]; omega) ?_
                    intro vB wB oB tB
                    refine op_norm rfl ?_
                    go_wp2_with fail
                    replace hE := oB.ext
                    rw [List.nil_append] at oB
                    clear tB oA rT1
                    refine ⟨?_, ?_⟩
                    · (repeat (first | exact fl_nil | refine fl_skip rfl ?_ | (refine fl_take rfl ?_ ?_; (refine yldI_of rfl rfl ?_; first | exact run_ld rfl rfl Try.ag45 (hE.cell b3.out (fun h => h)) | exact run_ld rfl rfl Try.ag39 (hE.cell hcg.out (fun h => h)) | exact run_ld rfl rfl Try.ag39 (hE.cell m0.out (fun h => h)) | exact run_ld rfl rfl Try.ag9 (hE.cell xc.out (fun h => h)) | exact run_el rfl rfl rfl Try.underlying39 Try.szE9 hee'.out | exact run_el rfl rfl rfl Try.underlying45 Try.szE39 heg'.out |  go_simp))))
                    (refine cw_rd rfl rfl rfl rfl rfl (fun K hK => ?_); refine op_elem rfl rfl rfl Try.underlying45 Try.szE39 heg'.out ?_; refine op_norm rfl ?_; go_wp2_with fail)
                    refine cw_e1 rfl rfl (fun K hK => ?_)
                    refine op_store_rowN (d := 0) (u := vB) rfl rfl rfl Try.sz39 (row_one oB.row) (rG.keep hE (fun _ _ h => h)) heg'.out han (by omega) ?_
                    intro wS hS tS
                    refine op_done rfl ?_
                    refine hK _ _ ?_
                    clear hK K
                    refine ⟨fl_none, ?_⟩
                    refine cw_nil ?_
                    obtain ⟨R4, hr4⟩ := hrd.gotOne hbn oB tS hS
                    have hfin := hgt.out
                    rw [if_neg hin.out] at hfin
                    rw [← hfin] at hr4
                    replace hfin := Lib.hid hfin
                    clear hgt
                    go_wp2_with fail
                    exact ⟨⟨k + 1, by go_num, hlt, R4, vx', by rw [hxs.out]; exact hr4⟩, by simp [intOf]; omega⟩
                  · refine cw_e1 rfl rfl (fun K hK => ?_)
                    refine op_build1 (v := .string s) rfl rfl Try.underlying39 hi9 hz9 hsz9 hzc9 rfl ?_
                    intro vT wT rT1 fT xT
                    refine op_norm rfl ?_
                    go_wp2_with fail
                    try replace oE := oE.then xT
                    try replace oA := oA.then xT
                    replace hE := hE.then_ext xT
                    clear xT fT
                    refine ⟨?_, ?_⟩
                    · (repeat (first | exact fl_nil | refine fl_skip rfl ?_ | (refine fl_take rfl ?_ ?_; (refine yldI_of rfl rfl ?_; first | exact run_ld rfl rfl Try.ag45 (hE.cell b3.out (fun h => h)) | exact run_ld rfl rfl Try.ag39 (hE.cell hcg.out (fun h => h)) | exact run_ld rfl rfl Try.ag39 (hE.cell m0.out (fun h => h)) | exact run_ld rfl rfl Try.ag9 (hE.cell xc.out (fun h => h)) | exact run_el rfl rfl rfl Try.underlying39 Try.szE9 hee'.out | exact run_el rfl rfl rfl Try.underlying45 Try.szE39 heg'.out |  go_simp))))
                    refine cw_e1 rfl rfl (fun K hK => ?_)
                    refine op_append_texts rfl rfl rfl oE (rY.keep hE (fun _ _ h => h)) (by simp only [List.length_nil]; omega) ?_
                    intro vA wA oA tA
                    refine op_norm rfl ?_
                    go_wp2_with fail
                    try replace rT1 := rT1.keep (ext_none nE tA) (fun _ _ h => h)
                    replace hE := oA.ext
                    clear tA oE nE
                    refine ⟨?_, ?_⟩
                    · (repeat (first | exact fl_nil | refine fl_skip rfl ?_ | (refine fl_take rfl ?_ ?_; (refine yldI_of rfl rfl ?_; first | exact run_ld rfl rfl Try.ag45 (hE.cell b3.out (fun h => h)) | exact run_ld rfl rfl Try.ag39 (hE.cell hcg.out (fun h => h)) | exact run_ld rfl rfl Try.ag39 (hE.cell m0.out (fun h => h)) | exact run_ld rfl rfl Try.ag9 (hE.cell xc.out (fun h => h)) | exact run_el rfl rfl rfl Try.underlying39 Try.szE9 hee'.out | exact run_el rfl rfl rfl Try.underlying45 Try.szE39 heg'.out |  go_simp))))
                    refine cw_e1 rfl rfl (fun K hK => ?_)
                    refine op_append_texts (ys := [s]) rfl rfl rfl oA rT1 (by simp only [List.nil_append, List.length_cons, List.length_nil]; omega) ?_
                    intro vB wB oB tB
                    refine op_norm rfl ?_
                    go_wp2_with fail
                    replace hE := oB.ext
                    rw [List.nil_append] at oB
                    clear tB oA rT1
                    refine ⟨?_, ?_⟩
                    · (repeat (first | exact fl_nil | refine fl_skip rfl ?_ | (refine fl_take rfl ?_ ?_; (refine yldI_of rfl rfl ?_; first | exact run_ld rfl rfl Try.ag45 (hE.cell b3.out (fun h => h)) | exact run_ld rfl rfl Try.ag39 (hE.cell hcg.out (fun h => h)) | exact run_ld rfl rfl Try.ag39 (hE.cell m0.out (fun h => h)) | exact run_ld rfl rfl Try.ag9 (hE.cell xc.out (fun h => h)) | exact run_el rfl rfl rfl Try.underlying39 Try.szE9 hee'.out | exact run_el rfl rfl rfl Try.underlying45 Try.szE39 heg'.out |  go_simp))))
                    (refine cw_rd rfl rfl rfl rfl rfl (fun K hK => ?_); refine op_elem rfl rfl rfl Try.underlying45 Try.szE39 heg'.out ?_; refine op_norm rfl ?_; go_wp2_with fail)
                    refine cw_e1 rfl rfl (fun K hK => ?_)
                    refine op_store_rowN (d := 0) (u := vB) rfl rfl rfl Try.sz39 (row_one oB.row) (rG.keep hE (fun _ _ h => h)) heg'.out han (by omega) ?_
                    intro wS hS tS
                    refine op_done rfl ?_
                    refine hK _ _ ?_
                    clear hK K
                    refine ⟨fl_none, ?_⟩
                    refine cw_nil ?_
                    obtain ⟨R4, hr4⟩ := hrd.gotOne hbn oB tS hS
                    have hfin := hgt.out
                    rw [if_neg hin.out] at hfin
                    rw [← hfin] at hr4
                    replace hfin := Lib.hid hfin
                    clear hgt
                    go_wp2_with fail
                    exact ⟨⟨k + 1, by go_num, hlt, R4, vx', by rw [hxs.out]; exact hr4⟩, by simp [intOf]; omega⟩
                · refine cw_e1 rfl rfl (fun K hK => ?_)
                  refine op_build1 (v := .string s) rfl rfl Try.underlying39 hi9 hz9 hsz9 hzc9 rfl ?_
                  intro vT wT rT1 fT xT
                  refine op_norm rfl ?_
                  go_wp2_with fail
                  try replace oE := oE.then xT
                  try replace oA := oA.then xT
                  replace hE := hE.then_ext xT
                  clear xT fT
                  refine ⟨?_, ?_⟩
                  · (repeat (first | exact fl_nil | refine fl_skip rfl ?_ | (refine fl_take rfl ?_ ?_; (refine yldI_of rfl rfl ?_; first | exact run_ld rfl rfl Try.ag45 (hE.cell b3.out (fun h => h)) | exact run_ld rfl rfl Try.ag39 (hE.cell hcg.out (fun h => h)) | exact run_ld rfl rfl Try.ag39 (hE.cell m0.out (fun h => h)) | exact run_ld rfl rfl Try.ag9 (hE.cell xc.out (fun h => h)) | exact run_el rfl rfl rfl Try.underlying39 Try.szE9 hee'.out | exact run_el rfl rfl rfl Try.underlying45 Try.szE39 heg'.out |  go_simp))))
                  refine cw_e1 rfl rfl (fun K hK => ?_)
                  refine op_build0 rfl Try.underlying39 hi9 ?_
                  intro vE wE rE nE xE
                  refine op_norm rfl ?_
                  go_wp2_with fail
                  try replace rT1 := rT1.keep xE (fun _ _ h => h)
                  replace hE := hE.then_ext xE
                  rw [hsz9] at rE
                  have oE : Own _ _ vE [] := ⟨rE, (fun b hb => by rw [nE] at hb; cases hb), hE⟩
                  clear rE xE
                  refine ⟨?_, ?_⟩
                  · (repeat (first | exact fl_nil | refine fl_skip rfl ?_ | (refine fl_take rfl ?_ ?_; (refine yldI_of rfl rfl ?_; first | exact run_ld rfl rfl Try.ag45 (hE.cell b3.out (fun h => h)) | exact run_ld rfl rfl Try.ag39 (hE.cell hcg.out (fun h => h)) | exact run_ld rfl rfl Try.ag39 (hE.cell m0.out (fun h => h)) | exact run_ld rfl rfl Try.ag9 (hE.cell xc.out (fun h => h)) | exact run_el rfl rfl rfl Try.underlying39 Try.szE9 hee'.out | exact run_el rfl rfl rfl Try.underlying45 Try.szE39 heg'.out |  go_simp))))
                  refine cw_e1 rfl rfl (fun K hK => ?_)
                  refine op_append_texts rfl rfl rfl oE (rY.keep hE (fun _ _ h => h)) (by simp only [List.length_nil]; omega) ?_
                  intro vA wA oA tA
                  refine op_norm rfl ?_
                  go_wp2_with fail
                  try replace rT1 := rT1.keep (ext_none nE tA) (fun _ _ h => h)
                  replace hE := oA.ext
                  clear tA oE nE
                  refine ⟨?_, ?_⟩
                  · (repeat (first | exact fl_nil | refine fl_skip rfl ?_ | (refine fl_take rfl ?_ ?_; (refine yldI_of rfl rfl ?_; first | exact run_ld rfl rfl Try.ag45 (hE.cell b3.out (fun h => h)) | exact run_ld rfl rfl Try.ag39 (hE.cell hcg.out (fun h => h)) | exact run_ld rfl rfl Try.ag39 (hE.cell m0.out (fun h => h)) | exact run_ld rfl rfl Try.ag9 (hE.cell xc.out (fun h => h)) | exact run_el rfl rfl rfl Try.underlying39 Try.szE9 hee'.out | exact run_el rfl rfl rfl Try.underlying45 Try.szE39 heg'.out |  go_simp))))
                  refine cw_e1 rfl rfl (fun K hK => ?_)
                  refine op_append_texts (ys := [s]) rfl rfl rfl oA rT1 (by simp only [List.nil_append, List.length_cons, List.length_nil]; omega) ?_
                  intro vB wB oB tB
                  refine op_norm rfl ?_
                  go_wp2_with fail
                  replace hE := oB.ext
                  rw [List.nil_append] at oB
                  clear tB oA rT1
                  refine ⟨?_, ?_⟩
                  · (repeat (first | exact fl_nil | refine fl_skip rfl ?_ | (refine fl_take rfl ?_ ?_; (refine yldI_of rfl rfl ?_; first | exact run_ld rfl rfl Try.ag45 (hE.cell b3.out (fun h => h)) | exact run_ld rfl rfl Try.ag39 (hE.cell hcg.out (fun h => h)) | exact run_ld rfl rfl Try.ag39 (hE.cell m0.out (fun h => h)) | exact run_ld rfl rfl Try.ag9 (hE.cell xc.out (fun h => h)) | exact run_el rfl rfl rfl Try.underlying39 Try.szE9 hee'.out | exact run_el rfl rfl rfl Try.underlying45 Try.szE39 heg'.out |  go_simp))))
                  (refine cw_rd rfl rfl rfl rfl rfl (fun K hK => ?_); refine op_elem rfl rfl rfl Try.underlying45 Try.szE39 heg'.out ?_; refine op_norm rfl ?_; go_wp2_with fail)
                  refine cw_e1 rfl rfl (fun K hK => ?_)
                  refine op_store_rowN (d := 0) (u := vB) rfl rfl rfl Try.sz39 (row_one oB.row) (rG.keep hE (fun _ _ h => h)) heg'.out han (by omega) ?_
                  intro wS hS tS
                  refine op_done rfl ?_
                  refine hK _ _ ?_
                  clear hK K
                  refine ⟨fl_none, ?_⟩
                  refine cw_nil ?_
                  obtain ⟨R4, hr4⟩ := hrd.gotOne hbn oB tS hS
                  have hfin := hgt.out
                  rw [if_neg hin.out] at hfin
                  rw [← hfin] at hr4
                  replace hfin := Lib.hid hfin
                  clear hgt
                  go_wp2_with fail
                  exact ⟨⟨k + 1, by go_num, hlt, R4, vx', by rw [hxs.out]; exact hr4⟩, by simp [intOf]; omega⟩
          · have e : k = m.texts.length := by omega
            subst e
            clear hlt hk
            rw [List.take_length] at hr hhas hT6 hG6
            go_wp2_with (first
              | ((with_reducible change wpList _ _ _ (Oper.mk _ (Op.load _ _) _ _ _ _ :: _) _ _); refine BigFrame.wpList_want rfl (fun K hK => ?_); refine op_load1 rfl rfl Try.ag39 hm0.out ?_; refine hK _ _ ?_; clear hK K)
              | ((with_reducible change wpList _ _ _ (Oper.mk _ (Op.call (Call.mk (Callee.builtin Builtin.len) _ _)) _ _ _ _ :: _) _ _); refine BigFrame.wpList_want rfl (fun K hK => ?_); refine op_len_row rfl rfl Try.underlying39 hr.rm (by omega) hmlen.out ?_; refine hK _ _ ?_; clear hK K))
            have f0 := Lib.hid hr.ref.f0
            have rH : RowN wr 3 1 (R2.val (.heard b)) S1.n (fun j _ => .int .i64 (S1.heard b j)) := hr.ref.row (.heard b) hbn
            obtain ⟨gh, kh, heh⟩ := rH.elem han (by omega)
            have hch := Lib.hid (RowN.one rH heh han)
            have rK : RowN wr 3 1 (R2.val (.known b)) S1.n (fun j _ => .int .i64 (S1.known b j)) := hr.ref.row (.known b) hbn
            obtain ⟨gk, kk, hek⟩ := rK.elem han (by omega)
            have hck := Lib.hid (RowN.one rK hek han)
            have rN : RowN wr 74 4 (R2.val .nodes) S1.n (nodeF R2) := hr.ref.row .nodes trivial
            obtain ⟨gn, kn, hen⟩ := hr.ref.nodeElem hbn
            have heh' := Lib.hid heh
            have hek' := Lib.hid hek
            have hen' := Lib.hid hen
            have b1 := Lib.hid (hr.bx.cell (i := 1) rfl)
            have m1 := Lib.hid (hr.bm.cell (i := 1) rfl)
            have hone := hr.ref.nodeOne hbn
            have hH6 : S1.heard b a ≤ 1000 := wf1.heard b a hbn han
            have hK6 : S1.known b a ≤ 1000 := wf1.known b a hbn han
            clear heh hek hen
            go_wp2_with fail
            refine wp_region_rt (by kernel_rfl) [0, 1, 0, 0, 8, 0, 56, 120, 0, 256, 1016, 2047, 4095] (.rd 0 (.rd 1 (.rd 2 (.rd 3 (.rd 4 (.rd 5 (.rd 6 (.rd 7 (.rd 8 (.rd 9 (.rd 10 (.rd 11 (.e1 12 [] (.nil)))))))))))))) (by kernel_rfl) ?_
            iterate 1 (refine cw_rd rfl rfl rfl rfl rfl (fun K hK => ?_); go_wp2_with fail)
            (refine cw_rd rfl rfl rfl rfl rfl (fun K hK => ?_); refine op_load1 rfl rfl Try.ag72 (cell_drew b1.out) ?_; refine op_norm rfl ?_; go_wp2_with fail)
            iterate 2 (refine cw_rd rfl rfl rfl rfl rfl (fun K hK => ?_); go_wp2_with fail)
            (refine cw_rd rfl rfl rfl rfl rfl (fun K hK => ?_); refine op_load1 rfl rfl Try.ag72 (cell_drew b1.out) ?_; refine op_norm rfl ?_; go_wp2_with fail)
            iterate 1 (refine cw_rd rfl rfl rfl rfl rfl (fun K hK => ?_); go_wp2_with fail)
            (refine cw_rd rfl rfl rfl rfl rfl (fun K hK => ?_); refine op_elem rfl rfl rfl Try.underlying72 Try.szE3' heh'.out ?_; refine op_norm rfl ?_; go_wp2_with fail)
            (refine cw_rd rfl rfl rfl rfl rfl (fun K hK => ?_); refine op_load1 rfl rfl Try.ag3 (cell_drew hch.out) ?_; refine op_norm rfl ?_; go_wp2_with fail)
            iterate 1 (refine cw_rd rfl rfl rfl rfl rfl (fun K hK => ?_); go_wp2_with fail)
            (refine cw_rd rfl rfl rfl rfl rfl (fun K hK => ?_); refine op_load1 rfl rfl Try.ag3 (cell_drew m1.out) ?_; refine op_norm rfl ?_; go_wp2_with fail)
            (refine cw_rd rfl rfl rfl rfl rfl (fun K hK => ?_); refine op_max rfl rfl rfl ?_; refine op_norm rfl ?_; go_wp2_with fail)
            (refine cw_rd rfl rfl rfl rfl rfl (fun K hK => ?_); refine op_elem rfl rfl rfl Try.underlying72 Try.szE3' heh'.out ?_; refine op_norm rfl ?_; go_wp2_with fail)
            have hED : Ext wr wr.drew := (Touch.refl _ wr).drew
            have hr1 := hr.ext hED
            refine cw_e1 rfl rfl (fun K hK => ?_)
            refine op_store_rowN (d := 0) (u := .int .i64 (max (S1.heard b a) m.length : Nat)) rfl rfl rfl Try.szE3' rfl (rH.keep hED (fun _ _ h => h)) heh'.out han (by omega) ?_
            intro w3 h3 t3
            refine op_done rfl ?_
            refine hK _ _ ?_
            clear hK K
            refine ⟨fl_none, ?_⟩
            refine cw_nil ?_
            obtain ⟨bm3, bx3, rx3, to3⟩ := hr1.keepRow (r0 := .heard b) hbn rfl t3
            have ref3 := hr1.ref.setHeard (i := b) (j := a) hbn t3 h3
            have hne3 : ∀ x, rowBlock (R2.val (.known b)) = some x → ¬ rowBlock (R2.val (.heard b)) = some x := fun x hx e => by
              have e1 := hr.ref.tag (.known b) hbn x hx
              rw [hr.ref.tag (.heard b) hbn x e] at e1
              simp [RowId.tagOf] at e1
            have rK3 := (rK.keep hED (fun _ _ h => h)).keep t3 hne3
            have hck3 := Lib.hid (RowN.one rK3 hek'.out han)
            have b2 := Lib.hid (bx3.cell (i := 2) rfl)
            have m2 := Lib.hid (bm3.cell (i := 2) rfl)
            clear hch hck b1 m1 rH rK hED
            go_wp2_with fail
            refine wp_region_rt (by kernel_rfl) [0, 1, 0, 0, 8, 0, 56, 120, 0, 256, 1016, 2047, 4095] (.rd 0 (.rd 1 (.rd 2 (.rd 3 (.rd 4 (.rd 5 (.rd 6 (.rd 7 (.rd 8 (.rd 9 (.rd 10 (.rd 11 (.e1 12 [] (.nil)))))))))))))) (by kernel_rfl) ?_
            iterate 1 (refine cw_rd rfl rfl rfl rfl rfl (fun K hK => ?_); go_wp2_with fail)
            (refine cw_rd rfl rfl rfl rfl rfl (fun K hK => ?_); refine op_load1 rfl rfl Try.ag72 (cell_drew b2.out) ?_; refine op_norm rfl ?_; go_wp2_with fail)
            iterate 2 (refine cw_rd rfl rfl rfl rfl rfl (fun K hK => ?_); go_wp2_with fail)
            (refine cw_rd rfl rfl rfl rfl rfl (fun K hK => ?_); refine op_load1 rfl rfl Try.ag72 (cell_drew b2.out) ?_; refine op_norm rfl ?_; go_wp2_with fail)
            iterate 1 (refine cw_rd rfl rfl rfl rfl rfl (fun K hK => ?_); go_wp2_with fail)
            (refine cw_rd rfl rfl rfl rfl rfl (fun K hK => ?_); refine op_elem rfl rfl rfl Try.underlying72 Try.szE3' hek'.out ?_; refine op_norm rfl ?_; go_wp2_with fail)
            (refine cw_rd rfl rfl rfl rfl rfl (fun K hK => ?_); refine op_load1 rfl rfl Try.ag3 (cell_drew hck3.out) ?_; refine op_norm rfl ?_; go_wp2_with fail)
            iterate 1 (refine cw_rd rfl rfl rfl rfl rfl (fun K hK => ?_); go_wp2_with fail)
            (refine cw_rd rfl rfl rfl rfl rfl (fun K hK => ?_); refine op_load1 rfl rfl Try.ag3 (cell_drew m2.out) ?_; refine op_norm rfl ?_; go_wp2_with fail)
            (refine cw_rd rfl rfl rfl rfl rfl (fun K hK => ?_); refine op_max rfl rfl rfl ?_; refine op_norm rfl ?_; go_wp2_with fail)
            (refine cw_rd rfl rfl rfl rfl rfl (fun K hK => ?_); refine op_elem rfl rfl rfl Try.underlying72 Try.szE3' hek'.out ?_; refine op_norm rfl ?_; go_wp2_with fail)
            have hED3 : Ext w3 w3.drew := (Touch.refl _ w3).drew
            refine cw_e1 rfl rfl (fun K hK => ?_)
            refine op_store_rowN (d := 0) (u := .int .i64 (max (S1.known b a) m.heard : Nat)) rfl rfl rfl Try.szE3' rfl (rK3.keep hED3 (fun _ _ h => h)) hek'.out han (by omega) ?_
            intro w4 h4 t4
            refine op_done rfl ?_
            refine hK _ _ ?_
            clear hK K
            refine ⟨fl_none, ?_⟩
            refine cw_nil ?_
            have ref4 := (ref3.ext hED3).setKnown (i := b) (j := a) hbn t4 h4
            have ktag : ∀ x, rowBlock (R2.val (.known b)) = some x → R2.tag x = .row (.known b) := fun x hx => hr.ref.tag (.known b) hbn x hx
            have bx4 : Blk w4 gx 74 #[vx, R2.val (.heard b), R2.val (.known b), R2.val (.got b)] := t4.obj (hED3.obj bx3 (fun h => h)) fun e => by have := ktag gx e; rw [hr.tx] at this; cases this
            have rx4 := (rx3.keep hED3 (fun _ _ h => h)).keep t4 fun x hx e => by
              have h1 := ktag x e
              rcases hr.dx x hx with h2 | h2 <;> (rw [h1] at h2; cases h2)
            have to4 : RTo w.heap.size w w4 R R2 := ⟨to3.base, to3.tag, (to3.touch.then_ext hED3).trans t4 fun x _ e => by
              rcases Nat.lt_or_ge x w.heap.size with hx | hx
              · have h1 := ktag x e
                rw [to3.tag x hx] at h1
                exact .inr (.inr ⟨_, h1⟩)
              · exact .inl hx⟩
            have hone4 := Lib.hid (show ∀ u ∈ [vx, R2.val (.heard b), R2.val (.known b), R2.val (.got b)], u.oneCell' = true from fun u hu => by
              rcases List.mem_cons.1 hu with rfl | hu
              · exact row_one rx4
              · exact hone u (by simp [hu]))
            have hx1 := Lib.hid hr.dx
            have hx2 := Lib.hid hr.nx
            have f4 := Lib.hid ref4.f0
            have hbc := Lib.hid (blk_cells (vs := [vx, R2.val (.heard b), R2.val (.known b), R2.val (.got b)]) bx4)
            have rN4 : RowN w4 74 4 (R2.val .nodes) S1.n (nodeF R2) := ref4.row .nodes trivial
            clear b2 m2 hck3 rK3 ref3 bx3 bm3 rx3 to3 hr hr1 hED3 hone
            go_wp2_with fail
            refine wp_region_rt (by kernel_rfl) [0, 1, 3, 7, 0, 0, 63, 127] (.rd 0 (.rd 1 (.rd 2 (.rd 3 (.rd 4 (.rd 5 (.rd 6 (.e1 7 [] (.nil))))))))) (by kernel_rfl) ?_
            iterate 3 (refine cw_rd rfl rfl rfl rfl rfl (fun K hK => ?_); go_wp2_with fail)
            (refine cw_rd rfl rfl rfl rfl rfl (fun K hK => ?_); refine op_load1 rfl rfl Try.ag67 (cell_drew f4.out) ?_; refine op_norm rfl ?_; go_wp2_with fail)
            iterate 1 (refine cw_rd rfl rfl rfl rfl rfl (fun K hK => ?_); go_wp2_with fail)
            (refine cw_rd rfl rfl rfl rfl rfl (fun K hK => ?_); refine op_loadN (vs := [vx, R2.val (.heard b), R2.val (.known b), R2.val (.got b)]) rfl rfl Try.ag74 Try.szE74 (fun j v hv => cell_drew (hbc.out j v hv)) ?_; refine op_norm rfl ?_; go_wp2_with fail)
            (refine cw_rd rfl rfl rfl rfl rfl (fun K hK => ?_); refine op_elem rfl rfl rfl Try.underlying67 Try.szE74 hen'.out ?_; refine op_norm rfl ?_; go_wp2_with fail)
            have hED4 : Ext w4 w4.drew := (Touch.refl _ w4).drew
            refine cw_e1 rfl rfl (fun K hK => ?_)
            refine op_store_rowNs (vs := [vx, R2.val (.heard b), R2.val (.known b), R2.val (.got b)]) rfl rfl rfl Try.szE74 hone4.out rfl (rN4.keep hED4 (fun _ _ h => h)) hen'.out hbn ?_
            intro w5 h5 t5
            refine op_done rfl ?_
            refine hK _ _ ?_
            clear hK K
            refine ⟨fl_none, ?_⟩
            refine cw_nil ?_
            have hn5 : RowN w5 74 4 (R2.val .nodes) S1.n (upd2 (nodeF R2) b 0 vx) := h5.congr fun i j hi hj => by
              by_cases e : i = b
              · subst e
                rw [if_pos rfl]
                have hj' : j < 4 := hj
                have hj4 : j = 0 ∨ j = 1 ∨ j = 2 ∨ j = 3 := by omega
                rcases hj4 with rfl | rfl | rfl | rfl
                · simp [upd2]
                · simp [upd2, nodeF]
                · simp [upd2, nodeF]
                · simp [upd2, nodeF]
              · rw [if_neg e]
                simp [upd2, e]
            have ntag : ∀ x, rowBlock (R2.val .nodes) = some x → R2.tag x = .row .nodes := fun x hx => ref4.tag .nodes trivial x hx
            have rx5 := (rx4.keep hED4 (fun _ _ h => h)).keep t5 fun x hx e => by
              have h1 := ntag x e
              rcases hx1.out x hx with h2 | h2 <;> (rw [h1] at h2; cases h2)
            have ref5 := ((ref4.ext hED4).setText (i := b) hbn t5 hn5 rx5 hx1.out).like (alike_recv S1 a b m)
            go_wp2_with fail
            go_ret
            refine ⟨rfl, ?_⟩
            (first | rw [hd.out] | skip)
            refine ⟨_, ref5, to4.base, fun x hx => ?_, (to4.touch.then_ext hED4).trans t5 fun x _ e => ?_⟩
            · show tagNew vx R2.tag x = R.tag x
              by_cases e : rowBlock vx = some x
              · rcases hx1.out x e with h2 | h2
                · have := hx2.out x e h2; omega
                · rw [tagNew_new e, ← to4.tag x hx, h2]
              · rw [tagNew_old e]; exact to4.tag x hx
            · rcases Nat.lt_or_ge x w.heap.size with hx | hx
              · have h1 := ntag x e
                rw [to4.tag x hx] at h1
                exact .inr (.inr ⟨_, h1⟩)
              · exact .inl hx

theorem deliver_ref {w : World} {q : Nat} {R : RLay} {S : NetS} (h : RefAt w q R S) (wf : Wf S) (a b : Nat) (lost again : Bool) (ha6 : a ≤ 1000) (hb6 : b ≤ 1000) :
    Calls Try.prog 18 #[ptr q, .int .i64 a, .int .i64 b, .bool lost, .bool again] w fun e w' => e = .returned (.bool (S.deliverC a b)) ∧ RefPost w.heap.size w q R (S.deliver a b lost again) w' := by
  cases hc : S.deliverC a b with
  | true => exact deliver_ref_on h wf a b lost again ha6 hb6 hc
  | false =>
    rw [NetS.deliver_none hc]
    refine (deliver_ref_off h a b lost again ha6 hb6 hc).mono ?_
    rintro e w' ⟨rfl, rfl⟩
    exact ⟨rfl, RefPost.of_ext h (Touch.refl _ w)⟩
end Go.Proofs.Ytcipfpebjeakfaa
