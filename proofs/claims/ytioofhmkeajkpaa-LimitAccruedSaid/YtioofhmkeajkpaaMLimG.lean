/-
  LimitAccrued: the law.
-/
import Derived.Test.YtioofhmkeajkpaaMLimF
namespace Go.Proofs.Ytioofhmkeajkpaa
open Go Go.RowKit PLimitMatchesReference Go.Proofs.YtioofhmkeajkpaaW.PrintWords

theorem change_cases {l : Lim} {day tn tu least : Int} {cl : List Int} {m : Lim} {f was e : Int} (h : ChangeIs l day tn tu least cl m f) (hd : DueIs l cl was e) :
    (m = zeroLim ∧ f ≠ 0) ∨ (f = 0 ∧ e = 0 ∧ (0 ≤ day ∧ day ≤ 1000000 ∧ 0 ≤ least ∧ least ≤ 1000000) ∧
      ((was < day ∧ m = l) ∨ (day ≤ was ∧ ∃ due1, DueIs (l.term tn tu) cl due1 0 ∧
        ((due1 < day + least ∧ m = l.from_ day least ∧ ∃ due2, DueIs (l.from_ day least) cl due2 0) ∨ (day + least ≤ due1 ∧ m = l.term tn tu))))) := by
  unfold ChangeIs at h
  split at h
  · rename_i hok
    obtain ⟨due, e', hd', h⟩ := h
    obtain ⟨rfl, rfl⟩ := hd.unique hd'
    have hb : 0 ≤ day ∧ day ≤ 1000000 ∧ 0 ≤ least ∧ least ≤ 1000000 := by
      unfold changeOk at hok
      simp only [Bool.and_eq_true, decide_eq_true_eq, dayB_iff] at hok
      omega
    split at h
    · rename_i he
      exact .inl ⟨h.1, by omega⟩
    · rename_i he
      have he0 : e = 0 := by omega
      split at h
      · rename_i hlt
        exact .inr ⟨h.2, he0, hb, .inl ⟨hlt, h.1⟩⟩
      · rename_i hlt
        obtain ⟨due1, e1, hd1, h⟩ := h
        split at h
        · exact .inl ⟨h.1, by omega⟩
        · rename_i he1
          obtain rfl : e1 = 0 := by omega
          split at h
          · rename_i hl2
            obtain ⟨due2, e2, hd2, h⟩ := h
            split at h
            · exact .inl ⟨h.1, by omega⟩
            · rename_i he2
              obtain rfl : e2 = 0 := by omega
              exact .inr ⟨h.2, he0, hb, .inr ⟨by omega, due1, hd1, .inl ⟨hl2, h.1, due2, hd2⟩⟩⟩
          · exact .inr ⟨h.2, he0, hb, .inr ⟨by omega, due1, hd1, .inr ⟨by omega, h.1⟩⟩⟩
  · exact .inl ⟨h.1, by omega⟩
theorem from_due {l : Lim} {day least : Int} {cl : List Int} {r : Int} (h : DueIs (l.from_ day least) cl r 0) : day + least ≤ r := by
  obtain ⟨hp, a, k, ha, -⟩ := h.hit
  have hc := (due_count h ha).2.2.1
  have hge : day + least ≤ a := by
    unfold AddIs at ha
    split at ha
    · split at ha
      · omega
      · obtain ⟨x, f, hx, ha⟩ := ha
        split at ha
        · unfold StepIs at hx
          rw [if_pos (show (l.from_ day least).unit = 1 from rfl)] at hx
          have := fromD_ge cl x
          have h1 : x = day + least := hx.1
          omega
        · omega
    · omega
  omega
end Go.Proofs.Ytioofhmkeajkpaa

/-
  LimitAccrued: the walk.
-/
namespace Go.Proofs.Ytioofhmkeajkpaa
open Go Go.RowKit PLimitMatchesReference Go.Proofs.YtioofhmkeajkpaaW.PrintWords

attribute [local irreducible] World.cell? World.frozen? isAggB _root_.Go.Program.underlying


set_option maxRecDepth 100000 in
set_option maxHeartbeats 16000000 in
theorem accrued_walk {w : World} {l : Lim} {v vc : Value} {cl : List Int} {day tn tu least : Int} (hs : RStops w v l.stops) (_ : l.ok) (hday : (Lit.int .i64 day).wf = true) (_ : (Lit.int .i64 tn).wf = true) (_ : (Lit.int .i64 tu).wf = true) (_ : (Lit.int .i64 least).wf = true) (hv : RInts w vc cl) (hok : ∀ x ∈ cl, (Lit.int .i64 x).wf = true) :
    Calls Try.prog 9 #[.agg (limCells l v).toArray, .int .i64 day, .agg #[.int .i64 tn, .int .i64 tu], .int .i64 least, vc] w fun e w' => e = .returned (.bool true) ∧ Ext w w' := by
  have hok' := Lib.hid hok
  clear hok
  obtain ⟨adv, cv, rfl⟩ : ∃ ad c, v = .slice ad l.stops.length c := hs.slice
  have hfe := fun W (hE : Ext w W) => few_contract (l := l) (hs.ext hE) (hv.ext hE)
  have hs1 := fun W => short_contract W tn tu
  have hs2 := fun W => short_contract W least 1
  cases hfw : fewB l cl with
  | false =>
    simp only [hfw] at hfe
    replace hfe := Lib.hid hfe
    clear hfw
    unfold limCells at hfe ⊢
    go_enter Try.func9, Try.ntmps9
    ((first | go_at_call 10 | (go_wp2_with fail; go_at_call 10)); refine (head_contract _).mono ?_; rintro _ w1 ⟨rfl, x1⟩)
    obtain ⟨b0, b1, hE1⟩ := two_boxes w _ _ _ _ x1
    ((first | go_at_call 11 | (go_wp2_with (first | ((with_reducible change wpList _ _ _ (Oper.mk _ (Op.load _ _) _ _ _ _ :: _) _ _); refine BigFrame.wpList_want rfl (fun K hK => ?_); refine op_loadN (p := ⟨w.heap.size, 0, none⟩) (vs := [.string l.id, .int .i64 l.n, .int .i64 l.unit, .int .i64 l.fr, .slice adv l.stops.length cv]) rfl rfl Try.ag26 Try.sz26 (blk_cells b0) ?_; refine hK _ _ ?_; clear hK K)); go_at_call 11)); refine (hfe.out _ hE1).mono ?_; rintro _ w2 ⟨rfl, x2⟩)
    replace b0 := b0.ext x2
    replace b1 := b1.ext x2
    have hE2 := hE1.then_ext x2
    clear x1 x2 hE1
    go_wp2_with fail
    go_ret
    exact ⟨rfl, hE2⟩
  | true =>
    obtain ⟨hl10, hid, -, -, hcl⟩ := fewB_out hfw
    replace hcl : cl.length ≤ 1000000 := by omega
    have hat : ∀ W, Ext w W → LimAt W l (.slice adv l.stops.length cv) := fun W hE => ⟨hs.ext hE, by omega, Nat.le_trans hid (by omega)⟩
    have hdu := fun W (hE : Ext w W) => due_contract (hat W hE) (hv.ext hE) hok'.out hcl
    have hch := fun W (hE : Ext w W) => change_contract (hat W hE) (hv.ext hE) hok'.out hcl day tn tu least
    replace hdu := Lib.hid hdu
    replace hch := Lib.hid hch
    simp only [hfw] at hfe
    replace hfe := Lib.hid hfe
    clear hfw
    cases hsw : shortB tn tu with
    | false =>
      simp only [hsw] at hs1
      replace hs1 := Lib.hid hs1
      clear hsw hs2
      unfold limCells at hfe ⊢
      go_enter Try.func9, Try.ntmps9
      ((first | go_at_call 10 | (go_wp2_with fail; go_at_call 10)); refine (head_contract _).mono ?_; rintro _ w1 ⟨rfl, x1⟩)
      obtain ⟨b0, b1, hE1⟩ := two_boxes w _ _ _ _ x1
      ((first | go_at_call 11 | (go_wp2_with (first | ((with_reducible change wpList _ _ _ (Oper.mk _ (Op.load _ _) _ _ _ _ :: _) _ _); refine BigFrame.wpList_want rfl (fun K hK => ?_); refine op_loadN (p := ⟨w.heap.size, 0, none⟩) (vs := [.string l.id, .int .i64 l.n, .int .i64 l.unit, .int .i64 l.fr, .slice adv l.stops.length cv]) rfl rfl Try.ag26 Try.sz26 (blk_cells b0) ?_; refine hK _ _ ?_; clear hK K)); go_at_call 11)); refine (hfe.out _ hE1).mono ?_; rintro _ w2 ⟨rfl, x2⟩)
      replace b0 := b0.ext x2
      replace b1 := b1.ext x2
      have hE2 := hE1.then_ext x2
      clear x1 x2 hE1
      ((first | go_at_call 15 | (go_wp2_with (first | ((with_reducible change wpList _ _ _ (Oper.mk _ (Op.load _ _) _ _ _ _ :: _) _ _); refine BigFrame.wpList_want rfl (fun K hK => ?_); refine op_loadN (p := ⟨w.heap.size + 1, 0, none⟩) (vs := [.int .i64 tn, .int .i64 tu]) rfl rfl Try.ag23 Try.sz23 (blk_cells b1) ?_; refine hK _ _ ?_; clear hK K)); go_at_call 15)); refine (hs1.out _).mono ?_; rintro _ w3 ⟨rfl, x3⟩)
      go_wp2_with fail
      go_ret
      exact ⟨rfl, hE2.then_ext x3⟩
    | true =>
      simp only [hsw] at hs1
      replace hs1 := Lib.hid hs1
      clear hsw
      cases hsw : shortB least 1 with
      | false =>
        simp only [hsw] at hs2
        replace hs2 := Lib.hid hs2
        clear hsw
        unfold limCells at hfe ⊢
        go_enter Try.func9, Try.ntmps9
        ((first | go_at_call 10 | (go_wp2_with fail; go_at_call 10)); refine (head_contract _).mono ?_; rintro _ w1 ⟨rfl, x1⟩)
        obtain ⟨b0, b1, hE1⟩ := two_boxes w _ _ _ _ x1
        ((first | go_at_call 11 | (go_wp2_with (first | ((with_reducible change wpList _ _ _ (Oper.mk _ (Op.load _ _) _ _ _ _ :: _) _ _); refine BigFrame.wpList_want rfl (fun K hK => ?_); refine op_loadN (p := ⟨w.heap.size, 0, none⟩) (vs := [.string l.id, .int .i64 l.n, .int .i64 l.unit, .int .i64 l.fr, .slice adv l.stops.length cv]) rfl rfl Try.ag26 Try.sz26 (blk_cells b0) ?_; refine hK _ _ ?_; clear hK K)); go_at_call 11)); refine (hfe.out _ hE1).mono ?_; rintro _ w2 ⟨rfl, x2⟩)
        replace b0 := b0.ext x2
        replace b1 := b1.ext x2
        have hE2 := hE1.then_ext x2
        clear x1 x2 hE1
        ((first | go_at_call 15 | (go_wp2_with (first | ((with_reducible change wpList _ _ _ (Oper.mk _ (Op.load _ _) _ _ _ _ :: _) _ _); refine BigFrame.wpList_want rfl (fun K hK => ?_); refine op_loadN (p := ⟨w.heap.size + 1, 0, none⟩) (vs := [.int .i64 tn, .int .i64 tu]) rfl rfl Try.ag23 Try.sz23 (blk_cells b1) ?_; refine hK _ _ ?_; clear hK K)); go_at_call 15)); refine (hs1.out _).mono ?_; rintro _ w3 ⟨rfl, x3⟩)
        ((first | go_at_call 15 | (go_wp2_with fail; go_at_call 15)); refine (hs2.out _).mono ?_; rintro _ w4 ⟨rfl, x4⟩)
        go_wp2_with fail
        go_ret
        exact ⟨rfl, (hE2.then_ext x3).then_ext x4⟩
      | true =>
        simp only [hsw] at hs2
        replace hs2 := Lib.hid hs2
        clear hsw
        obtain ⟨hday0, hday1⟩ := i64_bd hday
        clear hday
        unfold limCells at hfe hdu hch ⊢
        go_enter Try.func9, Try.ntmps9
        ((first | go_at_call 10 | (go_wp2_with fail; go_at_call 10)); refine (head_contract _).mono ?_; rintro _ w1 ⟨rfl, x1⟩)
        obtain ⟨b0, b1, hE1⟩ := two_boxes w _ _ _ _ x1
        ((first | go_at_call 11 | (go_wp2_with (first | ((with_reducible change wpList _ _ _ (Oper.mk _ (Op.load _ _) _ _ _ _ :: _) _ _); refine BigFrame.wpList_want rfl (fun K hK => ?_); refine op_loadN (p := ⟨w.heap.size, 0, none⟩) (vs := [.string l.id, .int .i64 l.n, .int .i64 l.unit, .int .i64 l.fr, .slice adv l.stops.length cv]) rfl rfl Try.ag26 Try.sz26 (blk_cells b0) ?_; refine hK _ _ ?_; clear hK K)); go_at_call 11)); refine (hfe.out _ hE1).mono ?_; rintro _ w2 ⟨rfl, x2⟩)
        replace b0 := b0.ext x2
        replace b1 := b1.ext x2
        have hE2 := hE1.then_ext x2
        clear x1 x2 hE1
        ((first | go_at_call 15 | (go_wp2_with (first | ((with_reducible change wpList _ _ _ (Oper.mk _ (Op.load _ _) _ _ _ _ :: _) _ _); refine BigFrame.wpList_want rfl (fun K hK => ?_); refine op_loadN (p := ⟨w.heap.size + 1, 0, none⟩) (vs := [.int .i64 tn, .int .i64 tu]) rfl rfl Try.ag23 Try.sz23 (blk_cells b1) ?_; refine hK _ _ ?_; clear hK K)); go_at_call 15)); refine (hs1.out _).mono ?_; rintro _ w3 ⟨rfl, x3⟩)
        ((first | go_at_call 15 | (go_wp2_with fail; go_at_call 15)); refine (hs2.out _).mono ?_; rintro _ w4 ⟨rfl, x4⟩)
        replace b0 := (b0.ext x3).ext x4
        replace b1 := (b1.ext x3).ext x4
        have hE4 := (hE2.then_ext x3).then_ext x4
        clear x3 x4 hE2
        ((first | go_at_call 12 | (go_wp2_with (first | ((with_reducible change wpList _ _ _ (Oper.mk _ (Op.load _ _) _ _ _ _ :: _) _ _); refine BigFrame.wpList_want rfl (fun K hK => ?_); refine op_loadN (p := ⟨w.heap.size, 0, none⟩) (vs := [.string l.id, .int .i64 l.n, .int .i64 l.unit, .int .i64 l.fr, .slice adv l.stops.length cv]) rfl rfl Try.ag26 Try.sz26 (blk_cells b0) ?_; refine hK _ _ ?_; clear hK K)); go_at_call 12)); refine (hdu.out _ hE4).mono ?_; rintro _ w5 ⟨was, e, rfl, hd, x5⟩)
        replace b0 := b0.ext x5
        replace b1 := b1.ext x5
        have hE5 := hE4.then_ext x5
        clear x5 hE4
        have hd' := Lib.hid hd
        clear hd
        ((first | go_at_call 20 | (go_wp2_with (first | ((with_reducible change wpList _ _ _ (Oper.mk _ (Op.load _ _) _ _ _ _ :: _) _ _); refine BigFrame.wpList_want rfl (fun K hK => ?_); refine op_loadN (p := ⟨w.heap.size, 0, none⟩) (vs := [.string l.id, .int .i64 l.n, .int .i64 l.unit, .int .i64 l.fr, .slice adv l.stops.length cv]) rfl rfl Try.ag26 Try.sz26 (blk_cells b0) ?_; refine hK _ _ ?_; clear hK K) | ((with_reducible change wpList _ _ _ (Oper.mk _ (Op.load _ _) _ _ _ _ :: _) _ _); refine BigFrame.wpList_want rfl (fun K hK => ?_); refine op_loadN (p := ⟨w.heap.size + 1, 0, none⟩) (vs := [.int .i64 tn, .int .i64 tu]) rfl rfl Try.ag23 Try.sz23 (blk_cells b1) ?_; refine hK _ _ ?_; clear hK K)); go_at_call 20)); refine (hch.out _ hE5).mono ?_; rintro _ w6 ⟨m, f, vm, hchg, rfl, hvm, x6⟩)
        replace b0 := b0.ext x6
        replace b1 := b1.ext x6
        have hE6 := hE5.then_ext x6
        clear x6 hE5 hch hfe hs1 hs2
        rcases change_cases hchg hd'.out with ⟨hm, hf⟩ | ⟨hf0, he0, ⟨hy0, hy1, hle0, hle1⟩, hcs⟩
        · subst hm
          clear hchg hd' hdu
          obtain ⟨adm, cm, rfl⟩ : ∃ ad c, vm = .slice ad 0 c := hvm.slice
          rw [show limCells zeroLim (.slice adm 0 cm) = [.string ⟨#[]⟩, .int .i64 0, .int .i64 0, .int .i64 0, .slice adm 0 cm] from rfl]
          have hf1 : (f != 0) = true := by simpa using hf
          have hf2 : (f == 0) = false := by simpa using hf
          have bZ := Blk.alloc' w6 #[.string ⟨#[]⟩, .int .i64 0, .int .i64 0, .int .i64 0, .slice adm 0 cm] 26
          by_cases he : e = 0
          · subst he
            go_wp2_with (first | ((with_reducible change wpList _ _ _ (Oper.mk _ (Op.load _ _) _ _ _ _ :: _) _ _); refine BigFrame.wpList_want rfl (fun K hK => ?_); refine op_load1 rfl rfl Try.ag9 (bZ.cell (i := 0) rfl) ?_; refine hK _ _ ?_; clear hK K))
            go_ret
            exact ⟨rfl, hE6.then_ext (Ext.alloc w6 _)⟩
          · have he1 : (e != 0) = true := by simpa using he
            go_wp2_with (first | ((with_reducible change wpList _ _ _ (Oper.mk _ (Op.load _ _) _ _ _ _ :: _) _ _); refine BigFrame.wpList_want rfl (fun K hK => ?_); refine op_load1 rfl rfl Try.ag9 (bZ.cell (i := 0) rfl) ?_; refine hK _ _ ?_; clear hK K))
            go_ret
            exact ⟨rfl, hE6.then_ext (Ext.alloc w6 _)⟩
        · subst hf0 he0
          clear hchg hdu
          rcases hcs with ⟨hlt, hm⟩ | ⟨hge, due1, hd1, ⟨hlt2, hm, due2, hd2⟩ | ⟨hge2, hm⟩⟩
          · replace hm := hm.symm
            subst hm
            obtain ⟨adm, cm, rfl⟩ : ∃ ad c, vm = .slice ad l.stops.length c := hvm.slice
            rw [show limCells l (.slice adm l.stops.length cm) = [.string l.id, .int .i64 l.n, .int .i64 l.unit, .int .i64 l.fr, .slice adm l.stops.length cm] from rfl]
            have bM := Blk.alloc' w6 #[.string l.id, .int .i64 l.n, .int .i64 l.unit, .int .i64 l.fr, .slice adm l.stops.length cm] 26
            have hEM := Ext.alloc w6 (.cells #[.string l.id, .int .i64 l.n, .int .i64 l.unit, .int .i64 l.fr, .slice adm l.stops.length cm] 26)
            replace b0 := b0.ext hEM
            have hE7 := hE6.then_ext hEM
            have hvm7 := RL.ext hvm hEM
            have hlm : LimAt _ l (.slice adm l.stops.length cm) := ⟨hvm7, by omega, Nat.le_trans hid (by omega)⟩
            ((first | go_at_call 22 | (go_wp2_with (first | ((with_reducible change wpList _ _ _ (Oper.mk _ (Op.load _ _) _ _ _ _ :: _) _ _); refine BigFrame.wpList_want rfl (fun K hK => ?_); refine op_loadN (p := ⟨w6.heap.size, 0, none⟩) (vs := [.string l.id, .int .i64 l.n, .int .i64 l.unit, .int .i64 l.fr, .slice adm l.stops.length cm]) rfl rfl Try.ag26 Try.sz26 (blk_cells bM) ?_; refine hK _ _ ?_; clear hK K) | ((with_reducible change wpList _ _ _ (Oper.mk _ (Op.load _ _) _ _ _ _ :: _) _ _); refine BigFrame.wpList_want rfl (fun K hK => ?_); refine op_loadN (p := ⟨w.heap.size, 0, none⟩) (vs := [.string l.id, .int .i64 l.n, .int .i64 l.unit, .int .i64 l.fr, .slice adv l.stops.length cv]) rfl rfl Try.ag26 Try.sz26 (blk_cells b0) ?_; refine hK _ _ ?_; clear hK K)); go_at_call 22)); refine (same_true hlm (hat _ hE7)).mono ?_; rintro _ w8 ⟨rfl, x8⟩)
            go_wp2_with fail
            go_ret
            exact ⟨rfl, hE7.then_ext x8⟩
          · subst hm
            obtain ⟨adm, cm, rfl⟩ : ∃ ad c, vm = .slice ad l.stops.length c := hvm.slice
            rw [show limCells (l.from_ day least) (.slice adm l.stops.length cm) = [.string l.id, .int .i64 least, .int .i64 1, .int .i64 day, .slice adm l.stops.length cm] from rfl]
            have hlm : ∀ W, RStops W (.slice adm l.stops.length cm) l.stops → LimAt W (l.from_ day least) (.slice adm l.stops.length cm) := fun W h => ⟨h, Nat.le_trans hl10 (by omega), Nat.le_trans hid (by omega)⟩
            have hlv : ∀ W, Ext w W → LimAt W (l.from_ day least) (.slice adv l.stops.length cv) := fun W hE => ⟨hs.ext hE, Nat.le_trans hl10 (by omega), Nat.le_trans hid (by omega)⟩
            have hlt : ∀ W, Ext w W → LimAt W (l.term tn tu) (.slice adv l.stops.length cv) := fun W hE => ⟨hs.ext hE, Nat.le_trans hl10 (by omega), Nat.le_trans hid (by omega)⟩
            have hnow := from_due hd2
            have g1 : decide (was < day) = false := by simp; omega
            have g2 : decide (due2 < day + least) = false := by simp; omega
            have hdM := Lib.hid hd2
            replace hd1 := Lib.hid hd1
            have bM := Blk.alloc' w6 #[.string l.id, .int .i64 least, .int .i64 1, .int .i64 day, .slice adm l.stops.length cm] 26
            have hEM := Ext.alloc w6 (.cells #[.string l.id, .int .i64 least, .int .i64 1, .int .i64 day, .slice adm l.stops.length cm] 26)
            replace b0 := b0.ext hEM
            replace b1 := b1.ext hEM
            have hE7 := hE6.then_ext hEM
            replace hvm := RL.ext hvm hEM
            clear hEM hE6
            ((first | go_at_call 12 | (go_wp2_with (first | ((with_reducible change wpList _ _ _ (Oper.mk _ (Op.load _ _) _ _ _ _ :: _) _ _); refine BigFrame.wpList_want rfl (fun K hK => ?_); refine op_loadN (p := ⟨w6.heap.size, 0, none⟩) (vs := [.string l.id, .int .i64 least, .int .i64 1, .int .i64 day, .slice adm l.stops.length cm]) rfl rfl Try.ag26 Try.sz26 (blk_cells bM) ?_; refine hK _ _ ?_; clear hK K)); go_at_call 12)); refine (due_contract (hlm _ hvm) (hv.ext hE7) hok'.out hcl).mono ?_; rintro _ w8 ⟨now', g', rfl, hdn, x8⟩)
            obtain ⟨rfl, rfl⟩ := hdM.out.unique hdn
            replace b0 := b0.ext x8
            replace b1 := b1.ext x8
            replace bM := bM.ext x8
            replace hvm := RL.ext hvm x8
            have hE8 := hE7.then_ext x8
            clear x8 hE7 hdn
            ((first | go_at_call 12 | (go_wp2_with (first | ((with_reducible change wpList _ _ _ (Oper.mk _ (Op.load _ _) _ _ _ _ :: _) _ _); refine BigFrame.wpList_want rfl (fun K hK => ?_); refine op_loadN (p := ⟨w.heap.size, 0, none⟩) (vs := [.string l.id, .int .i64 l.n, .int .i64 l.unit, .int .i64 l.fr, .slice adv l.stops.length cv]) rfl rfl Try.ag26 Try.sz26 (blk_cells b0) ?_; refine hK _ _ ?_; clear hK K) | ((with_reducible change wpList _ _ _ (Oper.mk _ (Op.load _ _) _ _ _ _ :: _) _ _); refine BigFrame.wpList_want rfl (fun K hK => ?_); refine op_loadN (p := ⟨w.heap.size + 1, 0, none⟩) (vs := [.int .i64 tn, .int .i64 tu]) rfl rfl Try.ag23 Try.sz23 (blk_cells (b1.ext (Ext.alloc w8 _))) ?_; refine hK _ _ ?_; clear hK K) | ((with_reducible change wpList _ _ _ (Oper.mk _ (Op.store _ _ _) _ _ _ _ :: _) _ _); refine BigFrame.wpList_want rfl (fun K hK => ?_); refine op_storeN (g := w8.heap.size) (i := 1) (T := 26) (cs := #[.string l.id, .int .i64 l.n, .int .i64 l.unit, .int .i64 l.fr, .slice adv l.stops.length cv]) (vs := [.int .i64 tn, .int .i64 tu]) rfl rfl rfl Try.sz23 (by simp [Value.oneCell']) (Blk.alloc' w8 _ 26) (by simp) ?_; intro w9 k9 t9 z9; refine hK _ _ ?_; clear hK K) | ((with_reducible change wpList _ _ _ (Oper.mk _ (Op.load _ _) _ _ _ _ :: _) _ _); refine BigFrame.wpList_want rfl (fun K hK => ?_); refine op_loadN (p := ⟨w8.heap.size, 0, none⟩) (vs := [.string l.id, .int .i64 tn, .int .i64 tu, .int .i64 l.fr, .slice adv l.stops.length cv]) rfl rfl Try.ag26 Try.sz26 (blk_cells (show Blk w9 w8.heap.size 26 [.string l.id, .int .i64 tn, .int .i64 tu, .int .i64 l.fr, .slice adv l.stops.length cv].toArray from k9)) ?_; refine hK _ _ ?_; clear hK K)); go_at_call 12)); refine (due_contract (hlt _ (hE8.then_ext (Ext.new t9))) (hv.ext (hE8.then_ext (Ext.new t9))) hok'.out hcl).mono ?_; rintro _ w10 ⟨due', h', rfl, hdn, x10⟩)
            obtain ⟨rfl, rfl⟩ := hd1.out.unique hdn
            have bF : Blk w10 w8.heap.size 26 #[.string l.id, .int .i64 tn, .int .i64 tu, .int .i64 l.fr, .slice adv l.stops.length cv] := Blk.ext (show Blk w9 w8.heap.size 26 #[.string l.id, .int .i64 tn, .int .i64 tu, .int .i64 l.fr, .slice adv l.stops.length cv] from k9) x10
            replace b0 := (b0.ext (Ext.new t9)).ext x10
            replace bM := (bM.ext (Ext.new t9)).ext x10
            replace hvm := RL.ext (RL.ext hvm (Ext.new t9)) x10
            have hE10 := (hE8.then_ext (Ext.new t9)).then_ext x10
            have hvm0 := hvm
            clear x10 hE8 hdn k9 t9 z9 b1
            go_wp2_with (first | ((with_reducible change wpList _ _ _ (Oper.mk _ (Op.load _ _) _ _ _ _ :: _) _ _); refine BigFrame.wpList_want rfl (fun K hK => ?_); refine op_loadN (p := ⟨w.heap.size, 0, none⟩) (vs := [.string l.id, .int .i64 l.n, .int .i64 l.unit, .int .i64 l.fr, .slice adv l.stops.length cv]) rfl rfl Try.ag26 Try.sz26 (blk_cells b0) ?_; refine hK _ _ ?_; clear hK K))
            have hES := Ext.alloc w10 (.cells #[.string l.id, .int .i64 l.n, .int .i64 l.unit, .int .i64 l.fr, .slice adv l.stops.length cv] 26)
            have bS := Blk.alloc' w10 #[.string l.id, .int .i64 l.n, .int .i64 l.unit, .int .i64 l.fr, .slice adv l.stops.length cv] 26
            have hltM := obj_lt bM
            have hltF := obj_lt bF
            have hltZ := obj_lt b0
            replace b0 := b0.ext hES
            replace bM := bM.ext hES
            replace bF := bF.ext hES
            have hES' : Ext w ((w10.alloc (.cells #[.string l.id, .int .i64 l.n, .int .i64 l.unit, .int .i64 l.fr, .slice adv l.stops.length cv] 26)).drew) := (hE10.then_ext hES).drew
            have bMd : Blk (w10.alloc (.cells #[.string l.id, .int .i64 l.n, .int .i64 l.unit, .int .i64 l.fr, .slice adv l.stops.length cv] 26)).drew w6.heap.size 26 #[.string l.id, .int .i64 least, .int .i64 1, .int .i64 day, .slice adm l.stops.length cm] := bM
            have bSd : Blk (w10.alloc (.cells #[.string l.id, .int .i64 l.n, .int .i64 l.unit, .int .i64 l.fr, .slice adv l.stops.length cv] 26)).drew w10.heap.size 26 #[.string l.id, .int .i64 l.n, .int .i64 l.unit, .int .i64 l.fr, .slice adv l.stops.length cv] := bS
            have bFd : Blk (w10.alloc (.cells #[.string l.id, .int .i64 l.n, .int .i64 l.unit, .int .i64 l.fr, .slice adv l.stops.length cv] 26)).drew w8.heap.size 26 #[.string l.id, .int .i64 tn, .int .i64 tu, .int .i64 l.fr, .slice adv l.stops.length cv] := bF
            clear bS bM bF b0 hES hvm
            refine wp_region_rt (by kernel_rfl) [0, 1, 0, 4, 3, 19, 63, 127] (.rd 0 (.rd 1 (.rd 2 (.rd 3 (.rd 4 (.e1 5 [2, 3] (.rd 6 (.e1 7 [] (.nil))))))))) (by kernel_rfl) ?_
            iterate 1 (refine cw_rd rfl rfl rfl rfl rfl (fun K hK => ?_); go_wp2_with fail)
            (refine cw_rd rfl rfl rfl rfl rfl (fun K hK => ?_); refine op_load1 rfl rfl Try.ag3 (bMd.cell (i := 3) rfl) ?_; refine op_norm rfl ?_; go_wp2_with fail)
            iterate 1 (refine cw_rd rfl rfl rfl rfl rfl (fun K hK => ?_); go_wp2_with fail)
            (refine cw_rd rfl rfl rfl rfl rfl (fun K hK => ?_); refine op_loadN (p := ⟨w6.heap.size, 1, none⟩) (vs := [.int .i64 least, .int .i64 1]) rfl rfl Try.ag23 Try.sz23 (blk_part [.string l.id] [.int .i64 least, .int .i64 1] [.int .i64 day, .slice adm l.stops.length cm] bMd) ?_; refine op_norm rfl ?_; go_wp2_with fail)
            iterate 1 (refine cw_rd rfl rfl rfl rfl rfl (fun K hK => ?_); go_wp2_with fail)
            refine cw_e1 rfl rfl (fun K hK => ?_)
            refine op_store1 (g := w10.heap.size) (i := 3) (T := 26) (cs := #[.string l.id, .int .i64 l.n, .int .i64 l.unit, .int .i64 l.fr, .slice adv l.stops.length cv]) (v := .int .i64 day) rfl rfl rfl Try.szE3 rfl bSd (by simp) ?_
            intro wS kS tS zS
            refine op_done rfl ?_
            refine hK _ _ ?_
            clear hK K
            have hneM : w6.heap.size ≠ w10.heap.size := by omega
            have hneF : w8.heap.size ≠ w10.heap.size := by omega
            have bMs : Blk wS w6.heap.size 26 #[.string l.id, .int .i64 least, .int .i64 1, .int .i64 day, .slice adm l.stops.length cm] := tS.obj bMd hneM
            have bFs : Blk wS w8.heap.size 26 #[.string l.id, .int .i64 tn, .int .i64 tu, .int .i64 l.fr, .slice adv l.stops.length cv] := tS.obj bFd hneF
            refine ⟨?_, ?_⟩
            · (repeat (first | exact fl_nil | refine fl_skip rfl ?_ | (refine fl_take rfl ?_ ?_; (refine yldI_of rfl rfl ?_; first | exact run_ldN rfl rfl Try.ag23 Try.sz23 (blk_part [.string l.id] [.int .i64 least, .int .i64 1] [.int .i64 day, .slice adm l.stops.length cm] bMs) |  go_simp))))
            iterate 1 (refine cw_rd rfl rfl rfl rfl rfl (fun K hK => ?_); go_wp2_with fail)
            refine cw_e1 rfl rfl (fun K hK => ?_)
            refine op_storeN (g := w10.heap.size) (i := 1) (T := 26) (cs := #[.string l.id, .int .i64 l.n, .int .i64 l.unit, .int .i64 day, .slice adv l.stops.length cv]) (vs := [.int .i64 least, .int .i64 1]) rfl rfl rfl Try.sz23 (by simp [Value.oneCell']) kS (by simp) ?_
            intro wU kU tU zU
            refine op_done rfl ?_
            refine hK _ _ ?_
            clear hK K
            refine ⟨fl_none, ?_⟩
            refine cw_nil ?_
            have bSu : Blk wU w10.heap.size 26 #[.string l.id, .int .i64 least, .int .i64 1, .int .i64 day, .slice adv l.stops.length cv] := kU
            have bMu : Blk wU w6.heap.size 26 #[.string l.id, .int .i64 least, .int .i64 1, .int .i64 day, .slice adm l.stops.length cm] := tU.obj bMs hneM
            have bFu : Blk wU w8.heap.size 26 #[.string l.id, .int .i64 tn, .int .i64 tu, .int .i64 l.fr, .slice adv l.stops.length cv] := tU.obj bFs hneF
            have hltw := hE10.size
            have hEU : Ext w wU := (hES'.trans tS fun b hb e => by omega).trans tU fun b hb e => by omega
            have hEX : Ext w10 wU := by
              have e1 : Ext w10 (w10.alloc (.cells #[.string l.id, .int .i64 l.n, .int .i64 l.unit, .int .i64 l.fr, .slice adv l.stops.length cv] 26)).drew := (Ext.alloc w10 _).drew
              exact (e1.trans tS fun b hb e => by omega).trans tU fun b hb e => by omega
            have hvm := RL.ext hvm0 hEX
            have hlS : LimAt wU _ (.slice adv l.stops.length cv) := hlv _ hEU
            ((first | go_at_call 22 | (go_wp2_with (first | ((with_reducible change wpList _ _ _ (Oper.mk _ (Op.load _ _) _ _ _ _ :: _) _ _); refine BigFrame.wpList_want rfl (fun K hK => ?_); refine op_loadN (p := ⟨w10.heap.size, 0, none⟩) (vs := [.string l.id, .int .i64 least, .int .i64 1, .int .i64 day, .slice adv l.stops.length cv]) rfl rfl Try.ag26 Try.sz26 (blk_cells bSu) ?_; refine hK _ _ ?_; clear hK K) | ((with_reducible change wpList _ _ _ (Oper.mk _ (Op.load _ _) _ _ _ _ :: _) _ _); refine BigFrame.wpList_want rfl (fun K hK => ?_); refine op_loadN (p := ⟨w6.heap.size, 0, none⟩) (vs := [.string l.id, .int .i64 least, .int .i64 1, .int .i64 day, .slice adm l.stops.length cm]) rfl rfl Try.ag26 Try.sz26 (blk_cells bMu) ?_; refine hK _ _ ?_; clear hK K)); go_at_call 22)); refine (same_true hlS (hlm _ hvm)).mono ?_; rintro _ w12 ⟨rfl, x12⟩)
            replace bMu := bMu.ext x12
            replace bFu := bFu.ext x12
            replace hvm := RL.ext hvm x12
            have hE12 := hEU.then_ext x12
            go_wp2_with fail
            go_ret
            exact ⟨rfl, hE12⟩
          · subst hm
            obtain ⟨adm, cm, rfl⟩ : ∃ ad c, vm = .slice ad l.stops.length c := hvm.slice
            rw [show limCells (l.term tn tu) (.slice adm l.stops.length cm) = [.string l.id, .int .i64 tn, .int .i64 tu, .int .i64 l.fr, .slice adm l.stops.length cm] from rfl]
            have hlm : ∀ W, RStops W (.slice adm l.stops.length cm) l.stops → LimAt W (l.term tn tu) (.slice adm l.stops.length cm) := fun W h => ⟨h, Nat.le_trans hl10 (by omega), Nat.le_trans hid (by omega)⟩
            have hlv : ∀ W, Ext w W → LimAt W (l.term tn tu) (.slice adv l.stops.length cv) := fun W hE => ⟨hs.ext hE, Nat.le_trans hl10 (by omega), Nat.le_trans hid (by omega)⟩
            have hlt : ∀ W, Ext w W → LimAt W (l.term tn tu) (.slice adv l.stops.length cv) := fun W hE => ⟨hs.ext hE, Nat.le_trans hl10 (by omega), Nat.le_trans hid (by omega)⟩
            have hnow := hge2
            have g1 : decide (was < day) = false := by simp; omega
            have g2 : decide (due1 < day + least) = false := by simp; omega
            have hdM := Lib.hid hd1
            replace hd1 := Lib.hid hd1
            have bM := Blk.alloc' w6 #[.string l.id, .int .i64 tn, .int .i64 tu, .int .i64 l.fr, .slice adm l.stops.length cm] 26
            have hEM := Ext.alloc w6 (.cells #[.string l.id, .int .i64 tn, .int .i64 tu, .int .i64 l.fr, .slice adm l.stops.length cm] 26)
            replace b0 := b0.ext hEM
            replace b1 := b1.ext hEM
            have hE7 := hE6.then_ext hEM
            replace hvm := RL.ext hvm hEM
            clear hEM hE6
            ((first | go_at_call 12 | (go_wp2_with (first | ((with_reducible change wpList _ _ _ (Oper.mk _ (Op.load _ _) _ _ _ _ :: _) _ _); refine BigFrame.wpList_want rfl (fun K hK => ?_); refine op_loadN (p := ⟨w6.heap.size, 0, none⟩) (vs := [.string l.id, .int .i64 tn, .int .i64 tu, .int .i64 l.fr, .slice adm l.stops.length cm]) rfl rfl Try.ag26 Try.sz26 (blk_cells bM) ?_; refine hK _ _ ?_; clear hK K)); go_at_call 12)); refine (due_contract (hlm _ hvm) (hv.ext hE7) hok'.out hcl).mono ?_; rintro _ w8 ⟨now', g', rfl, hdn, x8⟩)
            obtain ⟨rfl, rfl⟩ := hdM.out.unique hdn
            replace b0 := b0.ext x8
            replace b1 := b1.ext x8
            replace bM := bM.ext x8
            replace hvm := RL.ext hvm x8
            have hE8 := hE7.then_ext x8
            clear x8 hE7 hdn
            ((first | go_at_call 12 | (go_wp2_with (first | ((with_reducible change wpList _ _ _ (Oper.mk _ (Op.load _ _) _ _ _ _ :: _) _ _); refine BigFrame.wpList_want rfl (fun K hK => ?_); refine op_loadN (p := ⟨w.heap.size, 0, none⟩) (vs := [.string l.id, .int .i64 l.n, .int .i64 l.unit, .int .i64 l.fr, .slice adv l.stops.length cv]) rfl rfl Try.ag26 Try.sz26 (blk_cells b0) ?_; refine hK _ _ ?_; clear hK K) | ((with_reducible change wpList _ _ _ (Oper.mk _ (Op.load _ _) _ _ _ _ :: _) _ _); refine BigFrame.wpList_want rfl (fun K hK => ?_); refine op_loadN (p := ⟨w.heap.size + 1, 0, none⟩) (vs := [.int .i64 tn, .int .i64 tu]) rfl rfl Try.ag23 Try.sz23 (blk_cells (b1.ext (Ext.alloc w8 _))) ?_; refine hK _ _ ?_; clear hK K) | ((with_reducible change wpList _ _ _ (Oper.mk _ (Op.store _ _ _) _ _ _ _ :: _) _ _); refine BigFrame.wpList_want rfl (fun K hK => ?_); refine op_storeN (g := w8.heap.size) (i := 1) (T := 26) (cs := #[.string l.id, .int .i64 l.n, .int .i64 l.unit, .int .i64 l.fr, .slice adv l.stops.length cv]) (vs := [.int .i64 tn, .int .i64 tu]) rfl rfl rfl Try.sz23 (by simp [Value.oneCell']) (Blk.alloc' w8 _ 26) (by simp) ?_; intro w9 k9 t9 z9; refine hK _ _ ?_; clear hK K) | ((with_reducible change wpList _ _ _ (Oper.mk _ (Op.load _ _) _ _ _ _ :: _) _ _); refine BigFrame.wpList_want rfl (fun K hK => ?_); refine op_loadN (p := ⟨w8.heap.size, 0, none⟩) (vs := [.string l.id, .int .i64 tn, .int .i64 tu, .int .i64 l.fr, .slice adv l.stops.length cv]) rfl rfl Try.ag26 Try.sz26 (blk_cells (show Blk w9 w8.heap.size 26 [.string l.id, .int .i64 tn, .int .i64 tu, .int .i64 l.fr, .slice adv l.stops.length cv].toArray from k9)) ?_; refine hK _ _ ?_; clear hK K)); go_at_call 12)); refine (due_contract (hlt _ (hE8.then_ext (Ext.new t9))) (hv.ext (hE8.then_ext (Ext.new t9))) hok'.out hcl).mono ?_; rintro _ w10 ⟨due', h', rfl, hdn, x10⟩)
            obtain ⟨rfl, rfl⟩ := hd1.out.unique hdn
            have bF : Blk w10 w8.heap.size 26 #[.string l.id, .int .i64 tn, .int .i64 tu, .int .i64 l.fr, .slice adv l.stops.length cv] := Blk.ext (show Blk w9 w8.heap.size 26 #[.string l.id, .int .i64 tn, .int .i64 tu, .int .i64 l.fr, .slice adv l.stops.length cv] from k9) x10
            replace b0 := (b0.ext (Ext.new t9)).ext x10
            replace bM := (bM.ext (Ext.new t9)).ext x10
            replace hvm := RL.ext (RL.ext hvm (Ext.new t9)) x10
            have hE10 := (hE8.then_ext (Ext.new t9)).then_ext x10
            have hvm0 := hvm
            clear x10 hE8 hdn k9 t9 z9 b1
            go_wp2_with (first | ((with_reducible change wpList _ _ _ (Oper.mk _ (Op.load _ _) _ _ _ _ :: _) _ _); refine BigFrame.wpList_want rfl (fun K hK => ?_); refine op_loadN (p := ⟨w.heap.size, 0, none⟩) (vs := [.string l.id, .int .i64 l.n, .int .i64 l.unit, .int .i64 l.fr, .slice adv l.stops.length cv]) rfl rfl Try.ag26 Try.sz26 (blk_cells b0) ?_; refine hK _ _ ?_; clear hK K))
            have hES := Ext.alloc w10 (.cells #[.string l.id, .int .i64 l.n, .int .i64 l.unit, .int .i64 l.fr, .slice adv l.stops.length cv] 26)
            have bS := Blk.alloc' w10 #[.string l.id, .int .i64 l.n, .int .i64 l.unit, .int .i64 l.fr, .slice adv l.stops.length cv] 26
            have hltM := obj_lt bM
            have hltF := obj_lt bF
            have hltZ := obj_lt b0
            replace b0 := b0.ext hES
            replace bM := bM.ext hES
            replace bF := bF.ext hES
            have hES' : Ext w ((w10.alloc (.cells #[.string l.id, .int .i64 l.n, .int .i64 l.unit, .int .i64 l.fr, .slice adv l.stops.length cv] 26)).drew) := (hE10.then_ext hES).drew
            have bMd : Blk (w10.alloc (.cells #[.string l.id, .int .i64 l.n, .int .i64 l.unit, .int .i64 l.fr, .slice adv l.stops.length cv] 26)).drew w6.heap.size 26 #[.string l.id, .int .i64 tn, .int .i64 tu, .int .i64 l.fr, .slice adm l.stops.length cm] := bM
            have bSd : Blk (w10.alloc (.cells #[.string l.id, .int .i64 l.n, .int .i64 l.unit, .int .i64 l.fr, .slice adv l.stops.length cv] 26)).drew w10.heap.size 26 #[.string l.id, .int .i64 l.n, .int .i64 l.unit, .int .i64 l.fr, .slice adv l.stops.length cv] := bS
            have bFd : Blk (w10.alloc (.cells #[.string l.id, .int .i64 l.n, .int .i64 l.unit, .int .i64 l.fr, .slice adv l.stops.length cv] 26)).drew w8.heap.size 26 #[.string l.id, .int .i64 tn, .int .i64 tu, .int .i64 l.fr, .slice adv l.stops.length cv] := bF
            clear bS bM bF b0 hES hvm
            refine wp_region_rt (by kernel_rfl) [0, 1, 0, 4, 3, 19, 63, 127] (.rd 0 (.rd 1 (.rd 2 (.rd 3 (.rd 4 (.e1 5 [2, 3] (.rd 6 (.e1 7 [] (.nil))))))))) (by kernel_rfl) ?_
            iterate 1 (refine cw_rd rfl rfl rfl rfl rfl (fun K hK => ?_); go_wp2_with fail)
            (refine cw_rd rfl rfl rfl rfl rfl (fun K hK => ?_); refine op_load1 rfl rfl Try.ag3 (bMd.cell (i := 3) rfl) ?_; refine op_norm rfl ?_; go_wp2_with fail)
            iterate 1 (refine cw_rd rfl rfl rfl rfl rfl (fun K hK => ?_); go_wp2_with fail)
            (refine cw_rd rfl rfl rfl rfl rfl (fun K hK => ?_); refine op_loadN (p := ⟨w6.heap.size, 1, none⟩) (vs := [.int .i64 tn, .int .i64 tu]) rfl rfl Try.ag23 Try.sz23 (blk_part [.string l.id] [.int .i64 tn, .int .i64 tu] [.int .i64 l.fr, .slice adm l.stops.length cm] bMd) ?_; refine op_norm rfl ?_; go_wp2_with fail)
            iterate 1 (refine cw_rd rfl rfl rfl rfl rfl (fun K hK => ?_); go_wp2_with fail)
            refine cw_e1 rfl rfl (fun K hK => ?_)
            refine op_store1 (g := w10.heap.size) (i := 3) (T := 26) (cs := #[.string l.id, .int .i64 l.n, .int .i64 l.unit, .int .i64 l.fr, .slice adv l.stops.length cv]) (v := .int .i64 l.fr) rfl rfl rfl Try.szE3 rfl bSd (by simp) ?_
            intro wS kS tS zS
            refine op_done rfl ?_
            refine hK _ _ ?_
            clear hK K
            have hneM : w6.heap.size ≠ w10.heap.size := by omega
            have hneF : w8.heap.size ≠ w10.heap.size := by omega
            have bMs : Blk wS w6.heap.size 26 #[.string l.id, .int .i64 tn, .int .i64 tu, .int .i64 l.fr, .slice adm l.stops.length cm] := tS.obj bMd hneM
            have bFs : Blk wS w8.heap.size 26 #[.string l.id, .int .i64 tn, .int .i64 tu, .int .i64 l.fr, .slice adv l.stops.length cv] := tS.obj bFd hneF
            refine ⟨?_, ?_⟩
            · (repeat (first | exact fl_nil | refine fl_skip rfl ?_ | (refine fl_take rfl ?_ ?_; (refine yldI_of rfl rfl ?_; first | exact run_ldN rfl rfl Try.ag23 Try.sz23 (blk_part [.string l.id] [.int .i64 tn, .int .i64 tu] [.int .i64 l.fr, .slice adm l.stops.length cm] bMs) |  go_simp))))
            iterate 1 (refine cw_rd rfl rfl rfl rfl rfl (fun K hK => ?_); go_wp2_with fail)
            refine cw_e1 rfl rfl (fun K hK => ?_)
            refine op_storeN (g := w10.heap.size) (i := 1) (T := 26) (cs := #[.string l.id, .int .i64 l.n, .int .i64 l.unit, .int .i64 l.fr, .slice adv l.stops.length cv]) (vs := [.int .i64 tn, .int .i64 tu]) rfl rfl rfl Try.sz23 (by simp [Value.oneCell']) kS (by simp) ?_
            intro wU kU tU zU
            refine op_done rfl ?_
            refine hK _ _ ?_
            clear hK K
            refine ⟨fl_none, ?_⟩
            refine cw_nil ?_
            have bSu : Blk wU w10.heap.size 26 #[.string l.id, .int .i64 tn, .int .i64 tu, .int .i64 l.fr, .slice adv l.stops.length cv] := kU
            have bMu : Blk wU w6.heap.size 26 #[.string l.id, .int .i64 tn, .int .i64 tu, .int .i64 l.fr, .slice adm l.stops.length cm] := tU.obj bMs hneM
            have bFu : Blk wU w8.heap.size 26 #[.string l.id, .int .i64 tn, .int .i64 tu, .int .i64 l.fr, .slice adv l.stops.length cv] := tU.obj bFs hneF
            have hltw := hE10.size
            have hEU : Ext w wU := (hES'.trans tS fun b hb e => by omega).trans tU fun b hb e => by omega
            have hEX : Ext w10 wU := by
              have e1 : Ext w10 (w10.alloc (.cells #[.string l.id, .int .i64 l.n, .int .i64 l.unit, .int .i64 l.fr, .slice adv l.stops.length cv] 26)).drew := (Ext.alloc w10 _).drew
              exact (e1.trans tS fun b hb e => by omega).trans tU fun b hb e => by omega
            have hvm := RL.ext hvm0 hEX
            have hlS : LimAt wU _ (.slice adv l.stops.length cv) := hlv _ hEU
            ((first | go_at_call 22 | (go_wp2_with (first | ((with_reducible change wpList _ _ _ (Oper.mk _ (Op.load _ _) _ _ _ _ :: _) _ _); refine BigFrame.wpList_want rfl (fun K hK => ?_); refine op_loadN (p := ⟨w10.heap.size, 0, none⟩) (vs := [.string l.id, .int .i64 tn, .int .i64 tu, .int .i64 l.fr, .slice adv l.stops.length cv]) rfl rfl Try.ag26 Try.sz26 (blk_cells bSu) ?_; refine hK _ _ ?_; clear hK K) | ((with_reducible change wpList _ _ _ (Oper.mk _ (Op.load _ _) _ _ _ _ :: _) _ _); refine BigFrame.wpList_want rfl (fun K hK => ?_); refine op_loadN (p := ⟨w6.heap.size, 0, none⟩) (vs := [.string l.id, .int .i64 tn, .int .i64 tu, .int .i64 l.fr, .slice adm l.stops.length cm]) rfl rfl Try.ag26 Try.sz26 (blk_cells bMu) ?_; refine hK _ _ ?_; clear hK K)); go_at_call 22)); refine (same_true hlS (hlm _ hvm)).mono ?_; rintro _ w12 ⟨rfl, x12⟩)
            replace bMu := bMu.ext x12
            replace bFu := bFu.ext x12
            replace hvm := RL.ext hvm x12
            have hE12 := hEU.then_ext x12
            ((first | go_at_call 22 | (go_wp2_with (first | ((with_reducible change wpList _ _ _ (Oper.mk _ (Op.load _ _) _ _ _ _ :: _) _ _); refine BigFrame.wpList_want rfl (fun K hK => ?_); refine op_loadN (p := ⟨w8.heap.size, 0, none⟩) (vs := [.string l.id, .int .i64 tn, .int .i64 tu, .int .i64 l.fr, .slice adv l.stops.length cv]) rfl rfl Try.ag26 Try.sz26 (blk_cells bFu) ?_; refine hK _ _ ?_; clear hK K) | ((with_reducible change wpList _ _ _ (Oper.mk _ (Op.load _ _) _ _ _ _ :: _) _ _); refine BigFrame.wpList_want rfl (fun K hK => ?_); refine op_loadN (p := ⟨w6.heap.size, 0, none⟩) (vs := [.string l.id, .int .i64 tn, .int .i64 tu, .int .i64 l.fr, .slice adm l.stops.length cm]) rfl rfl Try.ag26 Try.sz26 (blk_cells bMu) ?_; refine hK _ _ ?_; clear hK K)); go_at_call 22)); refine (same_true (hlm _ hvm) (hlt _ hE12)).mono ?_; rintro _ w13 ⟨rfl, x13⟩)
            go_wp2_with fail
            go_ret
            exact ⟨rfl, hE12.then_ext x13⟩
end Go.Proofs.Ytioofhmkeajkpaa
