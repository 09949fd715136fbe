/-
  LimitLeft: the walk and its law.
-/
import Derived.Test.YtioofhmkeajkpaaMLimD
namespace Go.Proofs.Ytioofhmkeajkpaa
open Go Go.RowKit PLimitMatchesReference Go.Proofs.YtioofhmkeajkpaaW.PrintWords

attribute [local irreducible] World.cell? World.frozen? isAggB _root_.Go.Program.underlying

/-- What a last day without an error is. -/
theorem DueIs.hit {l : Lim} {cl : List Int} {r : Int} (h : DueIs l cl r 0) : l.proper = true ∧ ∃ (a : Int) (k : Nat), AddIs l.fr l.n l.unit cl a 0 ∧ cntF (fun d => !l.paused d) l.fr k = (a - l.fr).toNat ∧ r = openD l cl (l.fr + k) ∧ r ≤ 1000000 ∧ l.paused r = false ∧ workB cl r = true := by
  unfold DueIs at h
  split at h
  · rename_i hp
    obtain ⟨a, f, ha, h⟩ := h
    split at h
    · rename_i hf
      subst hf
      obtain ⟨D, ⟨k, rfl, hc, -⟩, h⟩ := h
      split at h
      · rename_i hle
        obtain ⟨rfl, -⟩ := h
        have e : openD l cl (l.fr + k) = firstF (fun x => !l.paused x && workB cl x) (1000001 - (l.fr + k)).toNat (l.fr + k) := rfl
        have hge := (firstF_ge (fun x => !l.paused x && workB cl x) (1000001 - (l.fr + k)).toNat (l.fr + k)).1
        have hit := firstF_hit (fun x => !l.paused x && workB cl x) (1000001 - (l.fr + k)).toNat (l.fr + k) (by omega)
        rw [← e] at hit
        simp only [Bool.and_eq_true, Bool.not_eq_true'] at hit
        exact ⟨hp, a, k, ha, hc, rfl, hle, hit.1, hit.2⟩
      · omega
    · omega
  · omega
theorem leftD_step (l : Lim) (day due : Int) (h : day ≤ due) : leftD l day due = leftD l (day + 1) due + (if l.paused day then 0 else 1) := by
  unfold leftD
  rw [show (due - day + 1).toNat = 1 + (due - (day + 1) + 1).toNat by omega, cntF_add, show day - 1 + ((1 : Nat) : Int) = day + 1 - 1 by omega]
  have e : cntF (fun x => !l.paused x) (day - 1) 1 = (if l.paused day then 0 else 1) := by
    rw [cntF, cntF, show day - 1 + (((0 : Nat) : Int) + 1) = day by omega]
    cases l.paused day <;> rfl
  rw [e]
  omega
theorem leftD_out (l : Lim) (day due : Int) (h : due < day) : leftD l day due = 0 := by
  unfold leftD
  rw [show (due - day + 1).toNat = 0 by omega]
  rfl
theorem leftD_last {l : Lim} {cl : List Int} {r : Int} (h : DueIs l cl r 0) : leftD l r r = 1 := by
  obtain ⟨-, a, k, -, -, -, -, hp, -⟩ := h.hit
  rw [leftD_step l r r (Int.le_refl _), leftD_out l (r + 1) r (by omega), hp]
  rfl
theorem LeftIs.bad {l : Lim} {day : Int} {cl : List Int} {due e r f : Int} (hd : DueIs l cl due e) (h : LeftIs l day cl r f) : (dayB day = true ∧ f = e ∧ (e = 0 → r = leftD l day due) ∧ (e ≠ 0 → r = 0)) ∨ (dayB day = false ∧ r = 0 ∧ f = 1) := by
  unfold LeftIs at h
  split at h
  · rename_i hb
    obtain ⟨due', e', hd', h⟩ := h
    obtain ⟨rfl, rfl⟩ := hd.unique hd'
    split at h
    · rename_i he
      exact .inl ⟨hb, by omega, fun _ => h.1, fun h => absurd he h⟩
    · rename_i he
      exact .inl ⟨hb, by omega, fun h => absurd h he, fun _ => h.1⟩
  · rename_i hb
    exact .inr ⟨by simpa using hb, h⟩

set_option maxRecDepth 100000 in
set_option maxHeartbeats 8000000 in
theorem left_walk {w : World} {l : Lim} {v vc : Value} {cl : List Int} {day : Int} (hs : RStops w v l.stops) (_ : l.ok) (hday : (Lit.int .i64 day).wf = true) (hv : RInts w vc cl) (hok : ∀ x ∈ cl, (Lit.int .i64 x).wf = true) :
    Calls Try.prog 4 #[.agg (limCells l v).toArray, .int .i64 day, vc] w fun e w' => e = .returned (.bool true) ∧ Ext w w' := by
  have hok' := Lib.hid hok
  clear hok
  have hone := hs.one
  obtain ⟨hday0, -⟩ := i64_bd hday
  clear hday
  have hfe := fun W (hE : Ext w W) => few_contract (l := l) (hs.ext hE) (hv.ext hE)
  cases hfw : fewB l cl with
  | false =>
    simp only [hfw] at hfe
    replace hfe := Lib.hid hfe
    clear hfw
    unfold limCells at hfe ⊢
    go_enter Try.func4, Try.ntmps4
    ((first | go_at_call 10 | (go_wp2_with fail; go_at_call 10)); refine (head_contract _).mono ?_; rintro _ w1 ⟨rfl, x1⟩)
    have b1 := (Blk.alloc' w #[.string l.id, .int .i64 l.n, .int .i64 l.unit, .int .i64 l.fr, v] 26).ext x1
    have hE1 := (Ext.alloc w _).then_ext x1
    ((first | go_at_call 11 | (go_wp2_with (first | ((with_reducible change wpList _ _ _ (Oper.mk _ (Op.load _ _) _ _ _ _ :: _) _ _); refine BigFrame.wpList_want rfl (fun K hK => ?_); refine op_loadN (p := ⟨w.heap.size, 0, none⟩) (vs := [.string l.id, .int .i64 l.n, .int .i64 l.unit, .int .i64 l.fr, v]) rfl rfl Try.ag26 Try.sz26 (blk_cells b1) ?_; refine hK _ _ ?_; clear hK K)); go_at_call 11)); refine (hfe.out _ hE1).mono ?_; rintro _ w3 ⟨rfl, x3⟩)
    go_wp2_with fail
    go_ret
    exact ⟨rfl, hE1.then_ext x3⟩
  | true =>
    obtain ⟨hl10, hid, -, -, hcl⟩ := fewB_out hfw
    have hat : ∀ W, Ext w W → LimAt W l v := fun W hE => ⟨hs.ext hE, by omega, Nat.le_trans hid (by omega)⟩
    have hdu := fun W (hE : Ext w W) => due_contract (hat W hE) (hv.ext hE) hok'.out (by omega)
    have hle := fun W (hE : Ext w W) day => left_contract (hat W hE) (hv.ext hE) hok'.out (by omega) day
    have hpa := fun W (hE : Ext w W) => refPaused_contract (hat W hE) day
    replace hdu := Lib.hid hdu
    replace hle := Lib.hid hle
    clear hat hid hcl hl10
    simp only [hfw] at hfe
    replace hfe := Lib.hid hfe
    clear hfw
    by_cases hbig : 1000000 ≤ day
    · unfold limCells at hfe ⊢
      go_enter Try.func4, Try.ntmps4
      ((first | go_at_call 10 | (go_wp2_with fail; go_at_call 10)); refine (head_contract _).mono ?_; rintro _ w1 ⟨rfl, x1⟩)
      have b1 := (Blk.alloc' w #[.string l.id, .int .i64 l.n, .int .i64 l.unit, .int .i64 l.fr, v] 26).ext x1
      have hE1 := (Ext.alloc w _).then_ext x1
      ((first | go_at_call 11 | (go_wp2_with (first | ((with_reducible change wpList _ _ _ (Oper.mk _ (Op.load _ _) _ _ _ _ :: _) _ _); refine BigFrame.wpList_want rfl (fun K hK => ?_); refine op_loadN (p := ⟨w.heap.size, 0, none⟩) (vs := [.string l.id, .int .i64 l.n, .int .i64 l.unit, .int .i64 l.fr, v]) rfl rfl Try.ag26 Try.sz26 (blk_cells b1) ?_; refine hK _ _ ?_; clear hK K)); go_at_call 11)); refine (hfe.out _ hE1).mono ?_; rintro _ w3 ⟨rfl, x3⟩)
      go_wp2_with fail
      go_ret
      exact ⟨rfl, hE1.then_ext x3⟩
    · have hsm : day < 1000000 := by omega
      unfold limCells at hfe hdu hle hpa ⊢
      go_enter Try.func4, Try.ntmps4
      ((first | go_at_call 10 | (go_wp2_with fail; go_at_call 10)); refine (head_contract _).mono ?_; rintro _ w1 ⟨rfl, x1⟩)
      have b1 := (Blk.alloc' w #[.string l.id, .int .i64 l.n, .int .i64 l.unit, .int .i64 l.fr, v] 26).ext x1
      have hE1 := (Ext.alloc w _).then_ext x1
      ((first | go_at_call 11 | (go_wp2_with (first | ((with_reducible change wpList _ _ _ (Oper.mk _ (Op.load _ _) _ _ _ _ :: _) _ _); refine BigFrame.wpList_want rfl (fun K hK => ?_); refine op_loadN (p := ⟨w.heap.size, 0, none⟩) (vs := [.string l.id, .int .i64 l.n, .int .i64 l.unit, .int .i64 l.fr, v]) rfl rfl Try.ag26 Try.sz26 (blk_cells b1) ?_; refine hK _ _ ?_; clear hK K)); go_at_call 11)); refine (hfe.out _ hE1).mono ?_; rintro _ w3 ⟨rfl, x3⟩)
      have b3 := b1.ext x3
      have hE3 := hE1.then_ext x3
      ((first | go_at_call 12 | (go_wp2_with (first | ((with_reducible change wpList _ _ _ (Oper.mk _ (Op.load _ _) _ _ _ _ :: _) _ _); refine BigFrame.wpList_want rfl (fun K hK => ?_); refine op_loadN (p := ⟨w.heap.size, 0, none⟩) (vs := [.string l.id, .int .i64 l.n, .int .i64 l.unit, .int .i64 l.fr, v]) rfl rfl Try.ag26 Try.sz26 (blk_cells b3) ?_; refine hK _ _ ?_; clear hK K)); go_at_call 12)); refine (hdu.out _ hE3).mono ?_; rintro _ w4 ⟨due, e, rfl, hd, x4⟩)
      have b4 := b3.ext x4
      have hE4 := hE3.then_ext x4
      ((first | go_at_call 13 | (go_wp2_with (first | ((with_reducible change wpList _ _ _ (Oper.mk _ (Op.load _ _) _ _ _ _ :: _) _ _); refine BigFrame.wpList_want rfl (fun K hK => ?_); refine op_loadN (p := ⟨w.heap.size, 0, none⟩) (vs := [.string l.id, .int .i64 l.n, .int .i64 l.unit, .int .i64 l.fr, v]) rfl rfl Try.ag26 Try.sz26 (blk_cells b4) ?_; refine hK _ _ ?_; clear hK K)); go_at_call 13)); refine (hle.out _ hE4 day).mono ?_; rintro _ w5 ⟨a, f, rfl, hl1, x5⟩)
      have b5 := b4.ext x5
      have hE5 := hE4.then_ext x5
      ((first | go_at_call 13 | (go_wp2_with (first | ((with_reducible change wpList _ _ _ (Oper.mk _ (Op.load _ _) _ _ _ _ :: _) _ _); refine BigFrame.wpList_want rfl (fun K hK => ?_); refine op_loadN (p := ⟨w.heap.size, 0, none⟩) (vs := [.string l.id, .int .i64 l.n, .int .i64 l.unit, .int .i64 l.fr, v]) rfl rfl Try.ag26 Try.sz26 (blk_cells b5) ?_; refine hK _ _ ?_; clear hK K)); go_at_call 13)); refine (hle.out _ hE5 (day + 1)).mono ?_; rintro _ w6 ⟨b, g, rfl, hl2, x6⟩)
      have b6 := b5.ext x6
      have hE6 := hE5.then_ext x6
      have q1 := LeftIs.bad hd hl1
      have q2 := LeftIs.bad hd hl2
      by_cases he : e = 0
      · subst he
        by_cases hn : day < 0
        · obtain ⟨rfl, rfl⟩ : a = 0 ∧ f = 1 := by
            rcases q1 with ⟨h, -⟩ | ⟨-, h⟩
            · have := dayB_iff.1 h; omega
            · exact h
          clear q1 q2 hl1 hl2 hd
          go_wp2_with fail
          go_ret
          exact ⟨rfl, hE6⟩
        · have d1 : dayB day = true := dayB_iff.2 (by omega)
          have d2 : dayB (day + 1) = true := dayB_iff.2 (by omega)
          obtain ⟨rfl, ha⟩ : f = 0 ∧ a = leftD l day due := by
            rcases q1 with ⟨-, h1, h2, -⟩ | ⟨h, -⟩
            · exact ⟨h1, h2 rfl⟩
            · rw [d1] at h; cases h
          obtain ⟨rfl, hb⟩ : g = 0 ∧ b = leftD l (day + 1) due := by
            rcases q2 with ⟨-, h1, h2, -⟩ | ⟨h, -⟩
            · exact ⟨h1, h2 rfl⟩
            · rw [d2] at h; cases h
          have hout := hd.out
          have hb0 : 0 ≤ b ∧ b ≤ 1000001 := by
            have : leftD l (day + 1) due ≤ (due - (day + 1) + 1).toNat := by
              have := cntF_not (fun x => !l.paused x) (day + 1 - 1) (due - (day + 1) + 1).toNat
              unfold leftD; omega
            omega
          have hstep : day ≤ due → a = b + (if l.paused day then 0 else 1) := fun h => by rw [ha, hb, leftD_step l day due h]; cases l.paused day <;> simp
          have hnone : due < day → a = 0 ∧ b = 0 := fun h => by rw [ha, hb, leftD_out l day due h, leftD_out l (day + 1) due (by omega)]; exact ⟨rfl, rfl⟩
          replace hstep := Lib.hid hstep
          replace hnone := Lib.hid hnone
          have hlast := leftD_last hd
          have hdu1 : dayB due = true := dayB_iff.2 (by omega)
          have hd' := Lib.hid hd
          clear q1 q2 hl1 hl2 d1 d2 hd hout ha hb
          ((first | go_at_call 13 | (go_wp2_with (first | ((with_reducible change wpList _ _ _ (Oper.mk _ (Op.load _ _) _ _ _ _ :: _) _ _); refine BigFrame.wpList_want rfl (fun K hK => ?_); refine op_loadN (p := ⟨w.heap.size, 0, none⟩) (vs := [.string l.id, .int .i64 l.n, .int .i64 l.unit, .int .i64 l.fr, v]) rfl rfl Try.ag26 Try.sz26 (blk_cells b6) ?_; refine hK _ _ ?_; clear hK K)); go_at_call 13)); refine (hle.out _ hE6 due).mono ?_; rintro _ w7 ⟨c, h, rfl, hl3, x7⟩)
          have b7 := b6.ext x7
          have hE7 := hE6.then_ext x7
          obtain ⟨rfl, rfl⟩ : h = 0 ∧ c = 1 := by
            rcases LeftIs.bad hd'.out hl3 with ⟨-, h1, h2, -⟩ | ⟨h, -⟩
            · exact ⟨h1, by rw [h2 rfl, hlast]; rfl⟩
            · rw [hdu1] at h; cases h
          clear hlast hdu1 hl3
          by_cases hle2 : day ≤ due
          · have g1 : decide (day ≤ due) = true := by simpa using hle2
            replace hstep := hstep.out hle2
            cases hp : l.paused day with
            | true =>
              rw [hp] at hstep
              simp only [hp] at hpa
              obtain rfl : a = b := by rw [hstep]; simp
              clear hstep hnone hp
              have q3 : (a == a) = true := by simp
              ((first | go_at_call 14 | (go_wp2_with (first | ((with_reducible change wpList _ _ _ (Oper.mk _ (Op.load _ _) _ _ _ _ :: _) _ _); refine BigFrame.wpList_want rfl (fun K hK => ?_); refine op_loadN (p := ⟨w.heap.size, 0, none⟩) (vs := [.string l.id, .int .i64 l.n, .int .i64 l.unit, .int .i64 l.fr, v]) rfl rfl Try.ag26 Try.sz26 (blk_cells b7) ?_; refine hK _ _ ?_; clear hK K)); go_at_call 14)); refine (hpa _ hE7).mono ?_; rintro _ w8 ⟨rfl, x8⟩)
              go_wp2_with fail
              go_ret
              exact ⟨rfl, hE7.then_ext x8⟩
            | false =>
              rw [hp] at hstep
              simp only [hp] at hpa
              obtain rfl : a = b + 1 := by rw [hstep]; simp
              clear hstep hnone hp
              have q3 : (b + 1 == b + 1) = true := by simp
              ((first | go_at_call 14 | (go_wp2_with (first | ((with_reducible change wpList _ _ _ (Oper.mk _ (Op.load _ _) _ _ _ _ :: _) _ _); refine BigFrame.wpList_want rfl (fun K hK => ?_); refine op_loadN (p := ⟨w.heap.size, 0, none⟩) (vs := [.string l.id, .int .i64 l.n, .int .i64 l.unit, .int .i64 l.fr, v]) rfl rfl Try.ag26 Try.sz26 (blk_cells b7) ?_; refine hK _ _ ?_; clear hK K)); go_at_call 14)); refine (hpa _ hE7).mono ?_; rintro _ w8 ⟨rfl, x8⟩)
              go_wp2_with fail
              go_ret
              exact ⟨rfl, hE7.then_ext x8⟩
          · have g1 : decide (day ≤ due) = false := by simpa using hle2
            obtain ⟨rfl, rfl⟩ := hnone.out (by omega)
            clear hstep hnone hpa
            go_wp2_with fail
            go_ret
            exact ⟨rfl, hE7⟩
      · by_cases hn : day < 0
        · obtain ⟨rfl, rfl⟩ : a = 0 ∧ f = 1 := by
            rcases q1 with ⟨h, -⟩ | ⟨-, h⟩
            · have := dayB_iff.1 h; omega
            · exact h
          clear q1 q2 hl1 hl2 hd
          have he' : (e != 0) = true := by simpa using he
          go_wp2_with fail
          go_ret
          exact ⟨rfl, hE6⟩
        · have d1 : dayB day = true := dayB_iff.2 (by omega)
          obtain ⟨rfl, rfl⟩ : a = 0 ∧ f = e := by
            rcases q1 with ⟨-, h1, -, h2⟩ | ⟨h, -⟩
            · exact ⟨h2 he, h1⟩
            · rw [d1] at h; cases h
          clear q1 q2 hl1 hl2 hd d1
          have he' : (f != 0) = true := by simpa using he
          have he2 : (f == 0) = false := by simpa using he
          go_wp2_with fail
          go_ret
          exact ⟨rfl, hE6⟩
end Go.Proofs.Ytioofhmkeajkpaa
