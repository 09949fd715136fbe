/-
  Contracts of package calendar: Date.
-/
import Derived.Test.YtioofhmkeajkpaaLimD
namespace Go.Proofs.Ytioofhmkeajkpaa
open Go Go.RowKit PLimitMatchesReference Go.Proofs.YtioofhmkeajkpaaW.PrintWords

attribute [local irreducible] World.cell? World.frozen? isAggB _root_.Go.Program.underlying

theorem yearD_ge {y : Int} (h : 1600 ≤ y) : 365 * (y - 1600) ≤ yearD y := by unfold yearD; omega
theorem yearD_k (k : Int) (h0 : 0 ≤ k) : yearD (1600 + k * 400) = 146097 * k := by unfold yearD; omega
theorem cumD_succ (y : Int) (m : Nat) (h : 1 ≤ m) : cumD y (m + 1) = cumD y m + monD y m := by
  obtain ⟨k, rfl⟩ : ∃ k, m = k + 1 := ⟨m - 1, by omega⟩
  simp only [cumD]
  norm_cast
theorem cumD_13 (y : Int) : cumD y 13 = daysD y := by
  unfold daysD
  cases h : leapB y <;> simp [cumD, monD, h]
theorem monD_le (y m : Int) : 28 ≤ monD y m ∧ monD y m ≤ 31 := by
  unfold monD
  split
  · split <;> omega
  · split <;> omega
theorem monL_get (y : Int) (m : Nat) (h : m < 12) : (monL y)[m]? = some (monD y (m + 1)) := by
  rcases m with _ | _ | _ | _ | _ | _ | _ | _ | _ | _ | _ | _ | m
  all_goals first
    | omega
    | (simp [monL, monD]; done)
    | (simp [monL, monD]; omega)
theorem monV_cells (y : Int) {w : World} {g : Nat} (h : Blk w g 74 ((monL y).map (Value.int .i64)).toArray) (m : Nat) (hm : m < 12) : w.cell? ⟨g, m, none⟩ = some (.int .i64 (monD y (m + 1))) := by
  refine h.cell ?_
  simp [monL_get y m hm]

theorem Try.szM (y : Int) : (Try.prog.info? 74).map (·.size) = some ((monL y).map (Value.int .i64)).length := by rw [Try.sz74]; rfl
theorem monL_one (y : Int) : ∀ u ∈ (monL y).map (Value.int .i64), u.oneCell' = true := by
  intro u hu
  obtain ⟨a, _, rfl⟩ := List.mem_map.1 hu
  rfl
theorem results_tmp4 {fn : Func} {t u v x : Tmp} (h : fn.results = #[.tmp t, .tmp u, .tmp v, .tmp x]) (tmps : Array Value) (P : Program) (w : World) :
    (results fn tmps).run P w = .ok (.tuple #[tmps.getD t undef, tmps.getD u undef, tmps.getD v undef, tmps.getD x undef]) w := by
  simp [results, h]
def DatePost (day : Int) (w : World) (e : Ending) (w' : World) : Prop :=
  ∃ y m d, e = .returned (.tuple #[.int .i64 y, .int .i64 m, .int .i64 d, .int .i64 0]) ∧ IsDate day y m d ∧ Ext w w'
set_option maxRecDepth 100000 in
set_option maxHeartbeats 4000000 in
theorem date_contract (w : World) (day : Int) (h0 : 0 ≤ day) (h1 : day ≤ 1000000) : Calls Try.prog 60 #[.int .i64 day] w fun e w' => DatePost day w e w' := by
  have hc := is_contract w day
  rw [dayB_iff.2 ⟨h0, h1⟩] at hc
  replace hc := Lib.hid hc
  go_enter Try.func60, Try.ntmps60
  ((first | go_at_call 42 | (go_wp2_with fail; go_at_call 42)); refine (hc.out).mono ?_; rintro _ w1 ⟨rfl, x1⟩)
  go_wp2_with fail
  go_loop [0, 6] (fun r y => ∃ x q : Int, y = .int .i64 x ∧ r = .int .i64 q ∧ 1600 ≤ x ∧ x ≤ 5000 ∧ 0 ≤ q ∧ q ≤ 1000000 ∧ yearD x + q = day) (fun r _ => (intOf r).toNat)
  case atStart =>
    have hk := yearD_k (day / 146097) (by omega)
    exact ⟨_, _, rfl, rfl, by omega, by omega, by omega, by omega, by rw [hk]; omega⟩
  case round =>
    obtain ⟨x, q, rfl, rfl, hx0, hx1, hq0, hq1, heq⟩ := hrel
    have hd := daysD_le x
    have hge := yearD_ge hx0
    have heq' := Lib.hid heq
    have hdc := Lib.hid (days_contract w1 x (by omega) (by omega))
    have hys := Lib.hid (yearD_succ hx0)
    have hxb : x ≤ 4400 := by omega
    clear heq hge
    by_cases hlt : q < daysD x
    · have hlt' : ¬ daysD x ≤ q := by omega
      ((first | go_at_call 71 | (go_wp2_with fail; go_at_call 71)); refine (hdc.out).mono ?_; rintro _ _ ⟨rfl, rfl⟩)
      have hma := Lib.hid (monthsA_contract w1 x hx0 (by omega))
      ((first | go_at_call 61 | (go_wp2_with fail; go_at_call 61)); refine (hma.out).mono ?_; rintro _ w2 ⟨rfl, x2⟩)
      go_wp2_with (first
        | ((with_reducible change wpList _ _ _ (Oper.mk _ (Op.store _ _ _) _ _ _ _ :: _) _ _); refine BigFrame.wpList_want rfl (fun K hK => ?_); refine op_storeN (g := w2.heap.size) (i := 0) (T := 74) (vs := (monL x).map (Value.int .i64)) rfl rfl rfl (Try.szM x) (monL_one x) (obj_new _ _) (by simp [monL]) ?_; intro w4 hb4 ht4 hz4; refine hK _ _ ?_; clear hK K))
      have hb := hb4.storeAll (by simp [monL])
      have hE4 : Ext w w4 := (x1.then_ext x2).then_ext (Ext.new ht4)
      clear hb4 ht4 hz4
      dsimp only [Act.put]
      go_loopw [0, 7, 8] (fun r u p W => ∃ (m : Nat) (q' : Int) (g : Nat), r = .int .i64 q' ∧ u = .int .i64 m ∧ p = .pointer (some ⟨g, 0, none⟩) ∧ m ≤ 11 ∧ 0 ≤ q' ∧ q' ≤ 366 ∧ q' + cumD x (m + 1) = q ∧ Blk W g 74 ((monL x).map (Value.int .i64)).toArray ∧ Ext w W) (fun _ u _ _ => 12 - (intOf u).toNat)
      case atStart => exact ⟨0, q, _, rfl, rfl, rfl, by omega, by omega, by omega, by simp [cumD], hb, hE4⟩
      case round =>
        obtain ⟨m, q', g, rfl, rfl, rfl, hm, hq'0, hq'1, hqc, hbW, hEW⟩ := hrel
        have hcell := Lib.hid (monV_cells x hbW m (by omega))
        have hmd := monD_le x (m + 1)
        have hqc' := Lib.hid hqc
        clear hqc
        have hcum : cumD x (m + 1 + 1) = cumD x (m + 1) + monD x ((m : Int) + 1) := by
          have := cumD_succ x (m + 1) (by omega)
          push_cast at this
          exact this
        replace hcum := Lib.hid hcum
        by_cases hlt2 : monD x (m + 1) ≤ q'
        · have hm2 : m + 1 ≤ 11 := by
            by_cases h : m + 1 ≤ 11
            · exact h
            · have e : m = 11 := by omega
              have h13 := cumD_13 x
              have h12 := hcum.out
              have h14 := hqc'.out
              subst e
              simp only [Nat.reduceAdd] at h12 h14
              omega
          go_wp2_with (first
            | ((with_reducible change wpList _ _ _ (Oper.mk _ (Op.load _ _) _ _ _ _ :: _) _ _); refine BigFrame.wpList_want rfl (fun K hK => ?_); refine op_load1 rfl rfl Try.ag3 hcell.out ?_; refine hK _ _ ?_; clear hK K)
            | ((with_reducible change wpList _ _ _ (Oper.mk _ (Op.load _ _) _ _ _ _ :: _) _ _); refine BigFrame.wpList_want rfl (fun K hK => ?_); refine op_loadN (p := ⟨g, 0, none⟩) (vs := (monL x).map (Value.int .i64)) rfl rfl Try.ag74 (Try.szM x) (blk_cells hbW) ?_; refine hK _ _ ?_; clear hK K)
            | ((with_reducible change wpList _ _ _ (Oper.mk _ (Op.store _ _ _) _ _ _ _ :: _) _ _); refine BigFrame.wpList_want rfl (fun K hK => ?_); refine op_storeN (g := wr.heap.size) (i := 0) (T := 74) (vs := (monL x).map (Value.int .i64)) rfl rfl rfl (Try.szM x) (monL_one x) (obj_new _ _) (by simp [monL]) ?_; intro w5 hb5 ht5 hz5; refine hK _ _ ?_; clear hK K))
          have hb6 := hb5.storeAll (by simp [monL])
          have hE6 : Ext w w5 := hEW.then_ext (Ext.new ht5)
          clear hb5 ht5 hz5
          exact ⟨⟨m + 1, q' - monD x (m + 1), _, by go_num, by go_num, rfl, by omega, by omega, by omega, by have h1 := hqc'.out; have h2 := hcum.out; rw [h2]; push_cast; omega, hb6, hE6⟩, by simp [intOf]; omega⟩
        · go_wp2_with (first
            | ((with_reducible change wpList _ _ _ (Oper.mk _ (Op.load _ _) _ _ _ _ :: _) _ _); refine BigFrame.wpList_want rfl (fun K hK => ?_); refine op_load1 rfl rfl Try.ag3 hcell.out ?_; refine hK _ _ ?_; clear hK K))
          (try simp only [Exit.inBlock, Exit.then])
          refine bodyPost_ret (results_tmp4 rfl _ _ _) rfl ⟨x, (m : Int) + 1, q' + 1, rfl, ⟨hx0, by omega, by omega, by omega, by omega, ?_⟩, hEW⟩
          have h14 := hqc'.out
          have h15 := heq'.out
          rw [show ((m : Int) + 1).toNat = m + 1 by omega]
          omega
    · have hlt' : daysD x ≤ q := by omega
      ((first | go_at_call 71 | (go_wp2_with fail; go_at_call 71)); refine (hdc.out).mono ?_; rintro _ _ ⟨rfl, rfl⟩)
      ((first | go_at_call 71 | (go_wp2_with fail; go_at_call 71)); refine (hdc.out).mono ?_; rintro _ _ ⟨rfl, rfl⟩)
      go_wp2_with fail
      exact ⟨⟨x + 1, q - daysD x, by go_num, by go_num, by omega, by omega, by omega, by omega, by have := heq'.out; rw [hys.out]; omega⟩, by simp [intOf]; omega⟩
end Go.Proofs.Ytioofhmkeajkpaa
