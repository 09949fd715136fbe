/-
  Contracts of package calendar: Day, months.
-/
import Derived.Test.YtioofhmkeajkpaaLimE
namespace Go.Proofs.Ytioofhmkeajkpaa
open Go Go.RowKit PLimitMatchesReference Go.Proofs.YtioofhmkeajkpaaW.PrintWords

attribute [local irreducible] World.cell? World.frozen? isAggB _root_.Go.Program.underlying

theorem cumD_le (y : Int) : ∀ m : Nat, 0 ≤ cumD y m ∧ cumD y m ≤ 31 * m
  | 0 => by simp [cumD]
  | 1 => by simp [cumD]
  | m + 2 => by
    have h1 := cumD_le y (m + 1)
    have h2 := monD_le y (m + 1)
    simp only [cumD]
    push_cast at *
    omega

theorem monV_index (y : Int) (k : Nat) (hk : k < 12) (w : World) : (Instr.index 74 (monV y) (.int .i64 k)).run Try.prog w = .ok (.int .i64 (monD y (k + 1))) w := by
  have e : Value.int .i64 (monD y (k + 1)) = ((monL y).map (Value.int .i64)).getD k undef := by
    simp [monL_get y k hk]
  rw [e]
  rcases k with _ | _ | _ | _ | _ | _ | _ | _ | _ | _ | _ | _ | k
  all_goals first
    | omega
    | (show _ = _; kernel_rfl)
theorem monV_slice (g : Nat) (k : Nat) (hk : k < 12) (w : World) : (Instr.sliceAt 74 (.pointer (some ⟨g, 0, none⟩)) none (some (.int .i64 k)) none).run Try.prog w = .ok (.slice (some ⟨g, 0, none⟩) k 12) w := by
  rcases k with _ | _ | _ | _ | _ | _ | _ | _ | _ | _ | _ | _ | k
  all_goals first
    | omega
    | (show _ = _; kernel_rfl)
def DayIs (y m d r e : Int) : Prop := ∃ v, v = yearD y + cumD y m.toNat + d - 1 ∧ ((v ≤ 1000000 ∧ r = v ∧ e = 0) ∨ (1000000 < v ∧ r = 0 ∧ e = 10))
def DayPost (y m d : Int) (w : World) (e : Ending) (w' : World) : Prop :=
  ∃ r f, e = .returned (.tuple #[.int .i64 r, .int .i64 f]) ∧ DayIs y m d r f ∧ Ext w w'
set_option maxRecDepth 100000 in
set_option maxHeartbeats 4000000 in
theorem day_contract (w : World) (y m d : Int) (hy0 : 1600 ≤ y) (hy1 : y ≤ 9999) (hm0 : 1 ≤ m) (hm1 : m ≤ 12) (hd0 : 1 ≤ d) (hd1 : d ≤ monD y m) :
    Calls Try.prog 62 #[.int .i64 y, .int .i64 m, .int .i64 d] w fun e w' => DayPost y m d w e w' := by
  have hmd := monD_le y m
  have hyl := yearD_le hy0 (by omega)
  have hma := Lib.hid (fun w => monthsA_contract w y hy0 hy1)
  have hbe := Lib.hid (fun w => begin_contract w y hy0 hy1)
  have hnd : ¬ monD y m < d := by omega
  obtain ⟨k, rfl⟩ : ∃ k : Nat, m = (k : Int) + 1 := ⟨(m - 1).toNat, by omega⟩
  have hidx : ∀ w : World, (Instr.index 74 (monV y) (.int .i64 k)).run Try.prog w = .ok (.int .i64 (monD y (k + 1))) w := fun w => monV_index y k (by omega) w
  go_enter Try.func62, Try.ntmps62
  ((first | go_at_call 61 | (go_wp2_with fail; go_at_call 61)); refine (hma.out _).mono ?_; rintro _ w1 ⟨rfl, x1⟩)
  ((first | go_at_call 73 | (go_wp2_with fail; go_at_call 73)); refine (hbe.out _).mono ?_; rintro _ _ ⟨rfl, rfl⟩)
  ((first | go_at_call 61 | (go_wp2_with fail; go_at_call 61)); refine (hma.out _).mono ?_; rintro _ w2 ⟨rfl, x2⟩)
  clear hidx
  have hsl := fun w => monV_slice w2.heap.size k (by omega) w
  go_wp2_with (first
    | ((with_reducible change wpList _ _ _ (Oper.mk _ (Op.store _ _ _) _ _ _ _ :: _) _ _); refine BigFrame.wpList_want rfl (fun K hK => ?_); refine op_storeN (g := w2.heap.size) (i := 0) (T := 74) (vs := (monL y).map (Value.int .i64)) rfl rfl rfl (Try.szM y) (monL_one y) (obj_new _ _) (by simp [monL]) ?_; intro w4 hb4 ht4 hz4; refine hK _ _ ?_; clear hK K))
  have hb := hb4.storeAll (by simp [monL])
  have hE4 : Ext w w4 := (x1.then_ext x2).then_ext (Ext.new ht4)
  clear hb4 ht4 hz4
  go_loop [8, 11, 48] (fun n l u => ∃ j : Nat, u = .int .i64 j ∧ n = .int .i64 (yearD y + d - 1 + cumD y (j + 1)) ∧ j ≤ k) (fun _ _ u => k - (intOf u).toNat)
  case atStart => exact ⟨0, rfl, by simp [cumD], Nat.zero_le _⟩
  case round =>
    obtain ⟨j, rfl, rfl, hj⟩ := hrel
    have hcl := cumD_le y (j + 1)
    by_cases hlt : j < k
    · have hcell := Lib.hid (monV_cells y hb j (by omega))
      have hmj := monD_le y (j + 1)
      have hcum : cumD y (j + 1 + 1) = cumD y (j + 1) + monD y ((j : Int) + 1) := by
        have := cumD_succ y (j + 1) (by omega)
        push_cast at this
        exact this
      replace hcum := Lib.hid hcum
      go_wp2_with (first
        | ((with_reducible change wpList _ _ _ (Oper.mk _ (Op.load _ _) _ _ _ _ :: _) _ _); refine BigFrame.wpList_want rfl (fun K hK => ?_); refine op_load1 rfl rfl Try.ag3 hcell.out ?_; refine hK _ _ ?_; clear hK K))
      exact ⟨⟨j + 1, by go_num, by rw [hcum.out]; go_num, by omega⟩, by simp [intOf]; omega⟩
    · have e : j = k := by omega
      subst e
      have hm1 : ((j : Int) + 1).toNat = j + 1 := by omega
      have hm1 := Lib.hid hm1
      by_cases hv : yearD y + d - 1 + cumD y (j + 1) ≤ 1000000
      · have his := is_contract w4 (yearD y + d - 1 + cumD y (j + 1))
        rw [dayB_iff.2 ⟨by omega, hv⟩] at his
        replace his := Lib.hid his
        ((first | go_at_call 42 | (go_wp2_with fail; go_at_call 42)); refine (his.out).mono ?_; rintro _ w5 ⟨rfl, x5⟩)
        go_wp2_with fail
        go_ret2
        exact ⟨_, _, rfl, ⟨_, rfl, .inl ⟨by rw [hm1.out]; omega, by rw [hm1.out]; omega, rfl⟩⟩, hE4.then_ext x5⟩
      · have his := is_contract w4 (yearD y + d - 1 + cumD y (j + 1))
        rw [show dayB (yearD y + d - 1 + cumD y (j + 1)) = false from by simp [dayB]; omega] at his
        replace his := Lib.hid his
        ((first | go_at_call 42 | (go_wp2_with fail; go_at_call 42)); refine (his.out).mono ?_; rintro _ w5 ⟨rfl, x5⟩)
        go_wp2_with fail
        go_ret2
        exact ⟨_, _, rfl, ⟨_, rfl, .inr ⟨by rw [hm1.out]; omega, rfl, rfl⟩⟩, hE4.then_ext x5⟩

def MonthsPost (day n : Int) (w : World) (e : Ending) (w' : World) : Prop :=
  ∃ r f, e = .returned (.tuple #[.int .i64 r, .int .i64 f]) ∧ MonthsIs day n r f ∧ Ext w w'
set_option maxRecDepth 100000 in
set_option maxHeartbeats 4000000 in
theorem months_contract (w : World) (day n : Int) (h0 : 0 ≤ day) (h1 : day ≤ 1000000) (n0 : 0 ≤ n) (n1 : n ≤ 20000000) :
    Calls Try.prog 46 #[.int .i64 day, .int .i64 n] w fun e w' => MonthsPost day n w e w' := by
  have hda := Lib.hid (date_contract w day h0 h1)
  go_enter Try.func46, Try.ntmps46
  ((first | go_at_call 60 | (go_wp2_with fail; go_at_call 60)); refine (hda.out).mono ?_; rintro _ w1 ⟨y, m, d, rfl, hdate, x1⟩)
  have hdate' := Lib.hid hdate
  obtain ⟨hy1, hm1, hm12, hd1, hdm, heq⟩ := hdate
  have hge := yearD_ge hy1
  have hcl := cumD_le y m.toNat
  have hyb : y ≤ 5000 := by omega
  clear heq hge hcl
  obtain ⟨t, ht⟩ : ∃ t, 12 * y + m - 1 + n = t := ⟨_, rfl⟩
  have ht2 : n + (12 * y + m - 1) = t := by omega
  have ht0 : 19200 ≤ t := by omega
  have ht1 : t ≤ 30000000 := by omega
  by_cases hbig : 9999 < t / 12
  · go_wp2_with fail
    go_ret2
    exact ⟨_, _, rfl, ⟨y, m, d, hdate'.out, .inl ⟨by rw [ht]; exact hbig, rfl, rfl⟩⟩, x1⟩
  · have hma := Lib.hid (monthsA_contract w1 (t / 12) (by omega) (by omega))
    ((first | go_at_call 61 | (go_wp2_with fail; go_at_call 61)); refine (hma.out).mono ?_; rintro _ w2 ⟨rfl, x2⟩)
    obtain ⟨k, hk⟩ : ∃ k : Nat, t % 12 = (k : Int) := ⟨(t % 12).toNat, by omega⟩
    have hk12 : k < 12 := by omega
    have hml := monD_le (t / 12) (k + 1)
    by_cases hdl : d ≤ monD (t / 12) (k + 1)
    · go_wp2_with (first
        | ((with_reducible change wpList _ _ _ (Oper.mk _ (Op.store _ _ _) _ _ _ _ :: _) _ _); refine BigFrame.wpList_want rfl (fun K hK => ?_); refine op_storeN (g := w2.heap.size) (i := 0) (T := 74) (vs := (monL (t / 12)).map (Value.int .i64)) rfl rfl rfl (Try.szM _) (monL_one _) (obj_new _ _) (by simp [monL]) ?_; intro w4 hb4 ht4 hz4; refine hK _ _ ?_; clear hK K)
        | ((with_reducible change wpList _ _ _ (Oper.mk _ (Op.load _ _) _ _ _ _ :: _) _ _); refine BigFrame.wpList_want rfl (fun K hK => ?_); refine op_load1 rfl rfl Try.ag3 (monV_cells (t / 12) (hb4.storeAll (by simp [monL])) k hk12) ?_; refine hK _ _ ?_; clear hK K))
      have hE4 : Ext w w4 := (x1.then_ext x2).then_ext (Ext.new ht4)
      ((first | go_at_call 62 | (go_wp2_with fail; go_at_call 62)); refine (day_contract w4 (t / 12) (k + 1) d (by omega) (by omega) (by omega) (by omega) (by omega) hdl).mono ?_; rintro _ w5 ⟨r, f, rfl, hd, x5⟩)
      go_wp2_with fail
      go_ret2
      refine ⟨r, f, rfl, ⟨y, m, d, hdate'.out, .inr ⟨by rw [ht]; omega, ?_⟩⟩, hE4.then_ext x5⟩
      rw [ht, hk, Int.min_eq_left hdl]
      exact hd
    · go_wp2_with (first
        | ((with_reducible change wpList _ _ _ (Oper.mk _ (Op.store _ _ _) _ _ _ _ :: _) _ _); refine BigFrame.wpList_want rfl (fun K hK => ?_); refine op_storeN (g := w2.heap.size) (i := 0) (T := 74) (vs := (monL (t / 12)).map (Value.int .i64)) rfl rfl rfl (Try.szM _) (monL_one _) (obj_new _ _) (by simp [monL]) ?_; intro w4 hb4 ht4 hz4; refine hK _ _ ?_; clear hK K)
        | ((with_reducible change wpList _ _ _ (Oper.mk _ (Op.load _ _) _ _ _ _ :: _) _ _); refine BigFrame.wpList_want rfl (fun K hK => ?_); refine op_load1 rfl rfl Try.ag3 (monV_cells (t / 12) (hb4.storeAll (by simp [monL])) k hk12) ?_; refine hK _ _ ?_; clear hK K))
      have hE4 : Ext w w4 := (x1.then_ext x2).then_ext (Ext.new ht4)
      ((first | go_at_call 62 | (go_wp2_with fail; go_at_call 62)); refine (day_contract w4 (t / 12) (k + 1) (monD (t / 12) (k + 1)) (by omega) (by omega) (by omega) (by omega) (by omega) (Int.le_refl _)).mono ?_; rintro _ w5 ⟨r, f, rfl, hd, x5⟩)
      go_wp2_with fail
      go_ret2
      refine ⟨r, f, rfl, ⟨y, m, d, hdate'.out, .inr ⟨by rw [ht]; omega, ?_⟩⟩, hE4.then_ext x5⟩
      rw [ht, hk, Int.min_eq_right (by omega)]
      exact hd
end Go.Proofs.Ytioofhmkeajkpaa
