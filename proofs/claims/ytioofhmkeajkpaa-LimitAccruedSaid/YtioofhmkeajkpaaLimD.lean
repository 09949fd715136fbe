/-
  Contracts of package calendar: leap, days, begin, months.
-/
import Derived.Test.YtioofhmkeajkpaaLimC
namespace Go.Proofs.Ytioofhmkeajkpaa
open Go Go.RowKit PLimitMatchesReference Go.Proofs.YtioofhmkeajkpaaW.PrintWords

attribute [local irreducible] World.cell? World.frozen? isAggB _root_.Go.Program.underlying

theorem leapB_cases (y : Int) : leapB y = (if y % 4 = 0 then (if y % 100 = 0 then decide (y % 400 = 0) else true) else decide (y % 400 = 0)) := by
  unfold leapB
  by_cases h1 : y % 4 = 0 <;> by_cases h2 : y % 100 = 0 <;> simp [h1, h2]

set_option maxRecDepth 100000 in
set_option maxHeartbeats 1000000 in
theorem leap_contract (w : World) (y : Int) (h0 : 0 ≤ y) (h1 : y ≤ 100000) : Calls Try.prog 72 #[.int .i64 y] w fun e w' => e = .returned (.bool (leapB y)) ∧ w = w' := by
  have hl := leapB_cases y
  by_cases a1 : y % 4 = 0
  · rw [if_pos a1] at hl
    by_cases a2 : y % 100 = 0
    · rw [if_pos a2] at hl
      by_cases a3 : y % 400 = 0
      · rw [decide_eq_true a3] at hl
        rw [hl]
        clear hl
        go_enter Try.func72, Try.ntmps72
        go_wp2_with fail
        go_ret
        exact ⟨rfl, rfl⟩
      · rw [decide_eq_false a3] at hl
        rw [hl]
        have b3 : ((y % 400) == 0) = false := by simp [a3]
        clear hl
        go_enter Try.func72, Try.ntmps72
        go_wp2_with fail
        go_ret
        exact ⟨rfl, rfl⟩
    · rw [if_neg a2] at hl
      rw [hl]
      have b2 : ((y % 100) != 0) = true := by simp [a2]
      clear hl
      go_enter Try.func72, Try.ntmps72
      go_wp2_with fail
      go_ret
      exact ⟨rfl, rfl⟩
  · rw [if_neg a1] at hl
    have a3 : ¬ y % 400 = 0 := by omega
    rw [decide_eq_false a3] at hl
    rw [hl]
    have b1 : ((y % 4) == 0) = false := by simp [a1]
    have b3 : ((y % 400) == 0) = false := by simp [a3]
    clear hl
    go_enter Try.func72, Try.ntmps72
    go_wp2_with fail
    go_ret
    exact ⟨rfl, rfl⟩

def daysD (y : Int) : Int := if leapB y then 366 else 365
theorem yearD_succ {y : Int} (h : 1600 ≤ y) : yearD (y + 1) = yearD y + daysD y := by
  unfold daysD
  rw [leapB_cases]
  unfold yearD
  by_cases h1 : y % 4 = 0
  · rw [if_pos h1]
    by_cases h2 : y % 100 = 0
    · rw [if_pos h2]
      by_cases h3 : y % 400 = 0
      · rw [decide_eq_true h3, if_pos rfl]; omega
      · rw [decide_eq_false h3, if_neg (by simp)]; omega
    · rw [if_neg h2, if_pos rfl]; omega
  · rw [if_neg h1, decide_eq_false (by omega), if_neg (by simp)]; omega
theorem yearD_400 {y : Int} (h : 1600 ≤ y) : yearD (y + 400) = yearD y + 146097 := by unfold yearD; omega
theorem yearD_0 : yearD 1600 = 0 := by decide
theorem yearD_le {y : Int} (h0 : 1600 ≤ y) (h : y ≤ 10000) : 0 ≤ yearD y ∧ yearD y ≤ 4000000 := by unfold yearD; omega
theorem daysD_le (y : Int) : 365 ≤ daysD y ∧ daysD y ≤ 366 := by unfold daysD; split <;> omega

set_option maxRecDepth 100000 in
theorem days_contract (w : World) (y : Int) (h0 : 0 ≤ y) (h1 : y ≤ 100000) : Calls Try.prog 71 #[.int .i64 y] w fun e w' => e = .returned (.int .i64 (daysD y)) ∧ w = w' := by
  have hc := leap_contract w y h0 h1
  unfold daysD
  cases hl : leapB y with
  | true =>
    rw [hl] at hc
    replace hc := Lib.hid hc
    rw [if_pos rfl]
    clear hl
    go_enter Try.func71, Try.ntmps71
    ((first | go_at_call 72 | (go_wp2_with fail; go_at_call 72)); refine (hc.out).mono ?_; rintro _ _ ⟨rfl, rfl⟩)
    go_wp2_with fail
    go_ret
    exact ⟨rfl, rfl⟩
  | false =>
    rw [hl] at hc
    replace hc := Lib.hid hc
    rw [if_neg (by simp)]
    clear hl
    go_enter Try.func71, Try.ntmps71
    ((first | go_at_call 72 | (go_wp2_with fail; go_at_call 72)); refine (hc.out).mono ?_; rintro _ _ ⟨rfl, rfl⟩)
    go_wp2_with fail
    go_ret
    exact ⟨rfl, rfl⟩

set_option maxRecDepth 100000 in
set_option maxHeartbeats 1000000 in
theorem begin_contract (w : World) (y : Int) (h0 : 1600 ≤ y) (h1 : y ≤ 9999) : Calls Try.prog 73 #[.int .i64 y] w fun e w' => e = .returned (.int .i64 (yearD y)) ∧ w = w' := by
  go_enter Try.func73, Try.ntmps73
  go_wp2_with fail
  go_loop [3, 4] (fun n u => ∃ x : Int, u = .int .i64 x ∧ n = .int .i64 (yearD x) ∧ 1600 ≤ x ∧ x ≤ y) (fun _ u => (10000 - intOf u).toNat)
  case atStart => exact ⟨1600, rfl, by rw [yearD_0], by omega, h0⟩
  case round =>
    obtain ⟨x, rfl, rfl, hx0, hx1⟩ := hrel
    have hb := yearD_le hx0 (by omega)
    have hd := daysD_le x
    by_cases hlt : x < y
    · have hs := Lib.hid (yearD_succ hx0)
      have h4 := Lib.hid (yearD_400 hx0)
      have hc := Lib.hid (days_contract w x (by omega) (by omega))
      by_cases hq : x % 400 = 0
      · by_cases hr : x + 400 ≤ y
        · go_wp2_with fail
          exact ⟨⟨x + 400, by go_num, by rw [h4.out], by omega, by omega⟩, by simp [intOf]; omega⟩
        · ((first | go_at_call 71 | (go_wp2_with fail; go_at_call 71)); refine (hc.out).mono ?_; rintro _ _ ⟨rfl, rfl⟩)
          go_wp2_with fail
          exact ⟨⟨x + 1, by go_num, by rw [hs.out], by omega, by omega⟩, by simp [intOf]; omega⟩
      · ((first | go_at_call 71 | (go_wp2_with fail; go_at_call 71)); refine (hc.out).mono ?_; rintro _ _ ⟨rfl, rfl⟩)
        go_wp2_with fail
        exact ⟨⟨x + 1, by go_num, by rw [hs.out], by omega, by omega⟩, by simp [intOf]; omega⟩
    · have e : x = y := by omega
      subst e
      go_wp2_with fail
      go_ret
      exact ⟨rfl, rfl⟩

theorem Try.ag74 : isAggB Try.prog 74 = some true := by kernel_rfl
theorem Try.sz74 : (Try.prog.info? 74).map (·.size) = some 12 := by kernel_rfl
def monL (y : Int) : List Int := [31, if leapB y then 29 else 28, 31, 30, 31, 30, 31, 31, 30, 31, 30, 31]
def monV (y : Int) : Value := .agg ((monL y).map (Value.int .i64)).toArray
set_option maxRecDepth 100000 in
set_option maxHeartbeats 1000000 in
theorem monthsA_contract (w : World) (y : Int) (h0 : 1600 ≤ y) (h1 : y ≤ 9999) : Calls Try.prog 61 #[.int .i64 y] w fun e w' => e = .returned (monV y) ∧ Ext w w' := by
  have hc := fun w => leap_contract w y (by omega) (by omega)
  unfold monV monL
  cases hl : leapB y with
  | true =>
    rw [hl] at hc
    replace hc := Lib.hid hc
    rw [if_pos rfl]
    clear hl
    go_enter Try.func61, Try.ntmps61
    ((first | go_at_call 72 | (go_wp2_with fail; go_at_call 72)); refine (hc.out _).mono ?_; rintro _ _ ⟨rfl, rfl⟩)
    go_wp2_with fail
    exact bodyPost_ret (results_cell (vs := [31, 29, 31, 30, 31, 30, 31, 31, 30, 31, 30, 31].map (Value.int .i64)) Try.results61 rfl Try.ag74 Try.sz74 (blk_cells (obj_alloc (obj_new w _) _))) rfl ⟨rfl, Touch.alloc (Ext.alloc w _) _⟩
  | false =>
    rw [hl] at hc
    replace hc := Lib.hid hc
    rw [if_neg (by simp)]
    clear hl
    go_enter Try.func61, Try.ntmps61
    ((first | go_at_call 72 | (go_wp2_with fail; go_at_call 72)); refine (hc.out _).mono ?_; rintro _ _ ⟨rfl, rfl⟩)
    go_wp2_with fail
    exact bodyPost_ret (results_cell (vs := [31, 28, 31, 30, 31, 30, 31, 31, 30, 31, 30, 31].map (Value.int .i64)) Try.results61 rfl Try.ag74 Try.sz74 (blk_cells (obj_alloc (obj_new w _) _))) rfl ⟨rfl, Touch.alloc (Ext.alloc w _) _⟩
end Go.Proofs.Ytioofhmkeajkpaa
