-- PRINTED BY print.sh 35421559b90ae4d0a3588c463048766b98c2df88dd9212a6774a882060cdf62d: not written by this session
import Derived.Test.YtioofhmkeajkpaaPLimitMatchesReferencex0
namespace Go.Proofs.Ytioofhmkeajkpaa.PLimitMatchesReference
open Go.RowKit Go.Proofs.YtioofhmkeajkpaaW.PrintWords Go.Proofs.YtioofhmkeajkpaaW.PrintLast Go.Proofs.YtioofhmkeajkpaaW.PrintMore
attribute [local go_sem] max2_int min2_int max_two min_two max_three min_three max_four min_four   -- for this text's walks alone
set_option linter.unusedVariables false
set_option linter.unusedSimpArgs false

/-! ### limit_isName: function 50 -/
def limit_isName.l0 : Nat → ByteArray → Int → Int → Option (Bool)
  | 0, _, _, _ => none
  | k + 1, x0, x8, x9 => if x9 < x8 then (if 0 ≤ x9 then (if x9 < (x0.size : Int) then (if (bt x0 x9) ≥ 97 then (if (bt x0 x9) ≤ 122 then (if (bt x0 x9) ≥ 48 then (if (bt x0 x9) ≤ 57 then (limit_isName.l0 k x0 x8 (wrap64 (x9 + 1))) else (limit_isName.l0 k x0 x8 (wrap64 (x9 + 1)))) else (limit_isName.l0 k x0 x8 (wrap64 (x9 + 1)))) else (if (bt x0 x9) ≥ 65 then (if (bt x0 x9) ≥ 48 then (if (bt x0 x9) ≤ 57 then (if ((bt x0 x9) ≤ 90) then (limit_isName.l0 k x0 x8 (wrap64 (x9 + 1))) else (if x9 = 0 then (some false) else (limit_isName.l0 k x0 x8 (wrap64 (x9 + 1))))) else (if ((bt x0 x9) ≤ 90) then (limit_isName.l0 k x0 x8 (wrap64 (x9 + 1))) else (if x9 = 0 then (some false) else (if ((bt x0 x9) = 95) then (limit_isName.l0 k x0 x8 (wrap64 (x9 + 1))) else (some false))))) else (if ((bt x0 x9) ≤ 90) then (limit_isName.l0 k x0 x8 (wrap64 (x9 + 1))) else (if x9 = 0 then (some false) else (if ((bt x0 x9) = 95) then (limit_isName.l0 k x0 x8 (wrap64 (x9 + 1))) else (some false))))) else (if (bt x0 x9) ≥ 48 then (if (bt x0 x9) ≤ 57 then (if x9 = 0 then (some false) else (limit_isName.l0 k x0 x8 (wrap64 (x9 + 1)))) else (if x9 = 0 then (some false) else (if ((bt x0 x9) = 95) then (limit_isName.l0 k x0 x8 (wrap64 (x9 + 1))) else (some false)))) else (if x9 = 0 then (some false) else (if ((bt x0 x9) = 95) then (limit_isName.l0 k x0 x8 (wrap64 (x9 + 1))) else (some false)))))) else (if (bt x0 x9) ≥ 65 then (if (bt x0 x9) ≥ 48 then (if (bt x0 x9) ≤ 57 then (if ((bt x0 x9) ≤ 90) then (limit_isName.l0 k x0 x8 (wrap64 (x9 + 1))) else (if x9 = 0 then (some false) else (limit_isName.l0 k x0 x8 (wrap64 (x9 + 1))))) else (if ((bt x0 x9) ≤ 90) then (limit_isName.l0 k x0 x8 (wrap64 (x9 + 1))) else (if x9 = 0 then (some false) else (if ((bt x0 x9) = 95) then (limit_isName.l0 k x0 x8 (wrap64 (x9 + 1))) else (some false))))) else (if ((bt x0 x9) ≤ 90) then (limit_isName.l0 k x0 x8 (wrap64 (x9 + 1))) else (if x9 = 0 then (some false) else (if ((bt x0 x9) = 95) then (limit_isName.l0 k x0 x8 (wrap64 (x9 + 1))) else (some false))))) else (if (bt x0 x9) ≥ 48 then (if (bt x0 x9) ≤ 57 then (if x9 = 0 then (some false) else (limit_isName.l0 k x0 x8 (wrap64 (x9 + 1)))) else (if x9 = 0 then (some false) else (if ((bt x0 x9) = 95) then (limit_isName.l0 k x0 x8 (wrap64 (x9 + 1))) else (some false)))) else (if x9 = 0 then (some false) else (if ((bt x0 x9) = 95) then (limit_isName.l0 k x0 x8 (wrap64 (x9 + 1))) else (some false)))))) else (none)) else (none)) else (if x0.toList = ([] : List UInt8) then (some false) else (some (decide ((x0.size : Int) ≤ 24))))
def limit_isName.f (k : Nat) (a0 : ByteArray) : Option (Bool) := limit_isName.l0 k a0 (a0.size : Int) 0
theorem limit_isName.mono_l : ∀ k, (∀ y0 y1 y2, LeO (limit_isName.l0 k y0 y1 y2) (limit_isName.l0 (k + 1) y0 y1 y2))
  | 0 => fun _ _ _ r h => by simp [limit_isName.l0] at h
  | k + 1 => by
    have ih0 := limit_isName.mono_l k
    · intro y0 y1 y2
      unfold limit_isName.l0
      repeat' first
      | (with_reducible exact ih0 _ _ _)
      | (with_reducible exact LeO.refl _)
      | (with_reducible exact LeO.none _)
      | (with_reducible refine LeO.ite ?_ ?_)
      | (with_reducible refine LeO.bind ?_ (fun _ => ?_))
      | exact ih0 _ _ _
      | exact LeO.none _
      | refine LeO.ite ?_ ?_
      | refine LeO.bind ?_ (fun _ => ?_)
theorem limit_isName.mono : ∀ a0 k, LeO (limit_isName.f k a0) (limit_isName.f (k + 1) a0) := by
  intro a0 k
  have ih0 := limit_isName.mono_l k
  unfold limit_isName.f
  repeat' first
      | (with_reducible exact ih0 _ _ _)
      | (with_reducible exact LeO.refl _)
      | (with_reducible exact LeO.none _)
      | (with_reducible refine LeO.ite ?_ ?_)
      | (with_reducible refine LeO.bind ?_ (fun _ => ?_))
      | exact ih0 _ _ _
      | exact LeO.none _
      | refine LeO.ite ?_ ?_
      | refine LeO.bind ?_ (fun _ => ?_)
set_option maxHeartbeats 8000000 in
set_option maxRecDepth 100000 in
theorem limit_isName.calls (k : Nat) (a0 : ByteArray) (r : Bool) (w : World) (h : limit_isName.f k a0 = some r) :
    Calls Try.prog 50 #[.string a0] w fun e w' => e = .returned (.bool r) ∧ Drawn0 w w' := by
  have H : (limit_isName.l0 k a0 (a0.size : Int) 0) = some r := h
  clear h
  have H' := Aside0.mk H
  clear H
  go_enter Try.func50, Try.ntmps50
  go_wp2
  go_loopg [9] k (fun kq v9 w' => ∃ (x9_1 : Int), v9 = .int .i64 x9_1 ∧ Aside0 (limit_isName.l0 kq a0 (a0.size : Int) x9_1 = some r) ∧ Aside0 (kq ≤ k) ∧ Drawn0 w w')
  case atStart => exact ⟨(0), (by first | rfl | (simp; done) | (simp [*]; done)), H', ⟨Nat.le_refl _⟩, by repeat (first | exact Drawn0.refl _ | apply Drawn0.step)⟩
  case round =>
    clear H'
    obtain ⟨x9_1, rfl, HA, HK1, ⟨m1, rfl⟩⟩ := hrel
    cases gk with
    | zero => exact absurd HA.out (by simp [limit_isName.l0])
    | succ k1 =>
      have H := HA.out
      clear HA
      simp only [limit_isName.l0] at H
      by_cases c2 : x9_1 < (a0.size : Int)
      · rw [if_pos c2] at H
        have c2b0 : decide (x9_1 < (a0.size : Int)) = true := decide_eq_true c2
        clear c2
        by_cases c3 : 0 ≤ x9_1
        · rw [if_pos c3] at H
          have c3b0 : decide (0 ≤ x9_1) = true := decide_eq_true c3
          clear c3
          by_cases c4 : x9_1 < (a0.size : Int)
          · rw [if_pos c4] at H
            have c4b0 : decide (x9_1 < (a0.size : Int)) = true := decide_eq_true c4
            clear c4
            by_cases c6 : (bt a0 x9_1) ≥ 97
            · rw [if_pos c6] at H
              have c6b0 : decide (97 ≤ (bt a0 x9_1)) = true := decide_eq_true c6
              clear c6
              by_cases c7 : (bt a0 x9_1) ≤ 122
              · rw [if_pos c7] at H
                have c7b0 : decide ((bt a0 x9_1) ≤ 122) = true := decide_eq_true c7
                clear c7
                by_cases c8 : (bt a0 x9_1) ≥ 48
                · rw [if_pos c8] at H
                  have c8b0 : decide (48 ≤ (bt a0 x9_1)) = true := decide_eq_true c8
                  clear c8
                  by_cases c9 : (bt a0 x9_1) ≤ 57
                  · rw [if_pos c9] at H
                    have c9b0 : decide ((bt a0 x9_1) ≤ 57) = true := decide_eq_true c9
                    clear c9
                    have H' := Aside0.mk H
                    clear H
                    have p5 : 0 ≤ (x9_1 : Int) := of_decide_eq_true (by first | (with_reducible assumption) | assumption)
                    have q5 : x9_1 < (a0.size : Int) := of_decide_eq_true (by first | (with_reducible assumption) | assumption)
                    have hx5 := bt_at a0 x9_1
                    replace p5 := eq_true p5
                    replace q5 := eq_true q5
                    go_wp2
                    go_roundg k1
                    case measure => have := HK1.out; omega
                    case rel => exact ⟨(wrap64 (x9_1 + 1)), (by first | rfl | (simp; done) | (simp [*]; done)), H', ⟨by have := HK1.out; omega⟩, by repeat (first | exact Drawn0.refl _ | apply Drawn0.step)⟩
                  · rw [if_neg c9] at H
                    have c9b0 : decide ((bt a0 x9_1) ≤ 57) = false := decide_eq_false c9
                    clear c9
                    have H' := Aside0.mk H
                    clear H
                    have p5 : 0 ≤ (x9_1 : Int) := of_decide_eq_true (by first | (with_reducible assumption) | assumption)
                    have q5 : x9_1 < (a0.size : Int) := of_decide_eq_true (by first | (with_reducible assumption) | assumption)
                    have hx5 := bt_at a0 x9_1
                    replace p5 := eq_true p5
                    replace q5 := eq_true q5
                    go_wp2
                    go_roundg k1
                    case measure => have := HK1.out; omega
                    case rel => exact ⟨(wrap64 (x9_1 + 1)), (by first | rfl | (simp; done) | (simp [*]; done)), H', ⟨by have := HK1.out; omega⟩, by repeat (first | exact Drawn0.refl _ | apply Drawn0.step)⟩
                · rw [if_neg c8] at H
                  have c8b0 : decide (48 ≤ (bt a0 x9_1)) = false := decide_eq_false c8
                  clear c8
                  have H' := Aside0.mk H
                  clear H
                  have p5 : 0 ≤ (x9_1 : Int) := of_decide_eq_true (by first | (with_reducible assumption) | assumption)
                  have q5 : x9_1 < (a0.size : Int) := of_decide_eq_true (by first | (with_reducible assumption) | assumption)
                  have hx5 := bt_at a0 x9_1
                  replace p5 := eq_true p5
                  replace q5 := eq_true q5
                  go_wp2
                  go_roundg k1
                  case measure => have := HK1.out; omega
                  case rel => exact ⟨(wrap64 (x9_1 + 1)), (by first | rfl | (simp; done) | (simp [*]; done)), H', ⟨by have := HK1.out; omega⟩, by repeat (first | exact Drawn0.refl _ | apply Drawn0.step)⟩
              · rw [if_neg c7] at H
                have c7b0 : decide ((bt a0 x9_1) ≤ 122) = false := decide_eq_false c7
                clear c7
                by_cases c10 : (bt a0 x9_1) ≥ 65
                · rw [if_pos c10] at H
                  have c10b0 : decide (65 ≤ (bt a0 x9_1)) = true := decide_eq_true c10
                  clear c10
                  by_cases c11 : (bt a0 x9_1) ≥ 48
                  · rw [if_pos c11] at H
                    have c11b0 : decide (48 ≤ (bt a0 x9_1)) = true := decide_eq_true c11
                    clear c11
                    by_cases c12 : (bt a0 x9_1) ≤ 57
                    · rw [if_pos c12] at H
                      have c12b0 : decide ((bt a0 x9_1) ≤ 57) = true := decide_eq_true c12
                      clear c12
                      by_cases c13 : ((bt a0 x9_1) ≤ 90)
                      · rw [if_pos c13] at H
                        have c13b0 : decide ((bt a0 x9_1) ≤ 90) = true := decide_eq_true c13
                        clear c13
                        have H' := Aside0.mk H
                        clear H
                        have p5 : 0 ≤ (x9_1 : Int) := of_decide_eq_true (by first | (with_reducible assumption) | assumption)
                        have q5 : x9_1 < (a0.size : Int) := of_decide_eq_true (by first | (with_reducible assumption) | assumption)
                        have hx5 := bt_at a0 x9_1
                        replace p5 := eq_true p5
                        replace q5 := eq_true q5
                        go_wp2
                        go_roundg k1
                        case measure => have := HK1.out; omega
                        case rel => exact ⟨(wrap64 (x9_1 + 1)), (by first | rfl | (simp; done) | (simp [*]; done)), H', ⟨by have := HK1.out; omega⟩, by repeat (first | exact Drawn0.refl _ | apply Drawn0.step)⟩
                      · rw [if_neg c13] at H
                        have c13b0 : decide ((bt a0 x9_1) ≤ 90) = false := decide_eq_false c13
                        clear c13
                        by_cases c14 : x9_1 = 0
                        · rw [if_pos c14] at H
                          have c14b0 : (x9_1 == 0) = true := beq_iff_eq.mpr c14
                          have c14b1 : (x9_1 != 0) = false := bne_eq_false_iff_eq.mpr c14
                          clear c14
                          obtain rfl := Option.some.inj H
                          have p5 : 0 ≤ (x9_1 : Int) := of_decide_eq_true (by first | (with_reducible assumption) | assumption)
                          have q5 : x9_1 < (a0.size : Int) := of_decide_eq_true (by first | (with_reducible assumption) | assumption)
                          have hx5 := bt_at a0 x9_1
                          replace p5 := eq_true p5
                          replace q5 := eq_true q5
                          go_wp2
                          go_ret
                          exact ⟨by first | rfl | (simp; done) | (simp [*]; done), by repeat (first | exact Drawn0.refl _ | apply Drawn0.step)⟩
                        · rw [if_neg c14] at H
                          have c14b0 : (x9_1 == 0) = false := beq_eq_false_iff_ne.mpr c14
                          have c14b1 : (x9_1 != 0) = true := bne_iff_ne.mpr c14
                          have H' := Aside0.mk H
                          clear H
                          have p5 : 0 ≤ (x9_1 : Int) := of_decide_eq_true (by first | (with_reducible assumption) | assumption)
                          have q5 : x9_1 < (a0.size : Int) := of_decide_eq_true (by first | (with_reducible assumption) | assumption)
                          have hx5 := bt_at a0 x9_1
                          replace p5 := eq_true p5
                          replace q5 := eq_true q5
                          go_wp2
                          go_roundg k1
                          case measure => have := HK1.out; omega
                          case rel => exact ⟨(wrap64 (x9_1 + 1)), (by first | rfl | (simp; done) | (simp [*]; done)), H', ⟨by have := HK1.out; omega⟩, by repeat (first | exact Drawn0.refl _ | apply Drawn0.step)⟩
                    · rw [if_neg c12] at H
                      have c12b0 : decide ((bt a0 x9_1) ≤ 57) = false := decide_eq_false c12
                      clear c12
                      by_cases c15 : ((bt a0 x9_1) ≤ 90)
                      · rw [if_pos c15] at H
                        have c15b0 : decide ((bt a0 x9_1) ≤ 90) = true := decide_eq_true c15
                        clear c15
                        have H' := Aside0.mk H
                        clear H
                        have p5 : 0 ≤ (x9_1 : Int) := of_decide_eq_true (by first | (with_reducible assumption) | assumption)
                        have q5 : x9_1 < (a0.size : Int) := of_decide_eq_true (by first | (with_reducible assumption) | assumption)
                        have hx5 := bt_at a0 x9_1
                        replace p5 := eq_true p5
                        replace q5 := eq_true q5
                        go_wp2
                        go_roundg k1
                        case measure => have := HK1.out; omega
                        case rel => exact ⟨(wrap64 (x9_1 + 1)), (by first | rfl | (simp; done) | (simp [*]; done)), H', ⟨by have := HK1.out; omega⟩, by repeat (first | exact Drawn0.refl _ | apply Drawn0.step)⟩
                      · rw [if_neg c15] at H
                        have c15b0 : decide ((bt a0 x9_1) ≤ 90) = false := decide_eq_false c15
                        clear c15
                        by_cases c16 : x9_1 = 0
                        · rw [if_pos c16] at H
                          have c16b0 : (x9_1 == 0) = true := beq_iff_eq.mpr c16
                          have c16b1 : (x9_1 != 0) = false := bne_eq_false_iff_eq.mpr c16
                          clear c16
                          obtain rfl := Option.some.inj H
                          have p5 : 0 ≤ (x9_1 : Int) := of_decide_eq_true (by first | (with_reducible assumption) | assumption)
                          have q5 : x9_1 < (a0.size : Int) := of_decide_eq_true (by first | (with_reducible assumption) | assumption)
                          have hx5 := bt_at a0 x9_1
                          replace p5 := eq_true p5
                          replace q5 := eq_true q5
                          go_wp2
                          go_ret
                          exact ⟨by first | rfl | (simp; done) | (simp [*]; done), by repeat (first | exact Drawn0.refl _ | apply Drawn0.step)⟩
                        · rw [if_neg c16] at H
                          have c16b0 : (x9_1 == 0) = false := beq_eq_false_iff_ne.mpr c16
                          have c16b1 : (x9_1 != 0) = true := bne_iff_ne.mpr c16
                          by_cases c17 : ((bt a0 x9_1) = 95)
                          · rw [if_pos c17] at H
                            have c17b0 : ((bt a0 x9_1) == 95) = true := beq_iff_eq.mpr c17
                            have c17b1 : ((bt a0 x9_1) != 95) = false := bne_eq_false_iff_eq.mpr c17
                            clear c17
                            have H' := Aside0.mk H
                            clear H
                            have p5 : 0 ≤ (x9_1 : Int) := of_decide_eq_true (by first | (with_reducible assumption) | assumption)
                            have q5 : x9_1 < (a0.size : Int) := of_decide_eq_true (by first | (with_reducible assumption) | assumption)
                            have hx5 := bt_at a0 x9_1
                            replace p5 := eq_true p5
                            replace q5 := eq_true q5
                            go_wp2
                            go_roundg k1
                            case measure => have := HK1.out; omega
                            case rel => exact ⟨(wrap64 (x9_1 + 1)), (by first | rfl | (simp; done) | (simp [*]; done)), H', ⟨by have := HK1.out; omega⟩, by repeat (first | exact Drawn0.refl _ | apply Drawn0.step)⟩
                          · rw [if_neg c17] at H
                            have c17b0 : ((bt a0 x9_1) == 95) = false := beq_eq_false_iff_ne.mpr c17
                            have c17b1 : ((bt a0 x9_1) != 95) = true := bne_iff_ne.mpr c17
                            obtain rfl := Option.some.inj H
                            have p5 : 0 ≤ (x9_1 : Int) := of_decide_eq_true (by first | (with_reducible assumption) | assumption)
                            have q5 : x9_1 < (a0.size : Int) := of_decide_eq_true (by first | (with_reducible assumption) | assumption)
                            have hx5 := bt_at a0 x9_1
                            replace p5 := eq_true p5
                            replace q5 := eq_true q5
                            go_wp2
                            go_ret
                            exact ⟨by first | rfl | (simp; done) | (simp [*]; done), by repeat (first | exact Drawn0.refl _ | apply Drawn0.step)⟩
                  · rw [if_neg c11] at H
                    have c11b0 : decide (48 ≤ (bt a0 x9_1)) = false := decide_eq_false c11
                    clear c11
                    by_cases c18 : ((bt a0 x9_1) ≤ 90)
                    · rw [if_pos c18] at H
                      have c18b0 : decide ((bt a0 x9_1) ≤ 90) = true := decide_eq_true c18
                      clear c18
                      have H' := Aside0.mk H
                      clear H
                      have p5 : 0 ≤ (x9_1 : Int) := of_decide_eq_true (by first | (with_reducible assumption) | assumption)
                      have q5 : x9_1 < (a0.size : Int) := of_decide_eq_true (by first | (with_reducible assumption) | assumption)
                      have hx5 := bt_at a0 x9_1
                      replace p5 := eq_true p5
                      replace q5 := eq_true q5
                      go_wp2
                      go_roundg k1
                      case measure => have := HK1.out; omega
                      case rel => exact ⟨(wrap64 (x9_1 + 1)), (by first | rfl | (simp; done) | (simp [*]; done)), H', ⟨by have := HK1.out; omega⟩, by repeat (first | exact Drawn0.refl _ | apply Drawn0.step)⟩
                    · rw [if_neg c18] at H
                      have c18b0 : decide ((bt a0 x9_1) ≤ 90) = false := decide_eq_false c18
                      clear c18
                      by_cases c19 : x9_1 = 0
                      · rw [if_pos c19] at H
                        have c19b0 : (x9_1 == 0) = true := beq_iff_eq.mpr c19
                        have c19b1 : (x9_1 != 0) = false := bne_eq_false_iff_eq.mpr c19
                        clear c19
                        obtain rfl := Option.some.inj H
                        have p5 : 0 ≤ (x9_1 : Int) := of_decide_eq_true (by first | (with_reducible assumption) | assumption)
                        have q5 : x9_1 < (a0.size : Int) := of_decide_eq_true (by first | (with_reducible assumption) | assumption)
                        have hx5 := bt_at a0 x9_1
                        replace p5 := eq_true p5
                        replace q5 := eq_true q5
                        go_wp2
                        go_ret
                        exact ⟨by first | rfl | (simp; done) | (simp [*]; done), by repeat (first | exact Drawn0.refl _ | apply Drawn0.step)⟩
                      · rw [if_neg c19] at H
                        have c19b0 : (x9_1 == 0) = false := beq_eq_false_iff_ne.mpr c19
                        have c19b1 : (x9_1 != 0) = true := bne_iff_ne.mpr c19
                        by_cases c20 : ((bt a0 x9_1) = 95)
                        · rw [if_pos c20] at H
                          have c20b0 : ((bt a0 x9_1) == 95) = true := beq_iff_eq.mpr c20
                          have c20b1 : ((bt a0 x9_1) != 95) = false := bne_eq_false_iff_eq.mpr c20
                          clear c20
                          have H' := Aside0.mk H
                          clear H
                          have p5 : 0 ≤ (x9_1 : Int) := of_decide_eq_true (by first | (with_reducible assumption) | assumption)
                          have q5 : x9_1 < (a0.size : Int) := of_decide_eq_true (by first | (with_reducible assumption) | assumption)
                          have hx5 := bt_at a0 x9_1
                          replace p5 := eq_true p5
                          replace q5 := eq_true q5
                          go_wp2
                          go_roundg k1
                          case measure => have := HK1.out; omega
                          case rel => exact ⟨(wrap64 (x9_1 + 1)), (by first | rfl | (simp; done) | (simp [*]; done)), H', ⟨by have := HK1.out; omega⟩, by repeat (first | exact Drawn0.refl _ | apply Drawn0.step)⟩
                        · rw [if_neg c20] at H
                          have c20b0 : ((bt a0 x9_1) == 95) = false := beq_eq_false_iff_ne.mpr c20
                          have c20b1 : ((bt a0 x9_1) != 95) = true := bne_iff_ne.mpr c20
                          obtain rfl := Option.some.inj H
                          have p5 : 0 ≤ (x9_1 : Int) := of_decide_eq_true (by first | (with_reducible assumption) | assumption)
                          have q5 : x9_1 < (a0.size : Int) := of_decide_eq_true (by first | (with_reducible assumption) | assumption)
                          have hx5 := bt_at a0 x9_1
                          replace p5 := eq_true p5
                          replace q5 := eq_true q5
                          go_wp2
                          go_ret
                          exact ⟨by first | rfl | (simp; done) | (simp [*]; done), by repeat (first | exact Drawn0.refl _ | apply Drawn0.step)⟩
                · rw [if_neg c10] at H
                  have c10b0 : decide (65 ≤ (bt a0 x9_1)) = false := decide_eq_false c10
                  clear c10
                  by_cases c21 : (bt a0 x9_1) ≥ 48
                  · rw [if_pos c21] at H
                    have c21b0 : decide (48 ≤ (bt a0 x9_1)) = true := decide_eq_true c21
                    clear c21
                    by_cases c22 : (bt a0 x9_1) ≤ 57
                    · rw [if_pos c22] at H
                      have c22b0 : decide ((bt a0 x9_1) ≤ 57) = true := decide_eq_true c22
                      clear c22
                      by_cases c23 : x9_1 = 0
                      · rw [if_pos c23] at H
                        have c23b0 : (x9_1 == 0) = true := beq_iff_eq.mpr c23
                        have c23b1 : (x9_1 != 0) = false := bne_eq_false_iff_eq.mpr c23
                        clear c23
                        obtain rfl := Option.some.inj H
                        have p5 : 0 ≤ (x9_1 : Int) := of_decide_eq_true (by first | (with_reducible assumption) | assumption)
                        have q5 : x9_1 < (a0.size : Int) := of_decide_eq_true (by first | (with_reducible assumption) | assumption)
                        have hx5 := bt_at a0 x9_1
                        replace p5 := eq_true p5
                        replace q5 := eq_true q5
                        go_wp2
                        go_ret
                        exact ⟨by first | rfl | (simp; done) | (simp [*]; done), by repeat (first | exact Drawn0.refl _ | apply Drawn0.step)⟩
                      · rw [if_neg c23] at H
                        have c23b0 : (x9_1 == 0) = false := beq_eq_false_iff_ne.mpr c23
                        have c23b1 : (x9_1 != 0) = true := bne_iff_ne.mpr c23
                        have H' := Aside0.mk H
                        clear H
                        have p5 : 0 ≤ (x9_1 : Int) := of_decide_eq_true (by first | (with_reducible assumption) | assumption)
                        have q5 : x9_1 < (a0.size : Int) := of_decide_eq_true (by first | (with_reducible assumption) | assumption)
                        have hx5 := bt_at a0 x9_1
                        replace p5 := eq_true p5
                        replace q5 := eq_true q5
                        go_wp2
                        go_roundg k1
                        case measure => have := HK1.out; omega
                        case rel => exact ⟨(wrap64 (x9_1 + 1)), (by first | rfl | (simp; done) | (simp [*]; done)), H', ⟨by have := HK1.out; omega⟩, by repeat (first | exact Drawn0.refl _ | apply Drawn0.step)⟩
                    · rw [if_neg c22] at H
                      have c22b0 : decide ((bt a0 x9_1) ≤ 57) = false := decide_eq_false c22
                      clear c22
                      by_cases c24 : x9_1 = 0
                      · rw [if_pos c24] at H
                        have c24b0 : (x9_1 == 0) = true := beq_iff_eq.mpr c24
                        have c24b1 : (x9_1 != 0) = false := bne_eq_false_iff_eq.mpr c24
                        clear c24
                        obtain rfl := Option.some.inj H
                        have p5 : 0 ≤ (x9_1 : Int) := of_decide_eq_true (by first | (with_reducible assumption) | assumption)
                        have q5 : x9_1 < (a0.size : Int) := of_decide_eq_true (by first | (with_reducible assumption) | assumption)
                        have hx5 := bt_at a0 x9_1
                        replace p5 := eq_true p5
                        replace q5 := eq_true q5
                        go_wp2
                        go_ret
                        exact ⟨by first | rfl | (simp; done) | (simp [*]; done), by repeat (first | exact Drawn0.refl _ | apply Drawn0.step)⟩
                      · rw [if_neg c24] at H
                        have c24b0 : (x9_1 == 0) = false := beq_eq_false_iff_ne.mpr c24
                        have c24b1 : (x9_1 != 0) = true := bne_iff_ne.mpr c24
                        by_cases c25 : ((bt a0 x9_1) = 95)
                        · rw [if_pos c25] at H
                          have c25b0 : ((bt a0 x9_1) == 95) = true := beq_iff_eq.mpr c25
                          have c25b1 : ((bt a0 x9_1) != 95) = false := bne_eq_false_iff_eq.mpr c25
                          clear c25
                          have H' := Aside0.mk H
                          clear H
                          have p5 : 0 ≤ (x9_1 : Int) := of_decide_eq_true (by first | (with_reducible assumption) | assumption)
                          have q5 : x9_1 < (a0.size : Int) := of_decide_eq_true (by first | (with_reducible assumption) | assumption)
                          have hx5 := bt_at a0 x9_1
                          replace p5 := eq_true p5
                          replace q5 := eq_true q5
                          go_wp2
                          go_roundg k1
                          case measure => have := HK1.out; omega
                          case rel => exact ⟨(wrap64 (x9_1 + 1)), (by first | rfl | (simp; done) | (simp [*]; done)), H', ⟨by have := HK1.out; omega⟩, by repeat (first | exact Drawn0.refl _ | apply Drawn0.step)⟩
                        · rw [if_neg c25] at H
                          have c25b0 : ((bt a0 x9_1) == 95) = false := beq_eq_false_iff_ne.mpr c25
                          have c25b1 : ((bt a0 x9_1) != 95) = true := bne_iff_ne.mpr c25
                          obtain rfl := Option.some.inj H
                          have p5 : 0 ≤ (x9_1 : Int) := of_decide_eq_true (by first | (with_reducible assumption) | assumption)
                          have q5 : x9_1 < (a0.size : Int) := of_decide_eq_true (by first | (with_reducible assumption) | assumption)
                          have hx5 := bt_at a0 x9_1
                          replace p5 := eq_true p5
                          replace q5 := eq_true q5
                          go_wp2
                          go_ret
                          exact ⟨by first | rfl | (simp; done) | (simp [*]; done), by repeat (first | exact Drawn0.refl _ | apply Drawn0.step)⟩
                  · rw [if_neg c21] at H
                    have c21b0 : decide (48 ≤ (bt a0 x9_1)) = false := decide_eq_false c21
                    clear c21
                    by_cases c26 : x9_1 = 0
                    · rw [if_pos c26] at H
                      have c26b0 : (x9_1 == 0) = true := beq_iff_eq.mpr c26
                      have c26b1 : (x9_1 != 0) = false := bne_eq_false_iff_eq.mpr c26
                      clear c26
                      obtain rfl := Option.some.inj H
                      have p5 : 0 ≤ (x9_1 : Int) := of_decide_eq_true (by first | (with_reducible assumption) | assumption)
                      have q5 : x9_1 < (a0.size : Int) := of_decide_eq_true (by first | (with_reducible assumption) | assumption)
                      have hx5 := bt_at a0 x9_1
                      replace p5 := eq_true p5
                      replace q5 := eq_true q5
                      go_wp2
                      go_ret
                      exact ⟨by first | rfl | (simp; done) | (simp [*]; done), by repeat (first | exact Drawn0.refl _ | apply Drawn0.step)⟩
                    · rw [if_neg c26] at H
                      have c26b0 : (x9_1 == 0) = false := beq_eq_false_iff_ne.mpr c26
                      have c26b1 : (x9_1 != 0) = true := bne_iff_ne.mpr c26
                      by_cases c27 : ((bt a0 x9_1) = 95)
                      · rw [if_pos c27] at H
                        have c27b0 : ((bt a0 x9_1) == 95) = true := beq_iff_eq.mpr c27
                        have c27b1 : ((bt a0 x9_1) != 95) = false := bne_eq_false_iff_eq.mpr c27
                        clear c27
                        have H' := Aside0.mk H
                        clear H
                        have p5 : 0 ≤ (x9_1 : Int) := of_decide_eq_true (by first | (with_reducible assumption) | assumption)
                        have q5 : x9_1 < (a0.size : Int) := of_decide_eq_true (by first | (with_reducible assumption) | assumption)
                        have hx5 := bt_at a0 x9_1
                        replace p5 := eq_true p5
                        replace q5 := eq_true q5
                        go_wp2
                        go_roundg k1
                        case measure => have := HK1.out; omega
                        case rel => exact ⟨(wrap64 (x9_1 + 1)), (by first | rfl | (simp; done) | (simp [*]; done)), H', ⟨by have := HK1.out; omega⟩, by repeat (first | exact Drawn0.refl _ | apply Drawn0.step)⟩
                      · rw [if_neg c27] at H
                        have c27b0 : ((bt a0 x9_1) == 95) = false := beq_eq_false_iff_ne.mpr c27
                        have c27b1 : ((bt a0 x9_1) != 95) = true := bne_iff_ne.mpr c27
                        obtain rfl := Option.some.inj H
                        have p5 : 0 ≤ (x9_1 : Int) := of_decide_eq_true (by first | (with_reducible assumption) | assumption)
                        have q5 : x9_1 < (a0.size : Int) := of_decide_eq_true (by first | (with_reducible assumption) | assumption)
                        have hx5 := bt_at a0 x9_1
                        replace p5 := eq_true p5
                        replace q5 := eq_true q5
                        go_wp2
                        go_ret
                        exact ⟨by first | rfl | (simp; done) | (simp [*]; done), by repeat (first | exact Drawn0.refl _ | apply Drawn0.step)⟩
            · rw [if_neg c6] at H
              have c6b0 : decide (97 ≤ (bt a0 x9_1)) = false := decide_eq_false c6
              clear c6
              by_cases c28 : (bt a0 x9_1) ≥ 65
              · rw [if_pos c28] at H
                have c28b0 : decide (65 ≤ (bt a0 x9_1)) = true := decide_eq_true c28
                clear c28
                by_cases c29 : (bt a0 x9_1) ≥ 48
                · rw [if_pos c29] at H
                  have c29b0 : decide (48 ≤ (bt a0 x9_1)) = true := decide_eq_true c29
                  clear c29
                  by_cases c30 : (bt a0 x9_1) ≤ 57
                  · rw [if_pos c30] at H
                    have c30b0 : decide ((bt a0 x9_1) ≤ 57) = true := decide_eq_true c30
                    clear c30
                    by_cases c31 : ((bt a0 x9_1) ≤ 90)
                    · rw [if_pos c31] at H
                      have c31b0 : decide ((bt a0 x9_1) ≤ 90) = true := decide_eq_true c31
                      clear c31
                      have H' := Aside0.mk H
                      clear H
                      have p5 : 0 ≤ (x9_1 : Int) := of_decide_eq_true (by first | (with_reducible assumption) | assumption)
                      have q5 : x9_1 < (a0.size : Int) := of_decide_eq_true (by first | (with_reducible assumption) | assumption)
                      have hx5 := bt_at a0 x9_1
                      replace p5 := eq_true p5
                      replace q5 := eq_true q5
                      go_wp2
                      go_roundg k1
                      case measure => have := HK1.out; omega
                      case rel => exact ⟨(wrap64 (x9_1 + 1)), (by first | rfl | (simp; done) | (simp [*]; done)), H', ⟨by have := HK1.out; omega⟩, by repeat (first | exact Drawn0.refl _ | apply Drawn0.step)⟩
                    · rw [if_neg c31] at H
                      have c31b0 : decide ((bt a0 x9_1) ≤ 90) = false := decide_eq_false c31
                      clear c31
                      by_cases c32 : x9_1 = 0
                      · rw [if_pos c32] at H
                        have c32b0 : (x9_1 == 0) = true := beq_iff_eq.mpr c32
                        have c32b1 : (x9_1 != 0) = false := bne_eq_false_iff_eq.mpr c32
                        clear c32
                        obtain rfl := Option.some.inj H
                        have p5 : 0 ≤ (x9_1 : Int) := of_decide_eq_true (by first | (with_reducible assumption) | assumption)
                        have q5 : x9_1 < (a0.size : Int) := of_decide_eq_true (by first | (with_reducible assumption) | assumption)
                        have hx5 := bt_at a0 x9_1
                        replace p5 := eq_true p5
                        replace q5 := eq_true q5
                        go_wp2
                        go_ret
                        exact ⟨by first | rfl | (simp; done) | (simp [*]; done), by repeat (first | exact Drawn0.refl _ | apply Drawn0.step)⟩
                      · rw [if_neg c32] at H
                        have c32b0 : (x9_1 == 0) = false := beq_eq_false_iff_ne.mpr c32
                        have c32b1 : (x9_1 != 0) = true := bne_iff_ne.mpr c32
                        have H' := Aside0.mk H
                        clear H
                        have p5 : 0 ≤ (x9_1 : Int) := of_decide_eq_true (by first | (with_reducible assumption) | assumption)
                        have q5 : x9_1 < (a0.size : Int) := of_decide_eq_true (by first | (with_reducible assumption) | assumption)
                        have hx5 := bt_at a0 x9_1
                        replace p5 := eq_true p5
                        replace q5 := eq_true q5
                        go_wp2
                        go_roundg k1
                        case measure => have := HK1.out; omega
                        case rel => exact ⟨(wrap64 (x9_1 + 1)), (by first | rfl | (simp; done) | (simp [*]; done)), H', ⟨by have := HK1.out; omega⟩, by repeat (first | exact Drawn0.refl _ | apply Drawn0.step)⟩
                  · rw [if_neg c30] at H
                    have c30b0 : decide ((bt a0 x9_1) ≤ 57) = false := decide_eq_false c30
                    clear c30
                    by_cases c33 : ((bt a0 x9_1) ≤ 90)
                    · rw [if_pos c33] at H
                      have c33b0 : decide ((bt a0 x9_1) ≤ 90) = true := decide_eq_true c33
                      clear c33
                      have H' := Aside0.mk H
                      clear H
                      have p5 : 0 ≤ (x9_1 : Int) := of_decide_eq_true (by first | (with_reducible assumption) | assumption)
                      have q5 : x9_1 < (a0.size : Int) := of_decide_eq_true (by first | (with_reducible assumption) | assumption)
                      have hx5 := bt_at a0 x9_1
                      replace p5 := eq_true p5
                      replace q5 := eq_true q5
                      go_wp2
                      go_roundg k1
                      case measure => have := HK1.out; omega
                      case rel => exact ⟨(wrap64 (x9_1 + 1)), (by first | rfl | (simp; done) | (simp [*]; done)), H', ⟨by have := HK1.out; omega⟩, by repeat (first | exact Drawn0.refl _ | apply Drawn0.step)⟩
                    · rw [if_neg c33] at H
                      have c33b0 : decide ((bt a0 x9_1) ≤ 90) = false := decide_eq_false c33
                      clear c33
                      by_cases c34 : x9_1 = 0
                      · rw [if_pos c34] at H
                        have c34b0 : (x9_1 == 0) = true := beq_iff_eq.mpr c34
                        have c34b1 : (x9_1 != 0) = false := bne_eq_false_iff_eq.mpr c34
                        clear c34
                        obtain rfl := Option.some.inj H
                        have p5 : 0 ≤ (x9_1 : Int) := of_decide_eq_true (by first | (with_reducible assumption) | assumption)
                        have q5 : x9_1 < (a0.size : Int) := of_decide_eq_true (by first | (with_reducible assumption) | assumption)
                        have hx5 := bt_at a0 x9_1
                        replace p5 := eq_true p5
                        replace q5 := eq_true q5
                        go_wp2
                        go_ret
                        exact ⟨by first | rfl | (simp; done) | (simp [*]; done), by repeat (first | exact Drawn0.refl _ | apply Drawn0.step)⟩
                      · rw [if_neg c34] at H
                        have c34b0 : (x9_1 == 0) = false := beq_eq_false_iff_ne.mpr c34
                        have c34b1 : (x9_1 != 0) = true := bne_iff_ne.mpr c34
                        by_cases c35 : ((bt a0 x9_1) = 95)
                        · rw [if_pos c35] at H
                          have c35b0 : ((bt a0 x9_1) == 95) = true := beq_iff_eq.mpr c35
                          have c35b1 : ((bt a0 x9_1) != 95) = false := bne_eq_false_iff_eq.mpr c35
                          clear c35
                          have H' := Aside0.mk H
                          clear H
                          have p5 : 0 ≤ (x9_1 : Int) := of_decide_eq_true (by first | (with_reducible assumption) | assumption)
                          have q5 : x9_1 < (a0.size : Int) := of_decide_eq_true (by first | (with_reducible assumption) | assumption)
                          have hx5 := bt_at a0 x9_1
                          replace p5 := eq_true p5
                          replace q5 := eq_true q5
                          go_wp2
                          go_roundg k1
                          case measure => have := HK1.out; omega
                          case rel => exact ⟨(wrap64 (x9_1 + 1)), (by first | rfl | (simp; done) | (simp [*]; done)), H', ⟨by have := HK1.out; omega⟩, by repeat (first | exact Drawn0.refl _ | apply Drawn0.step)⟩
                        · rw [if_neg c35] at H
                          have c35b0 : ((bt a0 x9_1) == 95) = false := beq_eq_false_iff_ne.mpr c35
                          have c35b1 : ((bt a0 x9_1) != 95) = true := bne_iff_ne.mpr c35
                          obtain rfl := Option.some.inj H
                          have p5 : 0 ≤ (x9_1 : Int) := of_decide_eq_true (by first | (with_reducible assumption) | assumption)
                          have q5 : x9_1 < (a0.size : Int) := of_decide_eq_true (by first | (with_reducible assumption) | assumption)
                          have hx5 := bt_at a0 x9_1
                          replace p5 := eq_true p5
                          replace q5 := eq_true q5
                          go_wp2
                          go_ret
                          exact ⟨by first | rfl | (simp; done) | (simp [*]; done), by repeat (first | exact Drawn0.refl _ | apply Drawn0.step)⟩
                · rw [if_neg c29] at H
                  have c29b0 : decide (48 ≤ (bt a0 x9_1)) = false := decide_eq_false c29
                  clear c29
                  by_cases c36 : ((bt a0 x9_1) ≤ 90)
                  · rw [if_pos c36] at H
                    have c36b0 : decide ((bt a0 x9_1) ≤ 90) = true := decide_eq_true c36
                    clear c36
                    have H' := Aside0.mk H
                    clear H
                    have p5 : 0 ≤ (x9_1 : Int) := of_decide_eq_true (by first | (with_reducible assumption) | assumption)
                    have q5 : x9_1 < (a0.size : Int) := of_decide_eq_true (by first | (with_reducible assumption) | assumption)
                    have hx5 := bt_at a0 x9_1
                    replace p5 := eq_true p5
                    replace q5 := eq_true q5
                    go_wp2
                    go_roundg k1
                    case measure => have := HK1.out; omega
                    case rel => exact ⟨(wrap64 (x9_1 + 1)), (by first | rfl | (simp; done) | (simp [*]; done)), H', ⟨by have := HK1.out; omega⟩, by repeat (first | exact Drawn0.refl _ | apply Drawn0.step)⟩
                  · rw [if_neg c36] at H
                    have c36b0 : decide ((bt a0 x9_1) ≤ 90) = false := decide_eq_false c36
                    clear c36
                    by_cases c37 : x9_1 = 0
                    · rw [if_pos c37] at H
                      have c37b0 : (x9_1 == 0) = true := beq_iff_eq.mpr c37
                      have c37b1 : (x9_1 != 0) = false := bne_eq_false_iff_eq.mpr c37
                      clear c37
                      obtain rfl := Option.some.inj H
                      have p5 : 0 ≤ (x9_1 : Int) := of_decide_eq_true (by first | (with_reducible assumption) | assumption)
                      have q5 : x9_1 < (a0.size : Int) := of_decide_eq_true (by first | (with_reducible assumption) | assumption)
                      have hx5 := bt_at a0 x9_1
                      replace p5 := eq_true p5
                      replace q5 := eq_true q5
                      go_wp2
                      go_ret
                      exact ⟨by first | rfl | (simp; done) | (simp [*]; done), by repeat (first | exact Drawn0.refl _ | apply Drawn0.step)⟩
                    · rw [if_neg c37] at H
                      have c37b0 : (x9_1 == 0) = false := beq_eq_false_iff_ne.mpr c37
                      have c37b1 : (x9_1 != 0) = true := bne_iff_ne.mpr c37
                      by_cases c38 : ((bt a0 x9_1) = 95)
                      · rw [if_pos c38] at H
                        have c38b0 : ((bt a0 x9_1) == 95) = true := beq_iff_eq.mpr c38
                        have c38b1 : ((bt a0 x9_1) != 95) = false := bne_eq_false_iff_eq.mpr c38
                        clear c38
                        have H' := Aside0.mk H
                        clear H
                        have p5 : 0 ≤ (x9_1 : Int) := of_decide_eq_true (by first | (with_reducible assumption) | assumption)
                        have q5 : x9_1 < (a0.size : Int) := of_decide_eq_true (by first | (with_reducible assumption) | assumption)
                        have hx5 := bt_at a0 x9_1
                        replace p5 := eq_true p5
                        replace q5 := eq_true q5
                        go_wp2
                        go_roundg k1
                        case measure => have := HK1.out; omega
                        case rel => exact ⟨(wrap64 (x9_1 + 1)), (by first | rfl | (simp; done) | (simp [*]; done)), H', ⟨by have := HK1.out; omega⟩, by repeat (first | exact Drawn0.refl _ | apply Drawn0.step)⟩
                      · rw [if_neg c38] at H
                        have c38b0 : ((bt a0 x9_1) == 95) = false := beq_eq_false_iff_ne.mpr c38
                        have c38b1 : ((bt a0 x9_1) != 95) = true := bne_iff_ne.mpr c38
                        obtain rfl := Option.some.inj H
                        have p5 : 0 ≤ (x9_1 : Int) := of_decide_eq_true (by first | (with_reducible assumption) | assumption)
                        have q5 : x9_1 < (a0.size : Int) := of_decide_eq_true (by first | (with_reducible assumption) | assumption)
                        have hx5 := bt_at a0 x9_1
                        replace p5 := eq_true p5
                        replace q5 := eq_true q5
                        go_wp2
                        go_ret
                        exact ⟨by first | rfl | (simp; done) | (simp [*]; done), by repeat (first | exact Drawn0.refl _ | apply Drawn0.step)⟩
              · rw [if_neg c28] at H
                have c28b0 : decide (65 ≤ (bt a0 x9_1)) = false := decide_eq_false c28
                clear c28
                by_cases c39 : (bt a0 x9_1) ≥ 48
                · rw [if_pos c39] at H
                  have c39b0 : decide (48 ≤ (bt a0 x9_1)) = true := decide_eq_true c39
                  clear c39
                  by_cases c40 : (bt a0 x9_1) ≤ 57
                  · rw [if_pos c40] at H
                    have c40b0 : decide ((bt a0 x9_1) ≤ 57) = true := decide_eq_true c40
                    clear c40
                    by_cases c41 : x9_1 = 0
                    · rw [if_pos c41] at H
                      have c41b0 : (x9_1 == 0) = true := beq_iff_eq.mpr c41
                      have c41b1 : (x9_1 != 0) = false := bne_eq_false_iff_eq.mpr c41
                      clear c41
                      obtain rfl := Option.some.inj H
                      have p5 : 0 ≤ (x9_1 : Int) := of_decide_eq_true (by first | (with_reducible assumption) | assumption)
                      have q5 : x9_1 < (a0.size : Int) := of_decide_eq_true (by first | (with_reducible assumption) | assumption)
                      have hx5 := bt_at a0 x9_1
                      replace p5 := eq_true p5
                      replace q5 := eq_true q5
                      go_wp2
                      go_ret
                      exact ⟨by first | rfl | (simp; done) | (simp [*]; done), by repeat (first | exact Drawn0.refl _ | apply Drawn0.step)⟩
                    · rw [if_neg c41] at H
                      have c41b0 : (x9_1 == 0) = false := beq_eq_false_iff_ne.mpr c41
                      have c41b1 : (x9_1 != 0) = true := bne_iff_ne.mpr c41
                      have H' := Aside0.mk H
                      clear H
                      have p5 : 0 ≤ (x9_1 : Int) := of_decide_eq_true (by first | (with_reducible assumption) | assumption)
                      have q5 : x9_1 < (a0.size : Int) := of_decide_eq_true (by first | (with_reducible assumption) | assumption)
                      have hx5 := bt_at a0 x9_1
                      replace p5 := eq_true p5
                      replace q5 := eq_true q5
                      go_wp2
                      go_roundg k1
                      case measure => have := HK1.out; omega
                      case rel => exact ⟨(wrap64 (x9_1 + 1)), (by first | rfl | (simp; done) | (simp [*]; done)), H', ⟨by have := HK1.out; omega⟩, by repeat (first | exact Drawn0.refl _ | apply Drawn0.step)⟩
                  · rw [if_neg c40] at H
                    have c40b0 : decide ((bt a0 x9_1) ≤ 57) = false := decide_eq_false c40
                    clear c40
                    by_cases c42 : x9_1 = 0
                    · rw [if_pos c42] at H
                      have c42b0 : (x9_1 == 0) = true := beq_iff_eq.mpr c42
                      have c42b1 : (x9_1 != 0) = false := bne_eq_false_iff_eq.mpr c42
                      clear c42
                      obtain rfl := Option.some.inj H
                      have p5 : 0 ≤ (x9_1 : Int) := of_decide_eq_true (by first | (with_reducible assumption) | assumption)
                      have q5 : x9_1 < (a0.size : Int) := of_decide_eq_true (by first | (with_reducible assumption) | assumption)
                      have hx5 := bt_at a0 x9_1
                      replace p5 := eq_true p5
                      replace q5 := eq_true q5
                      go_wp2
                      go_ret
                      exact ⟨by first | rfl | (simp; done) | (simp [*]; done), by repeat (first | exact Drawn0.refl _ | apply Drawn0.step)⟩
                    · rw [if_neg c42] at H
                      have c42b0 : (x9_1 == 0) = false := beq_eq_false_iff_ne.mpr c42
                      have c42b1 : (x9_1 != 0) = true := bne_iff_ne.mpr c42
                      by_cases c43 : ((bt a0 x9_1) = 95)
                      · rw [if_pos c43] at H
                        have c43b0 : ((bt a0 x9_1) == 95) = true := beq_iff_eq.mpr c43
                        have c43b1 : ((bt a0 x9_1) != 95) = false := bne_eq_false_iff_eq.mpr c43
                        clear c43
                        have H' := Aside0.mk H
                        clear H
                        have p5 : 0 ≤ (x9_1 : Int) := of_decide_eq_true (by first | (with_reducible assumption) | assumption)
                        have q5 : x9_1 < (a0.size : Int) := of_decide_eq_true (by first | (with_reducible assumption) | assumption)
                        have hx5 := bt_at a0 x9_1
                        replace p5 := eq_true p5
                        replace q5 := eq_true q5
                        go_wp2
                        go_roundg k1
                        case measure => have := HK1.out; omega
                        case rel => exact ⟨(wrap64 (x9_1 + 1)), (by first | rfl | (simp; done) | (simp [*]; done)), H', ⟨by have := HK1.out; omega⟩, by repeat (first | exact Drawn0.refl _ | apply Drawn0.step)⟩
                      · rw [if_neg c43] at H
                        have c43b0 : ((bt a0 x9_1) == 95) = false := beq_eq_false_iff_ne.mpr c43
                        have c43b1 : ((bt a0 x9_1) != 95) = true := bne_iff_ne.mpr c43
                        obtain rfl := Option.some.inj H
                        have p5 : 0 ≤ (x9_1 : Int) := of_decide_eq_true (by first | (with_reducible assumption) | assumption)
                        have q5 : x9_1 < (a0.size : Int) := of_decide_eq_true (by first | (with_reducible assumption) | assumption)
                        have hx5 := bt_at a0 x9_1
                        replace p5 := eq_true p5
                        replace q5 := eq_true q5
                        go_wp2
                        go_ret
                        exact ⟨by first | rfl | (simp; done) | (simp [*]; done), by repeat (first | exact Drawn0.refl _ | apply Drawn0.step)⟩
                · rw [if_neg c39] at H
                  have c39b0 : decide (48 ≤ (bt a0 x9_1)) = false := decide_eq_false c39
                  clear c39
                  by_cases c44 : x9_1 = 0
                  · rw [if_pos c44] at H
                    have c44b0 : (x9_1 == 0) = true := beq_iff_eq.mpr c44
                    have c44b1 : (x9_1 != 0) = false := bne_eq_false_iff_eq.mpr c44
                    clear c44
                    obtain rfl := Option.some.inj H
                    have p5 : 0 ≤ (x9_1 : Int) := of_decide_eq_true (by first | (with_reducible assumption) | assumption)
                    have q5 : x9_1 < (a0.size : Int) := of_decide_eq_true (by first | (with_reducible assumption) | assumption)
                    have hx5 := bt_at a0 x9_1
                    replace p5 := eq_true p5
                    replace q5 := eq_true q5
                    go_wp2
                    go_ret
                    exact ⟨by first | rfl | (simp; done) | (simp [*]; done), by repeat (first | exact Drawn0.refl _ | apply Drawn0.step)⟩
                  · rw [if_neg c44] at H
                    have c44b0 : (x9_1 == 0) = false := beq_eq_false_iff_ne.mpr c44
                    have c44b1 : (x9_1 != 0) = true := bne_iff_ne.mpr c44
                    by_cases c45 : ((bt a0 x9_1) = 95)
                    · rw [if_pos c45] at H
                      have c45b0 : ((bt a0 x9_1) == 95) = true := beq_iff_eq.mpr c45
                      have c45b1 : ((bt a0 x9_1) != 95) = false := bne_eq_false_iff_eq.mpr c45
                      clear c45
                      have H' := Aside0.mk H
                      clear H
                      have p5 : 0 ≤ (x9_1 : Int) := of_decide_eq_true (by first | (with_reducible assumption) | assumption)
                      have q5 : x9_1 < (a0.size : Int) := of_decide_eq_true (by first | (with_reducible assumption) | assumption)
                      have hx5 := bt_at a0 x9_1
                      replace p5 := eq_true p5
                      replace q5 := eq_true q5
                      go_wp2
                      go_roundg k1
                      case measure => have := HK1.out; omega
                      case rel => exact ⟨(wrap64 (x9_1 + 1)), (by first | rfl | (simp; done) | (simp [*]; done)), H', ⟨by have := HK1.out; omega⟩, by repeat (first | exact Drawn0.refl _ | apply Drawn0.step)⟩
                    · rw [if_neg c45] at H
                      have c45b0 : ((bt a0 x9_1) == 95) = false := beq_eq_false_iff_ne.mpr c45
                      have c45b1 : ((bt a0 x9_1) != 95) = true := bne_iff_ne.mpr c45
                      obtain rfl := Option.some.inj H
                      have p5 : 0 ≤ (x9_1 : Int) := of_decide_eq_true (by first | (with_reducible assumption) | assumption)
                      have q5 : x9_1 < (a0.size : Int) := of_decide_eq_true (by first | (with_reducible assumption) | assumption)
                      have hx5 := bt_at a0 x9_1
                      replace p5 := eq_true p5
                      replace q5 := eq_true q5
                      go_wp2
                      go_ret
                      exact ⟨by first | rfl | (simp; done) | (simp [*]; done), by repeat (first | exact Drawn0.refl _ | apply Drawn0.step)⟩
          · rw [if_neg c4] at H
            exact absurd H (by simp)
        · rw [if_neg c3] at H
          exact absurd H (by simp)
      · rw [if_neg c2] at H
        have c2b0 : decide (x9_1 < (a0.size : Int)) = false := decide_eq_false c2
        clear c2
        by_cases c46 : a0.toList = ([] : List UInt8)
        · rw [if_pos c46] at H
          have c46b0 : (a0.toList == ([] : List UInt8)) = true := beq_iff_eq.mpr c46
          have c46b1 : (a0.toList != ([] : List UInt8)) = false := bne_eq_false_iff_eq.mpr c46
          clear c46
          obtain rfl := Option.some.inj H
          go_wp2
          go_ret
          exact ⟨by first | rfl | (simp; done) | (simp [*]; done), by repeat (first | exact Drawn0.refl _ | apply Drawn0.step)⟩
        · rw [if_neg c46] at H
          have c46b0 : (a0.toList == ([] : List UInt8)) = false := beq_eq_false_iff_ne.mpr c46
          have c46b1 : (a0.toList != ([] : List UInt8)) = true := bne_iff_ne.mpr c46
          obtain rfl := Option.some.inj H
          go_wp2
          go_ret
          exact ⟨by first | rfl | (simp; done) | (simp [*]; done), by repeat (first | exact Drawn0.refl _ | apply Drawn0.step)⟩

-- NOT PRINTED: function 65 (api_Stop_65)

-- NOT PRINTED: function 51 (api_Stop_51)

-- NOT PRINTED: function 28 (limit_proper)

-- NOT PRINTED: function 75 (api_Stop_75)

-- NOT PRINTED: function 87 (api_Stop_87)

-- NOT PRINTED: function 76 (api_Stop_76)

end Go.Proofs.Ytioofhmkeajkpaa.PLimitMatchesReference
