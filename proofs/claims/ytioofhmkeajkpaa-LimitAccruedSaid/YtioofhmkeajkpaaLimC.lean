/-
  Contract of package calendar: from.
-/
import Derived.Test.YtioofhmkeajkpaaLimB
namespace Go.Proofs.Ytioofhmkeajkpaa
open Go Go.RowKit PLimitMatchesReference Go.Proofs.YtioofhmkeajkpaaW.PrintWords

attribute [local irreducible] World.cell? World.frozen? isAggB _root_.Go.Program.underlying

theorem run44 (args : Array Value) (w : World) : (callFunc 44 args).run Try.prog w = .ok (.enter 44 args) w := by kernel_rfl

set_option maxRecDepth 100000 in
set_option maxHeartbeats 4000000 in
theorem from_contract {w : World} {b : Nat} {cl : List Int} (hb : ClosedAt w b cl) (d : Int) (h0 : 0 ≤ d) (h1 : d ≤ 9223372036854775807) :
    Calls Try.prog 47 #[.int .i64 d, .func (.func 44) #[.map (some b)] #[]] w fun e w' => e = .returned (.int .i64 (fromD cl d)) ∧ Ext w w' := by
  have hb' := Lib.hid hb
  clear hb
  go_enter Try.func47, Try.ntmps47
  go_wp2_with fail
  go_loopw [0] (fun u W => ∃ x : Int, u = .int .i64 x ∧ 0 ≤ x ∧ x ≤ 9223372036854775807 ∧ fromD cl x = fromD cl d ∧ Ext w W) (fun u _ => (1000001 - intOf u).toNat)
  case atStart => exact ⟨d, rfl, h0, h1, rfl, Touch.refl _ w⟩
  case round =>
    obtain ⟨x, rfl, hx0, hx1, hfx, hE⟩ := hrel
    have hfx' := Lib.hid hfx
    clear hfx
    cases hd : dayB x with
    | false =>
      have hc := is_contract wr x
      rw [hd] at hc
      replace hc := Lib.hid hc
      have hout := Lib.hid (show fromD cl x = x from fromD_out (by
        simp only [dayB, Bool.and_eq_false_iff, decide_eq_false_iff_not] at hd
        omega))
      clear hd
      ((first | go_at_call 42 | (go_wp2_with fail; go_at_call 42)); refine (hc.out).mono ?_; rintro _ w1 ⟨rfl, x1⟩)
      go_wp2_with fail
      go_ret
      exact ⟨by rw [← hfx'.out, hout.out]; rfl, hE.then_ext x1⟩
    | true =>
      have hc := is_contract wr x
      rw [hd] at hc
      replace hc := Lib.hid hc
      have hx2 := (dayB_iff.1 hd).2
      clear hd
      cases hw : workB cl x with
      | true =>
        have hout := Lib.hid (fromD_self hw)
        ((first | go_at_call 42 | (go_wp2_with fail; go_at_call 42)); refine (hc.out).mono ?_; rintro _ w1 ⟨rfl, x1⟩)
        have hcall := offOpen_contract (hb'.out.ext (hE.then_ext x1)) x (by omega) (by omega)
        rw [hw] at hcall
        replace hcall := Lib.hid hcall
        clear hw
        ((first | go_at_call 44 | (go_wp2_with fail; go_at_call 44)); refine (hcall.out).mono ?_; rintro _ w2 ⟨rfl, x2⟩)
        go_wp2_with fail
        go_ret
        exact ⟨by rw [← hfx'.out, hout.out]; rfl, (hE.then_ext x1).then_ext x2⟩
      | false =>
        have hout := Lib.hid (show fromD cl x = fromD cl (x + 1) from by rw [fromD_step hx2, hw]; rfl)
        ((first | go_at_call 42 | (go_wp2_with fail; go_at_call 42)); refine (hc.out).mono ?_; rintro _ w1 ⟨rfl, x1⟩)
        have hcall := offOpen_contract (hb'.out.ext (hE.then_ext x1)) x (by omega) (by omega)
        rw [hw] at hcall
        replace hcall := Lib.hid hcall
        clear hw
        ((first | go_at_call 44 | (go_wp2_with fail; go_at_call 44)); refine (hcall.out).mono ?_; rintro _ w2 ⟨rfl, x2⟩)
        go_wp2_with fail
        exact ⟨⟨x + 1, by go_num, by omega, by omega, by rw [← hout.out, hfx'.out], (hE.then_ext x1).then_ext x2⟩, by simp [intOf]; omega⟩
end Go.Proofs.Ytioofhmkeajkpaa
