/-
  The key of a line; contract: Cut.
-/
import Derived.Test.YtcipfpebjeakfaaNetG
import Derived.DeepKeys4
import Derived.WideKeyPair
namespace Go.Proofs.Ytcipfpebjeakfaa
open Go Go.RowKit Go.WideMaps
open Go.Maps (Keyed)

theorem Try.laid : laidOutB Try.prog = true := by kernel_rfl
theorem Try.row66 : 66 < Try.prog.types.size := by decide +kernel
theorem Try.k66 : Keyed Try.prog 66 := Keyed.of_law (deep_law_laid Try.laid (m := 20) (by omega) Try.row66 (by kernel_rfl) (by kernel_rfl))
theorem Try.arr66 : ArrKey Try.prog 66 3 2 := ⟨Try.underlying66, by kernel_rfl, by kernel_rfl, by kernel_rfl⟩
theorem Try.szm : ∃ m, Try.prog.types.size = m + 1 := ⟨Try.prog.types.size - 1, by have := Try.row66; omega⟩
theorem wf64 {a : Nat} (ha : a ≤ 1000) : (Lit.int .i64 a).wf = true := by
  simp only [Lit.wf, Bool.and_eq_true, decide_eq_true_eq]
  have h1 : IntKind.i64.min = -9223372036854775808 := by decide
  have h2 : IntKind.i64.max = 9223372036854775807 := by decide
  rw [h1, h2]
  omega
theorem key66 (a b : Nat) (ha : a ≤ 1000) (hb : b ≤ 1000) : keyOf Try.prog 66 (pairV a b) = some (.string (keyBytes [.int .i64 a, .int .i64 b])) :=
  keyOf_pair Try.arr66 Try.underlying3 Try.szm (wf64 ha) (wf64 hb)
theorem pairV_inj {a b c d : Nat} (h : pairV a b = pairV c d) : a = c ∧ b = d := by
  unfold pairV at h
  simp at h
  omega

attribute [local irreducible] World.cell? World.frozen? isAggB _root_.Go.Program.underlying

def cutOff (off : Nat → Nat → Bool) (a b : Nat) (v : Bool) : Nat → Nat → Bool := fun i j => if (i = a ∧ j = b) ∨ (i = b ∧ j = a) then v else off i j

open Classical in
theorem CutOk.hit {n : Nat} {off : Nat → Nat → Bool} {m : List (Value × Value)} (h : CutOk n off m) (k : Value) : (m.map fun p => if p.1 = k then (k, .bool true) else p) = m := by
  have : ∀ p ∈ m, (if p.1 = k then (k, Value.bool true) else p) = p := by
    rintro ⟨k', v'⟩ hp
    have := (h.1 k' v' hp).1
    split
    · rename_i e; simp only at e; rw [this, e]
    · rfl
  exact (List.map_congr_left this).trans (List.map_id m)

theorem cutOff_lt {off : Nat → Nat → Bool} {a b x y : Nat} (hx : x = min a b) (hy : y = max a b) (_hne : a ≠ b) (v : Bool) {i j : Nat} (hij : i < j) : cutOff off a b v i j = if i = x ∧ j = y then v else off i j := by
  unfold cutOff
  have : ((i = a ∧ j = b) ∨ (i = b ∧ j = a)) ↔ (i = x ∧ j = y) := by
    subst hx; subst hy
    omega
  simp only [this]

theorem CutOk.on {n : Nat} {off : Nat → Nat → Bool} {m : List (Value × Value)} (h : CutOk n off m) {a b x y : Nat} (hx : x = min a b) (hy : y = max a b) (hne : a ≠ b) (hin : pairV x y ∈ m.map (·.1)) : CutOk n (cutOff off a b true) m := by
  refine ⟨fun k v hk => ?_, fun i j hij hj ho => ?_⟩
  · obtain ⟨h1, i, j, h2, h3, h4, h5⟩ := h.1 k v hk
    refine ⟨h1, i, j, h2, h3, h4, ?_⟩
    rw [cutOff_lt hx hy hne _ h2]
    split
    · rfl
    · exact h5
  · rw [cutOff_lt hx hy hne _ hij] at ho
    by_cases e : i = x ∧ j = y
    · rw [e.1, e.2]; exact hin
    · rw [if_neg e] at ho; exact h.2 i j hij hj ho
theorem CutOk.add {n : Nat} {off : Nat → Nat → Bool} {m : List (Value × Value)} (h : CutOk n off m) {a b x y : Nat} (hx : x = min a b) (hy : y = max a b) (hne : a ≠ b) (ha : a < n) (hb : b < n) : CutOk n (cutOff off a b true) (m ++ [(pairV x y, .bool true)]) := by
  refine ⟨fun k v hk => ?_, fun i j hij hj ho => ?_⟩
  · rcases List.mem_append.1 hk with hk | hk
    · obtain ⟨h1, i, j, h2, h3, h4, h5⟩ := h.1 k v hk
      refine ⟨h1, i, j, h2, h3, h4, ?_⟩
      rw [cutOff_lt hx hy hne _ h2]
      split
      · rfl
      · exact h5
    · simp only [List.mem_singleton, Prod.mk.injEq] at hk
      obtain ⟨rfl, rfl⟩ := hk
      have hxy : x < y := by omega
      refine ⟨rfl, x, y, hxy, by omega, rfl, ?_⟩
      rw [cutOff_lt hx hy hne _ hxy, if_pos ⟨rfl, rfl⟩]
  · rw [cutOff_lt hx hy hne _ hij] at ho
    rw [List.map_append, List.mem_append]
    by_cases e : i = x ∧ j = y
    · rw [e.1, e.2]; exact .inr (by simp)
    · rw [if_neg e] at ho; exact .inl (h.2 i j hij hj ho)
open Classical in
theorem CutOk.del {n : Nat} {off : Nat → Nat → Bool} {m : List (Value × Value)} (h : CutOk n off m) {a b x y : Nat} (hx : x = min a b) (hy : y = max a b) (hne : a ≠ b) : CutOk n (cutOff off a b false) (m.filter fun p => !decide (p.1 = pairV x y)) := by
  refine ⟨fun k v hk => ?_, fun i j hij hj ho => ?_⟩
  · obtain ⟨hk, hd⟩ := List.mem_filter.1 hk
    obtain ⟨h1, i, j, h2, h3, h4, h5⟩ := h.1 k v hk
    refine ⟨h1, i, j, h2, h3, h4, ?_⟩
    rw [cutOff_lt hx hy hne _ h2, if_neg, h5]
    rintro ⟨rfl, rfl⟩
    rw [h4] at hd
    simp at hd
  · rw [cutOff_lt hx hy hne _ hij] at ho
    by_cases e : i = x ∧ j = y
    · rw [if_pos e] at ho; cases ho
    · rw [if_neg e] at ho
      obtain ⟨⟨k', v'⟩, hp, hk⟩ := List.mem_map.1 (h.2 i j hij hj ho)
      simp only at hk
      refine List.mem_map.2 ⟨(k', v'), List.mem_filter.2 ⟨hp, ?_⟩, hk⟩
      have : k' ≠ pairV x y := by
        rw [hk]; intro e'; exact e (pairV_inj e')
      simp [this]

def NetS.okB (S : NetS) (a b : Nat) : Bool := decide (a < S.n) && decide (b < S.n) && !decide (a = b)
def NetS.cutTo (S : NetS) (a b : Nat) (v : Bool) : NetS := if S.okB a b then { S with off := cutOff S.off a b v } else S
def NetS.codeB (S : NetS) (a b : Nat) : Int := if S.okB a b then 0 else 1

set_option maxRecDepth 100000 in
set_option maxHeartbeats 1000000 in
theorem cut_contract {w : World} {p : Nat} {L : Lay} {S : NetS} (h : NetAt w p L S) (a b : Nat) (v : Bool) (ha6 : a ≤ 1000) (hb6 : b ≤ 1000) :
    Calls Try.prog 19 #[ptr p, .int .i64 a, .int .i64 b, .bool v] w fun e w' => e = .returned (.int .i64 (S.codeB a b)) ∧ AddPost w.heap.size w p L (S.cutTo a b v) w' := by
  have hth := Lib.hid (there_contract (h.alloc (.cells #[.int .i64 a, .int .i64 b] 3)) [(a : Int), (b : Int)] (.slice (some ⟨w.heap.size, 0, none⟩) 2 2) (by simp) (Row.new w 3 [.int .i64 a, .int .i64 b] (by simp) (by simp)))
  rw [there2_iff] at hth
  by_cases hok : S.okB a b = true
  · have hok' := hok
    unfold NetS.okB at hok'
    simp only [Bool.and_eq_true, Bool.not_eq_true', decide_eq_true_eq, decide_eq_false_iff_not] at hok'
    obtain ⟨⟨ha, hb⟩, hne⟩ := hok'
    rw [decide_eq_true ha, decide_eq_true hb] at hth
    have hne' : ((a : Int) == (b : Int)) = false := by simp; omega
    have f2 := Lib.hid (show w.cell? ⟨p, 2, none⟩ = some (.map (some L.cut)) from h.net.cell (i := 2) rfl)
    have hcode : S.codeB a b = 0 := by unfold NetS.codeB; rw [if_pos hok]
    have hcut : S.cutTo a b v = { S with off := cutOff S.off a b v } := by unfold NetS.cutTo; rw [if_pos hok]
    rw [hcode, hcut]
    have hl := fun W => line_contract a b (min a b) (max a b) W (by omega) (by omega) rfl rfl
    have hl' := Lib.hid hl
    have hk := Lib.hid (key66 (min a b) (max a b) (by omega) (by omega))
    obtain ⟨m, hm, hmok⟩ := h.cut
    have hmok' := Lib.hid hmok
    have ha' := Lib.hid ha
    have hb' := Lib.hid hb
    have hne'' := Lib.hid hne
    have htc := Lib.hid (show L.tag L.cut ≠ .oth ∧ L.tag L.cut ≠ .msg from by rw [h.tcut]; simp)
    clear hcode hcut hok hl hmok ha hb hne
    cases v with
    | true =>
      unfold ptr at hth ⊢
      go_enter Try.func19, Try.ntmps19
      go_wp2_with (first
        | (go_at_call 31; refine hth.out.mono ?_; rintro _ w1 ⟨rfl, hE1⟩; have hE := (Ext.alloc w (.cells #[.int .i64 a, .int .i64 b] 3)).then_ext hE1; have h1 := h.ext hE))
      refine wp_region_rt (by kernel_rfl) [0, 1, 3, 7, 0, 0, 48, 127] (.rd 0 (.rd 1 (.rd 2 (.rd 3 (.rd 4 (.rd 5 (.e1 6 [1, 2, 3] (.e1 7 [] (.nil))))))))) (by kernel_rfl) ?_
      iterate 3 (refine cw_rd rfl rfl rfl rfl rfl (fun K hK => ?_); go_wp2_with fail)
      (refine cw_rd rfl rfl rfl rfl rfl (fun K hK => ?_); refine op_load1 rfl rfl Try.ag52 (cell_drew (hE.cell f2.out (fun h => h))) ?_; refine hK _ ?_; clear hK K)
      iterate 2 (refine cw_rd rfl rfl rfl rfl rfl (fun K hK => ?_); go_wp2_with fail)
      refine cw_e1 rfl rfl (fun K hK => ?_)
      go_wp2_with (first
        | (go_at_call 34; refine (hl'.out _).mono ?_; rintro _ w2 ⟨rfl, hE2⟩))
      have hEw : Ext w w2 := hE.drew.then_ext hE2
      have h2 := h.ext hEw
      have hm2 := hm.keep hEw (fun h => h)
      refine ⟨?_, ?_⟩
      · (repeat (first | exact fl_nil | refine fl_skip rfl ?_ | (refine fl_take rfl ?_ ?_; (first | exact yldI_load1 rfl rfl rfl rfl Try.ag52 (hEw.cell f2.out (fun h => h)) | (refine yldI_of rfl rfl ?_; go_simp)))))
      by_cases hin : pairV (min a b) (max a b) ∈ m.map (·.1)
      · have hin' := Lib.hid hin
        clear hin
        refine cw_e1 rfl rfl (fun K hK => ?_)
        refine op_update_hit (k := pairV (min a b) (max a b)) (v := .bool true) rfl rfl rfl rfl Try.k66 Try.underlying52 hm2 hk.out hin'.out ?_
        intro w3 hm3 ht3 hz3
        rw [hmok'.out.hit] at hm3
        refine hK _ _ ⟨fl_none, ?_⟩
        clear hK K
        refine cw_nil ?_
        go_wp2_with fail
        go_ret
        refine ⟨rfl, ⟨L, h2.setCut (cutOff S.off a b true) ht3 hm3 (hmok'.out.on rfl rfl hne''.out hin'.out), LayTo.same (F := fun b => b = L.cut) (Nat.le_refl _) ((Touch.of_ext hEw).trans ht3 fun _ _ h => h) fun b _ e => .inr ?_⟩⟩
        subst e; exact htc.out
      · have hin' := Lib.hid hin
        clear hin
        refine cw_e1 rfl rfl (fun K hK => ?_)
        refine op_update_miss (k := pairV (min a b) (max a b)) (v := .bool true) rfl rfl rfl rfl Try.k66 Try.underlying52 hm2 hk.out hin'.out ?_
        intro w3 hm3 ht3 hz3
        refine hK _ _ ⟨fl_none, ?_⟩
        clear hK K
        refine cw_nil ?_
        go_wp2_with fail
        go_ret
        refine ⟨rfl, ⟨L, h2.setCut (cutOff S.off a b true) ht3 hm3 (hmok'.out.add rfl rfl hne''.out ha'.out hb'.out), LayTo.same (F := fun b => b = L.cut) (Nat.le_refl _) ((Touch.of_ext hEw).trans ht3 fun _ _ h => h) fun b _ e => .inr ?_⟩⟩
        subst e; exact htc.out
    | false =>
      unfold ptr at hth ⊢
      go_enter Try.func19, Try.ntmps19
      go_wp2_with (first
        | (go_at_call 31; refine hth.out.mono ?_; rintro _ w1 ⟨rfl, hE1⟩; have hE := (Ext.alloc w (.cells #[.int .i64 a, .int .i64 b] 3)).then_ext hE1; have h1 := h.ext hE))
      refine wp_region_rt (by kernel_rfl) [0, 1, 3, 7, 0, 0, 48, 127] (.rd 0 (.rd 1 (.rd 2 (.rd 3 (.rd 4 (.rd 5 (.e1 6 [1, 2, 3] (.e1 7 [] (.nil))))))))) (by kernel_rfl) ?_
      iterate 3 (refine cw_rd rfl rfl rfl rfl rfl (fun K hK => ?_); go_wp2_with fail)
      (refine cw_rd rfl rfl rfl rfl rfl (fun K hK => ?_); refine op_load1 rfl rfl Try.ag52 (cell_drew (hE.cell f2.out (fun h => h))) ?_; refine hK _ ?_; clear hK K)
      iterate 2 (refine cw_rd rfl rfl rfl rfl rfl (fun K hK => ?_); go_wp2_with fail)
      refine cw_e1 rfl rfl (fun K hK => ?_)
      go_wp2_with (first
        | (go_at_call 34; refine (hl'.out _).mono ?_; rintro _ w2 ⟨rfl, hE2⟩))
      have hEw : Ext w w2 := hE.drew.then_ext hE2
      have h2 := h.ext hEw
      have hm2 := hm.keep hEw (fun h => h)
      refine ⟨?_, ?_⟩
      · (repeat (first | exact fl_nil | refine fl_skip rfl ?_ | (refine fl_take rfl ?_ ?_; (first | exact yldI_load1 rfl rfl rfl rfl Try.ag52 (hEw.cell f2.out (fun h => h)) | (refine yldI_of rfl rfl ?_; go_simp)))))
      refine cw_e1 rfl rfl (fun K hK => ?_)
      refine op_delete (k := pairV (min a b) (max a b)) rfl rfl rfl Try.k66 Try.underlying52 hm2 hk.out ?_
      intro w3 hm3 ht3 hz3
      refine hK _ _ ⟨fl_none, ?_⟩
      clear hK K
      refine cw_nil ?_
      go_wp2_with fail
      go_ret
      refine ⟨rfl, ⟨L, h2.setCut (cutOff S.off a b false) ht3 hm3 (hmok'.out.del rfl rfl hne''.out), LayTo.same (F := fun b => b = L.cut) (Nat.le_refl _) ((Touch.of_ext hEw).trans ht3 fun _ _ h => h) fun b _ e => .inr ?_⟩⟩
      subst e; exact htc.out
  · have hf : S.okB a b = false := by simpa using hok
    have hcode : S.codeB a b = 1 := by unfold NetS.codeB; rw [hf]; rfl
    have hcut : S.cutTo a b v = S := by unfold NetS.cutTo; rw [hf]; rfl
    rw [hcode, hcut]
    by_cases hab : a < S.n ∧ b < S.n
    · have heq : ((a : Int) == (b : Int)) = true := by
        have : a = b := by
          unfold NetS.okB at hf
          rw [decide_eq_true hab.1, decide_eq_true hab.2] at hf
          simpa using hf
        simp [this]
      rw [decide_eq_true hab.1, decide_eq_true hab.2] at hth
      clear hok hab hf hcode hcut
      unfold ptr at hth ⊢
      go_enter Try.func19, Try.ntmps19
      go_wp2_with (first
        | (go_at_call 31; refine hth.out.mono ?_; rintro _ w1 ⟨rfl, hE1⟩))
      go_ret
      exact ⟨rfl, AddPost.of_ext h ((Ext.alloc w _).then_ext hE1)⟩
    · have hf2 : (decide (a < S.n) && decide (b < S.n)) = false := by
        by_cases h1 : a < S.n <;> by_cases h2 : b < S.n <;> simp_all
      rw [hf2] at hth
      clear hok hab hf hf2 hcode hcut
      unfold ptr at hth ⊢
      go_enter Try.func19, Try.ntmps19
      go_wp2_with (first
        | (go_at_call 31; refine hth.out.mono ?_; rintro _ w1 ⟨rfl, hE1⟩))
      go_ret
      exact ⟨rfl, AddPost.of_ext h ((Ext.alloc w _).then_ext hE1)⟩
end Go.Proofs.Ytcipfpebjeakfaa
