/-
  Contracts of package calendar: closedOn, open, Work, from.
-/
import Derived.Test.YtioofhmkeajkpaaLimA
import Derived.Test.YtioofhmkeajkpaaPLimitMatchesReferencex3
namespace Go.Proofs.Ytioofhmkeajkpaa
open Go Go.RowKit PLimitMatchesReference Go.Proofs.YtioofhmkeajkpaaW.PrintWords
open Go.Maps (Keyed)

attribute [local irreducible] World.cell? World.frozen? isAggB _root_.Go.Program.underlying

theorem Try.ag3 : isAggB Try.prog 3 = some false := by kernel_rfl
theorem Try.szE3 : (Try.prog.info? 3).map (·.size) = some 1 := by kernel_rfl
theorem Try.z4 : (Try.prog.info? 4).bind (·.zero) = some (.bool false) := by kernel_rfl
theorem Try.k3 : Keyed Try.prog 3 := Maps.int_keyed Try.underlying3

theorem Ext.of_drawn {w w' : World} (h : Drawn0 w w') : Ext w w' := by
  obtain ⟨n, rfl⟩ := h.out
  exact ⟨rfl, rfl, rfl, Nat.le_refl _, fun _ _ _ => rfl⟩
theorem Ext.of_below {w w' : World} (h : Below w.heap.size w w') : Ext w w' := ⟨h.os, h.tape, h.output, h.size, fun b hb _ => h.block b hb⟩

/-- Block b is the map of some closed days. -/
def ClosedAt (w : World) (b : Nat) (cl : List Int) : Prop := ∃ ks : List Int, MapAt Try.prog 3 w b (ks.map fun x => (.int .i64 x, .bool true)) ∧ ∀ x, x ∈ ks ↔ x ∈ cl
theorem ClosedAt.ext {w w' : World} {b : Nat} {cl : List Int} (h : ClosedAt w b cl) (hE : Ext w w') : ClosedAt w' b cl := by
  obtain ⟨ks, h1, h2⟩ := h
  exact ⟨ks, h1.keep hE (fun h => h), h2⟩
theorem keys_ints (ks : List Int) (x : Int) : Value.int .i64 x ∈ (ks.map fun x => (Value.int .i64 x, Value.bool true)).map (·.1) ↔ x ∈ ks := by
  simp
open Classical in
theorem put_same (ks : List Int) (x : Int) : ((ks.map fun x => (Value.int .i64 x, Value.bool true)).map fun p => if p.1 = Value.int .i64 x then (Value.int .i64 x, Value.bool true) else p) = ks.map fun x => (Value.int .i64 x, Value.bool true) := by
  rw [List.map_map]
  apply List.map_congr_left
  intro y _
  simp only [Function.comp_apply]
  split
  · rename_i h; rw [h]
  · rfl

set_option maxRecDepth 100000 in
set_option maxHeartbeats 4000000 in
theorem closedOn_contract {w : World} {v : Value} {cl : List Int} (hv : RInts w v cl) (hok : ∀ x ∈ cl, (Lit.int .i64 x).wf = true) (hn : cl.length ≤ 1000000) :
    Calls Try.prog 43 #[v] w fun e w' => ∃ b, e = .returned (.map (some b)) ∧ w.heap.size ≤ b ∧ Ext w w' ∧ ClosedAt w' b cl := by
  have hok' := Lib.hid hok
  clear hok
  have hl0 := hv.ext (Ext.alloc w (.map #[] 0))
  go_enter Try.func43, Try.ntmps43
  go_wp2_with (first
    | ((with_reducible change wpList _ _ _ (Oper.mk _ (Op.makeMap _ _) _ _ _ _ :: _) _ _); refine BigFrame.wpList_want rfl (fun K hK => ?_); refine op_makeMap rfl ?_; refine hK _ _ ?_; clear hK K)
    | ((with_reducible change wpList _ _ _ (Oper.mk _ (Op.call (Call.mk (Callee.builtin Builtin.len) _ _)) _ _ _ _ :: _) _ _); refine BigFrame.wpList_want rfl (fun K hK => ?_); refine op_len_rl rfl rfl Try.underlying27 hl0 ?_; refine hK _ _ ?_; clear hK K))
  go_loopw [9] (fun u W => ∃ k : Nat, u = .int .i64 k ∧ k ≤ cl.length ∧ Ext w W ∧ w.heap.size < W.heap.size ∧ ClosedAt W w.heap.size (cl.take k)) (fun u _ => cl.length - (intOf u).toNat)
  case atStart => exact ⟨0, rfl, Nat.zero_le _, Ext.alloc w _, by simp, [], by simpa using MapAt.new Try.prog 3 w 0, by simp⟩
  case round =>
    obtain ⟨k, rfl, hk, hE, hsz, ks, hm, hks⟩ := hrel
    have hlW := hv.ext hE
    clear hl0
    by_cases hlt : k < cl.length
    · obtain ⟨x, hx⟩ : ∃ x, cl[k] = x := ⟨_, rfl⟩
      have hkey := Lib.hid (Maps.keyOf_int_mk (P := Try.prog) Try.underlying3 (hok'.out x (by rw [← hx]; exact List.getElem_mem hlt)))
      have htk := Lib.hid (show cl.take (k + 1) = cl.take k ++ [x] from by rw [List.take_succ_eq_append_getElem hlt, hx])
      have hks' := Lib.hid hks
      clear hks
      by_cases hin : x ∈ ks
      · have hin' := Lib.hid ((keys_ints ks x).2 hin)
        go_wp2_with (first
          | ((with_reducible change wpList _ _ _ (Oper.mk _ (Op.indexAddr _ _ _) _ _ _ _ :: _) _ _); refine BigFrame.wpList_want rfl (fun K hK => ?_); refine op_index_rl (i := k) rfl rfl rfl Try.underlying27 Try.szE3 hlW hlt ?_; intro pp hpp hbb; refine hK _ _ ?_; clear hK K; rw [hx] at hpp; replace hpp := Lib.hid hpp)
          | ((with_reducible change wpList _ _ _ (Oper.mk _ (Op.load _ _) _ _ _ _ :: _) _ _); refine BigFrame.wpList_want rfl (fun K hK => ?_); refine op_load1 rfl rfl Try.ag3 (hpp.out 0 _ rfl) ?_; refine hK _ _ ?_; clear hK K)
          | ((with_reducible change wpList _ _ _ (Oper.mk _ (Op.mapUpdate _ _ _ _) _ _ _ _ :: _) _ _); refine BigFrame.wpList_want rfl (fun K hK => ?_); refine op_update_hit (k := .int .i64 x) (v := .bool true) rfl rfl rfl rfl Try.k3 Try.underlying61 hm hkey.out hin'.out ?_; intro w4 m4 t4 z4; refine hK _ _ ?_; clear hK K))
        have hE4 : Ext w w4 := hE.trans t4 fun b hb e => by omega
        have hz := t4.size
        rw [put_same] at m4
        exact ⟨⟨k + 1, by go_num, hlt, hE4, by omega, ks, m4, fun y => by
          rw [htk.out, List.mem_append, ← hks'.out y]; simp; intro e; rw [e]; exact hin⟩, by simp [intOf]; omega⟩
      · have hin' := Lib.hid (fun h => hin ((keys_ints ks x).1 h))
        go_wp2_with (first
          | ((with_reducible change wpList _ _ _ (Oper.mk _ (Op.indexAddr _ _ _) _ _ _ _ :: _) _ _); refine BigFrame.wpList_want rfl (fun K hK => ?_); refine op_index_rl (i := k) rfl rfl rfl Try.underlying27 Try.szE3 hlW hlt ?_; intro pp hpp hbb; refine hK _ _ ?_; clear hK K; rw [hx] at hpp; replace hpp := Lib.hid hpp)
          | ((with_reducible change wpList _ _ _ (Oper.mk _ (Op.load _ _) _ _ _ _ :: _) _ _); refine BigFrame.wpList_want rfl (fun K hK => ?_); refine op_load1 rfl rfl Try.ag3 (hpp.out 0 _ rfl) ?_; refine hK _ _ ?_; clear hK K)
          | ((with_reducible change wpList _ _ _ (Oper.mk _ (Op.mapUpdate _ _ _ _) _ _ _ _ :: _) _ _); refine BigFrame.wpList_want rfl (fun K hK => ?_); refine op_update_miss (k := .int .i64 x) (v := .bool true) rfl rfl rfl rfl Try.k3 Try.underlying61 hm hkey.out hin'.out ?_; intro w4 m4 t4 z4; refine hK _ _ ?_; clear hK K))
        have hE4 : Ext w w4 := hE.trans t4 fun b hb e => by omega
        have hz := t4.size
        exact ⟨⟨k + 1, by go_num, hlt, hE4, by omega, ks ++ [x], by simpa using m4, fun y => by
          rw [htk.out, List.mem_append, List.mem_append, hks'.out y]⟩, by simp [intOf]; omega⟩
    · have e : k = cl.length := by omega
      subst e
      go_wp2_with fail
      go_ret
      exact ⟨_, rfl, Nat.le_refl _, hE, ks, hm, fun x => by rw [hks x, List.take_length]⟩

theorem is_contract (w : World) (d : Int) : Calls Try.prog 42 #[.int .i64 d] w fun e w' => e = .returned (.bool (dayB d)) ∧ Ext w w' :=
  (calendar_is.calls d (dayB d) w (by
    unfold calendar_is.f dayB
    by_cases h : 0 ≤ d
    · rw [if_pos h, decide_eq_true h]; rfl
    · rw [if_neg h, decide_eq_false h]; rfl)).mono fun _ _ h => ⟨h.1, Ext.of_drawn h.2⟩
theorem isDay_contract (w : World) (d : Int) : Calls Try.prog 33 #[.int .i64 d] w fun e w' => e = .returned (.bool (dayB d)) ∧ Ext w w' :=
  (limit_isDay.calls d (dayB d) w (by
    unfold limit_isDay.f dayB
    by_cases h : 0 ≤ d
    · rw [if_pos h, decide_eq_true h]; rfl
    · rw [if_neg h, decide_eq_false h]; rfl)).mono fun _ _ h => ⟨h.1, Ext.of_drawn h.2⟩
theorem properTerm_contract (w : World) (n u : Int) : Calls Try.prog 40 #[.agg #[.int .i64 n, .int .i64 u]] w fun e w' => e = .returned (.bool (termB n u)) ∧ Ext w w' :=
  (limit_properTerm.calls n u (termB n u) w (by
    unfold limit_properTerm.f termB
    by_cases h1 : 1 ≤ u
    · rw [if_pos h1, decide_eq_true h1]
      by_cases h2 : u ≤ 5
      · rw [if_pos h2, decide_eq_true h2]
        by_cases h3 : 0 ≤ n
        · rw [if_pos h3, decide_eq_true h3]; rfl
        · rw [if_neg h3, decide_eq_false h3]; rfl
      · rw [if_neg h2, decide_eq_false h2]; simp
    · rw [if_neg h1, decide_eq_false h1]; simp)).mono fun _ _ h => ⟨h.1, Ext.of_below h.2⟩

set_option maxRecDepth 100000 in
theorem weekday_yes (w : World) (d : Int) (h : dayB d = true) : Calls Try.prog 59 #[.int .i64 d] w fun e w' => e = .returned (.int .i64 ((d + 5) % 7)) ∧ Ext w w' := by
  have hd := dayB_iff.1 h
  obtain ⟨h0, h1⟩ := hd
  have hc := is_contract w d
  rw [h] at hc
  replace hc := Lib.hid hc
  clear h
  go_enter Try.func59, Try.ntmps59
  ((first | go_at_call 42 | (go_wp2_with fail; go_at_call 42)); refine (hc.out).mono ?_; rintro _ w1 ⟨rfl, x1⟩)
  go_wp2_with fail
  go_ret
  exact ⟨rfl, x1⟩

/-- Offices are open on a day. -/
def WeekB (d : Int) : Bool := decide ((d + 5) % 7 < 5)
set_option maxRecDepth 100000 in
set_option maxHeartbeats 4000000 in
theorem offOpen_contract {w : World} {b : Nat} {cl : List Int} (hb : ClosedAt w b cl) (d : Int) (hlo : -9223372036854775808 ≤ d) (hhi : d ≤ 9223372036854775807) :
    Calls Try.prog 44 #[.map (some b), .int .i64 d] w fun e w' => e = .returned (.bool (workB cl d)) ∧ Ext w w' := by
  have hc := is_contract w d
  cases hd : dayB d with
  | false =>
    rw [hd] at hc
    have hw : workB cl d = false := by unfold workB; rw [hd]; rfl
    rw [hw]
    replace hc := Lib.hid hc
    clear hd hw
    go_enter Try.func44, Try.ntmps44
    ((first | go_at_call 42 | (go_wp2_with fail; go_at_call 42)); refine (hc.out).mono ?_; rintro _ w1 ⟨rfl, x1⟩)
    go_wp2_with fail
    go_ret
    exact ⟨rfl, x1⟩
  | true =>
    rw [hd] at hc
    have hw : workB cl d = (WeekB d && !decide (d ∈ cl)) := by unfold workB WeekB; rw [hd]; rfl
    rw [hw]
    replace hc := Lib.hid hc
    have hd' := Lib.hid hd
    clear hd hw
    cases hk : WeekB d with
    | false =>
      have hk' : decide ((d + 5) % 7 < 5) = false := hk
      clear hk
      go_enter Try.func44, Try.ntmps44
      ((first | go_at_call 42 | (go_wp2_with fail; go_at_call 42)); refine (hc.out).mono ?_; rintro _ w1 ⟨rfl, x1⟩)
      ((first | go_at_call 59 | (go_wp2_with fail; go_at_call 59)); refine (weekday_yes w1 d hd'.out).mono ?_; rintro _ w2 ⟨rfl, x2⟩)
      go_wp2_with fail
      go_ret
      exact ⟨rfl, x1.then_ext x2⟩
    | true =>
      have hk' : decide ((d + 5) % 7 < 5) = true := hk
      clear hk
      have hkey := Lib.hid (Maps.keyOf_int_mk (P := Try.prog) Try.underlying3 (a := d) (by simp [Lit.wf, IntKind.min, IntKind.max, IntKind.signed, IntKind.bits]; omega))
      by_cases hin : d ∈ cl
      · rw [decide_eq_true hin]
        go_enter Try.func44, Try.ntmps44
        ((first | go_at_call 42 | (go_wp2_with fail; go_at_call 42)); refine (hc.out).mono ?_; rintro _ w1 ⟨rfl, x1⟩)
        ((first | go_at_call 59 | (go_wp2_with fail; go_at_call 59)); refine (weekday_yes w1 d hd'.out).mono ?_; rintro _ w2 ⟨rfl, x2⟩)
        obtain ⟨ks, hm, hks⟩ := hb.ext (x1.then_ext x2)
        have hit := Lib.hid (show (Value.int .i64 d, Value.bool true) ∈ ks.map (fun x => (Value.int .i64 x, Value.bool true)) from List.mem_map.2 ⟨d, (hks d).2 hin, rfl⟩)
        clear hin hks
        go_wp2_with (first
          | ((with_reducible change wpList _ _ _ (Oper.mk _ (Op.lookup _ _ _ _) _ _ _ _ :: _) _ _); refine BigFrame.wpList_want rfl (fun K hK => ?_); refine op_lookup_hit rfl rfl rfl Try.k3 Try.underlying61 hm hkey.out hit.out ?_; refine hK _ _ ?_; clear hK K))
        go_ret
        exact ⟨rfl, x1.then_ext x2⟩
      · rw [decide_eq_false hin]
        go_enter Try.func44, Try.ntmps44
        ((first | go_at_call 42 | (go_wp2_with fail; go_at_call 42)); refine (hc.out).mono ?_; rintro _ w1 ⟨rfl, x1⟩)
        ((first | go_at_call 59 | (go_wp2_with fail; go_at_call 59)); refine (weekday_yes w1 d hd'.out).mono ?_; rintro _ w2 ⟨rfl, x2⟩)
        obtain ⟨ks, hm, hks⟩ := hb.ext (x1.then_ext x2)
        have hit := Lib.hid (fun h => hin ((hks d).1 ((keys_ints ks d).1 h)))
        clear hin hks
        go_wp2_with (first
          | ((with_reducible change wpList _ _ _ (Oper.mk _ (Op.lookup _ _ _ _) _ _ _ _ :: _) _ _); refine BigFrame.wpList_want rfl (fun K hK => ?_); refine op_lookup_miss rfl rfl rfl Try.k3 Try.underlying61 hm Try.z4 hkey.out hit.out ?_; refine hK _ _ ?_; clear hK K))
        go_ret
        exact ⟨rfl, x1.then_ext x2⟩

set_option maxRecDepth 100000 in
theorem work_contract {w : World} {v : Value} {cl : List Int} (hv : RInts w v cl) (hok : ∀ x ∈ cl, (Lit.int .i64 x).wf = true) (hn : cl.length ≤ 1000000) (d : Int) (hlo : -9223372036854775808 ≤ d) (hhi : d ≤ 9223372036854775807) :
    Calls Try.prog 25 #[.int .i64 d, v] w fun e w' => e = .returned (.bool (workB cl d)) ∧ Ext w w' := by
  have hc := Lib.hid (closedOn_contract hv hok hn)
  clear hok
  go_enter Try.func25, Try.ntmps25
  ((first | go_at_call 43 | (go_wp2_with fail; go_at_call 43)); refine (hc.out).mono ?_; rintro _ w1 ⟨b, rfl, hb0, x1, hb⟩)
  ((first | go_at_call 44 | (go_wp2_with fail; go_at_call 44)); refine (offOpen_contract hb d hlo hhi).mono ?_; rintro _ w2 ⟨rfl, x2⟩)
  go_wp2_with fail
  go_ret
  exact ⟨rfl, x1.then_ext x2⟩
end Go.Proofs.Ytioofhmkeajkpaa
