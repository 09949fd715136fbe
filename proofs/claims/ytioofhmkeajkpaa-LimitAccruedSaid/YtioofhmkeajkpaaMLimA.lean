/-
  Contracts: slices.IndexFunc and ContainsFunc at stops; package limit's properStop, proper.
-/
import Derived.Test.YtioofhmkeajkpaaLimG
import Derived.Test.YtioofhmkeajkpaaPLimitMatchesReferencex4
namespace Go.Proofs.Ytioofhmkeajkpaa
open Go Go.RowKit PLimitMatchesReference Go.Proofs.YtioofhmkeajkpaaW.PrintWords

attribute [local irreducible] World.cell? World.frozen? isAggB _root_.Go.Program.underlying

theorem Try.ag31 : isAggB Try.prog 31 = some true := by kernel_rfl
theorem Try.sz31 : (Try.prog.info? 31).map (·.size) = some 2 := by kernel_rfl
def stopV (s : S31) : Value := .agg #[.int .i64 s.f0, .int .i64 s.f1]

def IndexPost (p : S31 → Bool) (l : Stops) (w : World) (e : Ending) (w' : World) : Prop :=
  ∃ r : Int, e = .returned (.int .i64 r) ∧ decide (0 ≤ r) = l.any p ∧ Ext w w'
set_option maxRecDepth 100000 in
set_option maxHeartbeats 4000000 in
theorem indexFunc_contract {w : World} {v : Value} {l : Stops} (hv : RStops w v l) (hn : l.length ≤ 1000000) (p : S31 → Bool) {fn : FuncId} {first cap : Array Value}
    (hrun : ∀ (args : Array Value) (w : World), (callFunc fn args).run Try.prog w = .ok (.enter fn args) w)
    (hp : ∀ W, Ext w W → ∀ s ∈ l, Calls Try.prog fn (first ++ #[stopV s] ++ cap) W fun e w' => e = .returned (.bool (p s)) ∧ Ext W w') :
    Calls Try.prog 65 #[v, .func (.func fn) first cap] w fun e w' => IndexPost p l w e w' := by
  have hp' := Lib.hid hp
  clear hp
  go_enter Try.func65, Try.ntmps65
  go_wp2_with (first
    | ((with_reducible change wpList _ _ _ (Oper.mk _ (Op.call (Call.mk (Callee.builtin Builtin.len) _ _)) _ _ _ _ :: _) _ _); refine BigFrame.wpList_want rfl (fun K hK => ?_); refine op_len_rl rfl rfl Try.underlying24 hv ?_; refine hK _ _ ?_; clear hK K))
  go_loopw [8] (fun u W => ∃ k : Nat, u = .int .i64 k ∧ k ≤ l.length ∧ (l.take k).any p = false ∧ Ext w W) (fun u _ => l.length - (intOf u).toNat)
  case atStart => exact ⟨0, rfl, Nat.zero_le _, rfl, Touch.refl _ w⟩
  case round =>
    obtain ⟨k, rfl, hk, hnone, hE⟩ := hrel
    have hnone' := Lib.hid hnone
    clear hnone
    have hvW := hv.ext hE
    by_cases hlt : k < l.length
    · obtain ⟨s, hs⟩ : ∃ s, l[k] = s := ⟨_, rfl⟩
      have hmem := Lib.hid (show s ∈ l by rw [← hs]; exact List.getElem_mem hlt)
      have htk := Lib.hid (show l.take (k + 1) = l.take k ++ [s] from by rw [List.take_succ_eq_append_getElem hlt, hs])
      have hcall := hp'.out wr hE s hmem.out
      cases hps : p s with
      | true =>
        rw [hps] at hcall
        have hany := Lib.hid (show l.any p = true from List.any_eq_true.2 ⟨s, hmem.out, hps⟩)
        replace hcall := Lib.hid hcall
        clear hps
        go_wp2_with (first
          | ((with_reducible change wpList _ _ _ (Oper.mk _ (Op.indexAddr _ _ _) _ _ _ _ :: _) _ _); refine BigFrame.wpList_want rfl (fun K hK => ?_); refine op_index_rl (i := k) rfl rfl rfl Try.underlying24 Try.sz31 hvW hlt ?_; intro pp hpp hbb; refine hK _ _ ?_; clear hK K; rw [hs] at hpp; replace hpp := Lib.hid hpp)
          | ((with_reducible change wpList _ _ _ (Oper.mk _ (Op.load _ _) _ _ _ _ :: _) _ _); refine BigFrame.wpList_want rfl (fun K hK => ?_); refine op_loadN (p := pp) (vs := [.int .i64 s.f0, .int .i64 s.f1]) rfl rfl Try.ag31 Try.sz31 hpp.out ?_; refine hK _ _ ?_; clear hK K))
        refine hcall.out.mono ?_
        rintro _ w2 ⟨rfl, x2⟩
        go_wp2_with fail
        go_ret
        exact ⟨k, rfl, by rw [hany.out]; simp, hE.then_ext x2⟩
      | false =>
        rw [hps] at hcall
        have hany := Lib.hid (show (l.take (k + 1)).any p = false from by rw [htk.out, List.any_append, hnone'.out]; simp [hps])
        replace hcall := Lib.hid hcall
        clear hps
        go_wp2_with (first
          | ((with_reducible change wpList _ _ _ (Oper.mk _ (Op.indexAddr _ _ _) _ _ _ _ :: _) _ _); refine BigFrame.wpList_want rfl (fun K hK => ?_); refine op_index_rl (i := k) rfl rfl rfl Try.underlying24 Try.sz31 hvW hlt ?_; intro pp hpp hbb; refine hK _ _ ?_; clear hK K; rw [hs] at hpp; replace hpp := Lib.hid hpp)
          | ((with_reducible change wpList _ _ _ (Oper.mk _ (Op.load _ _) _ _ _ _ :: _) _ _); refine BigFrame.wpList_want rfl (fun K hK => ?_); refine op_loadN (p := pp) (vs := [.int .i64 s.f0, .int .i64 s.f1]) rfl rfl Try.ag31 Try.sz31 hpp.out ?_; refine hK _ _ ?_; clear hK K))
        refine hcall.out.mono ?_
        rintro _ w2 ⟨rfl, x2⟩
        go_wp2_with fail
        exact ⟨⟨k + 1, by go_num, hlt, hany.out, hE.then_ext x2⟩, by simp [intOf]; omega⟩
    · have e : k = l.length := by omega
      subst e
      go_wp2_with fail
      go_ret
      exact ⟨-1, rfl, by have := hnone'.out; rw [List.take_length] at this; rw [this]; rfl, hE⟩

set_option maxRecDepth 100000 in
theorem containsFunc_contract {w : World} {v : Value} {l : Stops} (hv : RStops w v l) (hn : l.length ≤ 1000000) (p : S31 → Bool) {fn : FuncId} {first cap : Array Value}
    (hrun : ∀ (args : Array Value) (w : World), (callFunc fn args).run Try.prog w = .ok (.enter fn args) w)
    (hp : ∀ W, Ext w W → ∀ s ∈ l, Calls Try.prog fn (first ++ #[stopV s] ++ cap) W fun e w' => e = .returned (.bool (p s)) ∧ Ext W w') :
    Calls Try.prog 51 #[v, .func (.func fn) first cap] w fun e w' => e = .returned (.bool (l.any p)) ∧ Ext w w' := by
  have hc := Lib.hid (indexFunc_contract hv hn p hrun hp)
  clear hp hrun
  go_enter Try.func51, Try.ntmps51
  ((first | go_at_call 65 | (go_wp2_with fail; go_at_call 65)); refine (hc.out).mono ?_; rintro _ w1 ⟨r, rfl, hr, x1⟩)
  have hr' := Lib.hid hr
  clear hr
  go_wp2_with fail
  go_ret
  refine ⟨?_, x1⟩
  rw [← hr'.out]
  rfl

set_option maxRecDepth 100000 in
theorem properStop_contract (w : World) (s : S31) : Calls Try.prog 37 #[stopV s] w fun e w' => e = .returned (.bool (stopB s)) ∧ Ext w w' := by
  unfold stopV stopB
  obtain ⟨a, b⟩ := s
  dsimp only
  by_cases h1 : 0 ≤ a
  · rw [decide_eq_true h1]
    by_cases h2 : a ≤ b
    · rw [decide_eq_true h2]
      go_enter Try.func37, Try.ntmps37
      go_wp2_with fail
      go_ret
      exact ⟨rfl, Ext.alloc w _⟩
    · rw [decide_eq_false h2]
      go_enter Try.func37, Try.ntmps37
      go_wp2_with fail
      go_ret
      exact ⟨rfl, Ext.alloc w _⟩
  · rw [decide_eq_false h1]
    go_enter Try.func37, Try.ntmps37
    go_wp2_with fail
    go_ret
    exact ⟨rfl, Ext.alloc w _⟩
set_option maxRecDepth 100000 in
theorem wrong_contract (w : World) (s : S31) : Calls Try.prog 49 #[stopV s] w fun e w' => e = .returned (.bool (!stopB s)) ∧ Ext w w' := by
  have hc := fun w => properStop_contract w s
  generalize stopB s = q at hc
  replace hc := Lib.hid hc
  unfold stopV at hc ⊢
  go_enter Try.func49, Try.ntmps49
  ((first | go_at_call 37 | (go_wp2_with fail; go_at_call 37)); refine (hc.out _).mono ?_; rintro _ w1 ⟨rfl, x1⟩)
  go_wp2_with fail
  go_ret
  exact ⟨rfl, (Ext.alloc w _).then_ext x1⟩
end Go.Proofs.Ytioofhmkeajkpaa

/-
  Names: what isName tells; contract of package limit's proper.
-/
namespace Go.Proofs.Ytioofhmkeajkpaa
open Go Go.RowKit PLimitMatchesReference Go.Proofs.YtioofhmkeajkpaaW.PrintWords

attribute [local irreducible] World.cell? World.frozen? isAggB _root_.Go.Program.underlying

set_option maxRecDepth 100000 in
theorem isName_step (k : Nat) (s : ByteArray) (i : Nat) (hi : i < s.size) (hs : s.size ≤ 4611686018427387904) :
    limit_isName.l0 (k + 1) s (s.size : Int) (i : Int) = if isL (bt s i) then limit_isName.l0 k s (s.size : Int) ((i + 1 : Nat) : Int) else if i = 0 then some false else if isW (bt s i) then limit_isName.l0 k s (s.size : Int) ((i + 1 : Nat) : Int) else some false := by
  have hw : wrap64 ((i : Int) + 1) = ((i + 1 : Nat) : Int) := by unfold wrap64; omega
  simp only [limit_isName.l0]
  rw [if_pos (by omega), if_pos (by omega), if_pos (by omega), hw]
  generalize limit_isName.l0 k s (s.size : Int) ((i + 1 : Nat) : Int) = R
  have hi0 : ((i : Int) = 0) = (i = 0) := by simp
  simp only [hi0]
  generalize bt s i = c
  by_cases h0 : i = 0
  · simp only [h0, if_true]
    repeat' split
    all_goals first | rfl | omega
  · simp only [h0, if_false]
    repeat' split
    all_goals first | rfl | omega | (rw [if_pos (by omega)]) | (rw [if_neg (by omega)])

theorem isName_all (s : ByteArray) (hs : s.size ≤ 4611686018427387904) : ∀ (m i k : Nat), i + m = s.size → m < k →
    limit_isName.l0 k s (s.size : Int) (i : Int) = some ((List.range' i m).all (chB s) && decide (0 < s.size) && decide (s.size ≤ 24)) := by
  intro m
  induction m with
  | zero =>
    intro i k hm hk
    obtain ⟨k, rfl⟩ : ∃ q, k = q + 1 := ⟨k - 1, by omega⟩
    have e : i = s.size := by omega
    subst e
    simp only [limit_isName.l0]
    rw [if_neg (by omega), List.range'_zero, List.all_nil, Bool.true_and]
    have hl : s.toList.length = s.size := by rw [ByteArray.toList_eq]; rfl
    by_cases h0 : s.size = 0
    · have : s.toList = [] := List.eq_nil_of_length_eq_zero (by omega)
      rw [if_pos this, decide_eq_false (p := 0 < s.size) (by omega)]; rfl
    · have : s.toList ≠ [] := fun e => h0 (by rw [e] at hl; exact hl.symm)
      rw [if_neg this, decide_eq_true (p := 0 < s.size) (by omega), Bool.true_and]
      congr 1
      exact decide_eq_decide.2 (by omega)
  | succ m ih =>
    intro i k hm hk
    obtain ⟨k, rfl⟩ : ∃ q, k = q + 1 := ⟨k - 1, by omega⟩
    rw [isName_step k s i (by omega) hs, ih (i + 1) k (by omega) (by omega), List.range'_succ, List.all_cons]
    unfold chB
    by_cases hl : isL (bt s i)
    · rw [if_pos hl, decide_eq_true hl]; simp
    · rw [if_neg hl, decide_eq_false hl]
      by_cases h0 : i = 0
      · rw [if_pos h0]; simp [h0]
      · rw [if_neg h0]
        by_cases hw : isW (bt s i)
        · rw [if_pos hw, decide_eq_true hw]; simp [h0]
        · rw [if_neg hw, decide_eq_false hw]; simp
theorem isName_contract (w : World) (s : ByteArray) (hs : s.size ≤ 4611686018427387904) : Calls Try.prog 50 #[.string s] w fun e w' => e = .returned (.bool (nmB s)) ∧ Ext w w' :=
  (limit_isName.calls (s.size + 1) s (nmB s) w (isName_all s hs s.size 0 (s.size + 1) (by omega) (by omega))).mono fun _ _ h => ⟨h.1, Ext.of_drawn h.2⟩

/-- A limit as a value, its stops at v. -/
def limCells (l : Lim) (v : Value) : List Value := [.string l.id, .int .i64 l.n, .int .i64 l.unit, .int .i64 l.fr, v]
structure LimAt (w : World) (l : Lim) (v : Value) : Prop where
  stops : RStops w v l.stops
  few : l.stops.length ≤ 1000000
  id : l.id.size ≤ 4611686018427387904
theorem LimAt.ext {w w' : World} {l : Lim} {v : Value} (h : LimAt w l v) (hE : Ext w w') : LimAt w' l v := ⟨h.stops.ext hE, h.few, h.id⟩
theorem run49 (args : Array Value) (w : World) : (callFunc 49 args).run Try.prog w = .ok (.enter 49 args) w := by kernel_rfl
theorem run55 (args : Array Value) (w : World) : (callFunc 55 args).run Try.prog w = .ok (.enter 55 args) w := by kernel_rfl
theorem Try.ag9 : isAggB Try.prog 9 = some false := by kernel_rfl
theorem Try.ag24 : isAggB Try.prog 24 = some false := by kernel_rfl
theorem Try.ag26 : isAggB Try.prog 26 = some true := by kernel_rfl
theorem Try.sz26 : (Try.prog.info? 26).map (·.size) = some 5 := by kernel_rfl
theorem blk_part {w : World} {g : Nat} {T : TypeId} (pre vs post : List Value) (h : Blk w g T (pre ++ vs ++ post).toArray) : ∀ j v, vs[j]? = some v → w.cell? ((⟨g, pre.length, none⟩ : Addr).add j) = some v := by
  intro j v hj
  have hl := (List.getElem?_eq_some_iff.1 hj).1
  have hadd : (⟨g, pre.length, none⟩ : Addr).add j = ⟨g, pre.length + j, none⟩ := by unfold Addr.add; split <;> simp_all
  rw [hadd]
  refine h.cell ?_
  rw [List.getElem?_toArray, List.append_assoc, List.getElem?_append_right (by omega), Nat.add_sub_cancel_left, List.getElem?_append_left hl]
  exact hj

set_option maxRecDepth 100000 in
set_option maxHeartbeats 4000000 in
theorem proper_contract {w : World} {l : Lim} {v : Value} (h : LimAt w l v) : Calls Try.prog 28 #[.agg (limCells l v).toArray] w fun e w' => e = .returned (.bool l.proper) ∧ Ext w w' := by
  obtain ⟨hst, hfew, hid⟩ := h
  have c1 := fun w => isName_contract w l.id hid
  have c2 := fun w => isDay_contract w l.fr
  have c3 := fun w => properTerm_contract w l.n l.unit
  have e : l.proper = (nmB l.id && dayB l.fr && termB l.n l.unit && decide (l.stops.length ≤ 60) && !(l.stops.any fun s => !stopB s)) := by
    unfold Lim.proper
    rw [List.not_any_eq_all_not]
    simp
  rw [e]
  clear e
  unfold limCells
  have c4 : ∀ {W : World}, Ext w W → Calls Try.prog 51 #[v, .func (.func 49) #[] #[]] W fun e w' => e = .returned (.bool (l.stops.any fun s => !stopB s)) ∧ Ext W w' := fun {W} hE =>
    containsFunc_contract (hst.ext hE) hfew (fun s => !stopB s) run49 fun W' _ s _ => by simpa using wrong_contract W' s
  cases h1 : nmB l.id with
  | false =>
    rw [h1] at c1
    replace c1 := Lib.hid c1
    clear h1 c2 c3 c4
    go_enter Try.func28, Try.ntmps28
    ((first | go_at_call 50 | (go_wp2_with fail; go_at_call 50)); refine (c1.out _).mono ?_; rintro _ w1 ⟨rfl, x1⟩)
    go_wp2_with fail
    go_ret
    exact ⟨rfl, (Ext.alloc w _).then_ext x1⟩
  | true =>
    rw [h1] at c1
    replace c1 := Lib.hid c1
    clear h1
    cases h2 : dayB l.fr with
    | false =>
      rw [h2] at c2
      replace c2 := Lib.hid c2
      clear h2 c3 c4
      go_enter Try.func28, Try.ntmps28
      ((first | go_at_call 50 | (go_wp2_with fail; go_at_call 50)); refine (c1.out _).mono ?_; rintro _ w1 ⟨rfl, x1⟩)
      have b1 := Blk.ext (obj_new w _) x1
      ((first | go_at_call 33 | (go_wp2_with (first | ((with_reducible change wpList _ _ _ (Oper.mk _ (Op.load _ _) _ _ _ _ :: _) _ _); refine BigFrame.wpList_want rfl (fun K hK => ?_); refine op_load1 rfl rfl Try.ag3 (b1.cell (i := 3) rfl) ?_; refine hK _ _ ?_; clear hK K)); go_at_call 33)); refine (c2.out _).mono ?_; rintro _ w2 ⟨rfl, x2⟩)
      go_wp2_with fail
      go_ret
      exact ⟨rfl, ((Ext.alloc w _).then_ext x1).then_ext x2⟩
    | true =>
      rw [h2] at c2
      replace c2 := Lib.hid c2
      clear h2
      cases h3 : termB l.n l.unit with
      | false =>
        rw [h3] at c3
        replace c3 := Lib.hid c3
        clear h3 c4
        go_enter Try.func28, Try.ntmps28
        ((first | go_at_call 50 | (go_wp2_with fail; go_at_call 50)); refine (c1.out _).mono ?_; rintro _ w1 ⟨rfl, x1⟩)
        have b1 := Blk.ext (obj_new w _) x1
        ((first | go_at_call 33 | (go_wp2_with (first | ((with_reducible change wpList _ _ _ (Oper.mk _ (Op.load _ _) _ _ _ _ :: _) _ _); refine BigFrame.wpList_want rfl (fun K hK => ?_); refine op_load1 rfl rfl Try.ag3 (b1.cell (i := 3) rfl) ?_; refine hK _ _ ?_; clear hK K)); go_at_call 33)); refine (c2.out _).mono ?_; rintro _ w2 ⟨rfl, x2⟩)
        have b2 := b1.ext x2
        ((first | go_at_call 40 | (go_wp2_with (first | ((with_reducible change wpList _ _ _ (Oper.mk _ (Op.load _ _) _ _ _ _ :: _) _ _); refine BigFrame.wpList_want rfl (fun K hK => ?_); refine op_loadN (p := ⟨w.heap.size, 1, none⟩) (vs := [.int .i64 l.n, .int .i64 l.unit]) rfl rfl Try.ag23 Try.sz23 (blk_part [.string l.id] [.int .i64 l.n, .int .i64 l.unit] [.int .i64 l.fr, v] b2) ?_; refine hK _ _ ?_; clear hK K)); go_at_call 40)); refine (c3.out _).mono ?_; rintro _ w3 ⟨rfl, x3⟩)
        go_wp2_with fail
        go_ret
        exact ⟨rfl, (((Ext.alloc w _).then_ext x1).then_ext x2).then_ext x3⟩
      | true =>
        rw [h3] at c3
        replace c3 := Lib.hid c3
        clear h3
        by_cases h4 : l.stops.length ≤ 60
        · rw [decide_eq_true h4]
          have h4' : (l.stops.length : Int) ≤ 60 := by omega
          generalize (l.stops.any fun s => !stopB s) = q at c4
          go_enter Try.func28, Try.ntmps28
          ((first | go_at_call 50 | (go_wp2_with fail; go_at_call 50)); refine (c1.out _).mono ?_; rintro _ w1 ⟨rfl, x1⟩)
          have b1 := Blk.ext (obj_new w _) x1
          ((first | go_at_call 33 | (go_wp2_with (first | ((with_reducible change wpList _ _ _ (Oper.mk _ (Op.load _ _) _ _ _ _ :: _) _ _); refine BigFrame.wpList_want rfl (fun K hK => ?_); refine op_load1 rfl rfl Try.ag3 (b1.cell (i := 3) rfl) ?_; refine hK _ _ ?_; clear hK K)); go_at_call 33)); refine (c2.out _).mono ?_; rintro _ w2 ⟨rfl, x2⟩)
          have b2 := b1.ext x2
          ((first | go_at_call 40 | (go_wp2_with (first | ((with_reducible change wpList _ _ _ (Oper.mk _ (Op.load _ _) _ _ _ _ :: _) _ _); refine BigFrame.wpList_want rfl (fun K hK => ?_); refine op_loadN (p := ⟨w.heap.size, 1, none⟩) (vs := [.int .i64 l.n, .int .i64 l.unit]) rfl rfl Try.ag23 Try.sz23 (blk_part [.string l.id] [.int .i64 l.n, .int .i64 l.unit] [.int .i64 l.fr, v] b2) ?_; refine hK _ _ ?_; clear hK K)); go_at_call 40)); refine (c3.out _).mono ?_; rintro _ w3 ⟨rfl, x3⟩)
          have b3 := b2.ext x3
          have hE3 := (((Ext.alloc w _).then_ext x1).then_ext x2).then_ext x3
          have hst3 := hst.ext hE3
          ((first | go_at_call 51 | (go_wp2_with (first | ((with_reducible change wpList _ _ _ (Oper.mk _ (Op.load _ _) _ _ _ _ :: _) _ _); refine BigFrame.wpList_want rfl (fun K hK => ?_); refine op_load1 rfl rfl Try.ag24 (b3.cell (i := 4) rfl) ?_; refine hK _ _ ?_; clear hK K) | ((with_reducible change wpList _ _ _ (Oper.mk _ (Op.call (Call.mk (Callee.builtin Builtin.len) _ _)) _ _ _ _ :: _) _ _); refine BigFrame.wpList_want rfl (fun K hK => ?_); refine op_len_rl rfl rfl Try.underlying24 hst3 ?_; refine hK _ _ ?_; clear hK K)); go_at_call 51)); refine (c4 hE3).mono ?_; rintro _ w4 ⟨rfl, x4⟩)
          go_wp2_with fail
          go_ret
          exact ⟨by cases q <;> rfl, hE3.then_ext x4⟩
        · rw [decide_eq_false h4]
          have h4' : ¬ (l.stops.length : Int) ≤ 60 := by omega
          clear c4
          go_enter Try.func28, Try.ntmps28
          ((first | go_at_call 50 | (go_wp2_with fail; go_at_call 50)); refine (c1.out _).mono ?_; rintro _ w1 ⟨rfl, x1⟩)
          have b1 := Blk.ext (obj_new w _) x1
          ((first | go_at_call 33 | (go_wp2_with (first | ((with_reducible change wpList _ _ _ (Oper.mk _ (Op.load _ _) _ _ _ _ :: _) _ _); refine BigFrame.wpList_want rfl (fun K hK => ?_); refine op_load1 rfl rfl Try.ag3 (b1.cell (i := 3) rfl) ?_; refine hK _ _ ?_; clear hK K)); go_at_call 33)); refine (c2.out _).mono ?_; rintro _ w2 ⟨rfl, x2⟩)
          have b2 := b1.ext x2
          ((first | go_at_call 40 | (go_wp2_with (first | ((with_reducible change wpList _ _ _ (Oper.mk _ (Op.load _ _) _ _ _ _ :: _) _ _); refine BigFrame.wpList_want rfl (fun K hK => ?_); refine op_loadN (p := ⟨w.heap.size, 1, none⟩) (vs := [.int .i64 l.n, .int .i64 l.unit]) rfl rfl Try.ag23 Try.sz23 (blk_part [.string l.id] [.int .i64 l.n, .int .i64 l.unit] [.int .i64 l.fr, v] b2) ?_; refine hK _ _ ?_; clear hK K)); go_at_call 40)); refine (c3.out _).mono ?_; rintro _ w3 ⟨rfl, x3⟩)
          have b3 := b2.ext x3
          have hE3 := (((Ext.alloc w _).then_ext x1).then_ext x2).then_ext x3
          have hst3 := hst.ext hE3
          go_wp2_with (first | ((with_reducible change wpList _ _ _ (Oper.mk _ (Op.load _ _) _ _ _ _ :: _) _ _); refine BigFrame.wpList_want rfl (fun K hK => ?_); refine op_load1 rfl rfl Try.ag24 (b3.cell (i := 4) rfl) ?_; refine hK _ _ ?_; clear hK K) | ((with_reducible change wpList _ _ _ (Oper.mk _ (Op.call (Call.mk (Callee.builtin Builtin.len) _ _)) _ _ _ _ :: _) _ _); refine BigFrame.wpList_want rfl (fun K hK => ?_); refine op_len_rl rfl rfl Try.underlying24 hst3 ?_; refine hK _ _ ?_; clear hK K))
          go_ret
          exact ⟨rfl, hE3⟩
end Go.Proofs.Ytioofhmkeajkpaa

/-
  Contracts of package limit: the clock's after and paused; open.
-/
namespace Go.Proofs.Ytioofhmkeajkpaa
open Go Go.RowKit PLimitMatchesReference Go.Proofs.YtioofhmkeajkpaaW.PrintWords

attribute [local irreducible] World.cell? World.frozen? isAggB _root_.Go.Program.underlying

/-- A clock in memory. -/
structure ClockAt (w : World) (g : Nat) (fr : Int) (cs : Stops) : Prop where
  at_ : ∃ v, Blk w g 57 #[.int .i64 fr, v] ∧ RStops w v cs
  few : cs.length ≤ 1000
  ok : ∀ s ∈ cs, 0 ≤ s.f0 ∧ s.f0 ≤ s.f1 ∧ s.f1 ≤ 1000000
theorem ClockAt.ext {w w' : World} {g : Nat} {fr : Int} {cs : Stops} (h : ClockAt w g fr cs) (hE : Ext w w') : ClockAt w' g fr cs := by
  obtain ⟨⟨v, h1, h2⟩, h3, h4⟩ := h
  exact ⟨⟨v, h1.ext hE, h2.ext hE⟩, h3, h4⟩

def afterS (n : Int) (d : Int) (s : S31) : Int := if s.f0 ≤ d ∧ 0 < n then d + (s.f1 - s.f0) else d
def afterL (n : Int) (d : Int) (cs : Stops) : Int := cs.foldl (afterS n) d
theorem afterL_le (n : Int) : ∀ (cs : Stops) (d : Int), (∀ s ∈ cs, 0 ≤ s.f0 ∧ s.f0 ≤ s.f1 ∧ s.f1 ≤ 1000000) → d ≤ afterL n d cs ∧ afterL n d cs ≤ d + 1000000 * cs.length
  | [], d, _ => by simp [afterL]
  | s :: cs, d, h => by
    have h1 := h s (by simp)
    have h2 := afterL_le n cs (afterS n d s) (fun s hs => h s (by simp [hs]))
    have h3 : d ≤ afterS n d s ∧ afterS n d s ≤ d + 1000000 := by unfold afterS; split <;> omega
    have e : afterL n d (s :: cs) = afterL n (afterS n d s) cs := rfl
    rw [e, List.length_cons]
    push_cast
    omega

set_option maxRecDepth 100000 in
set_option maxHeartbeats 4000000 in
theorem after_contract {w : World} {g : Nat} {fr : Int} {cs : Stops} (h : ClockAt w g fr cs) (n : Int) (h0 : 0 ≤ fr) (h1 : fr ≤ 1000000) (n0 : 0 ≤ n) (n1 : n ≤ 4000000) :
    Calls Try.prog 31 #[.pointer (some ⟨g, 0, none⟩), .int .i64 n] w fun e w' => e = .returned (.int .i64 (afterL n (fr + n) cs)) ∧ Ext w w' := by
  obtain ⟨⟨v, hb, hv⟩, hfew, hok⟩ := h
  have hok' := Lib.hid hok
  clear hok
  go_enter Try.func31, Try.ntmps31
  go_wp2_with (first
    | ((with_reducible change wpList _ _ _ (Oper.mk _ (Op.load _ _) _ _ _ _ :: _) _ _); refine BigFrame.wpList_want rfl (fun K hK => ?_); refine op_load1 rfl rfl Try.ag3 (hb.cell (i := 0) rfl) ?_; refine hK _ _ ?_; clear hK K)
    | ((with_reducible change wpList _ _ _ (Oper.mk _ (Op.load _ _) _ _ _ _ :: _) _ _); refine BigFrame.wpList_want rfl (fun K hK => ?_); refine op_load1 rfl rfl Try.ag24 (hb.cell (i := 1) rfl) ?_; refine hK _ _ ?_; clear hK K)
    | ((with_reducible change wpList _ _ _ (Oper.mk _ (Op.call (Call.mk (Callee.builtin Builtin.len) _ _)) _ _ _ _ :: _) _ _); refine BigFrame.wpList_want rfl (fun K hK => ?_); refine op_len_rl rfl rfl Try.underlying24 hv ?_; refine hK _ _ ?_; clear hK K))
  go_loopw [5, 7, 19] (fun d _ u W => ∃ k : Nat, u = .int .i64 k ∧ k ≤ cs.length ∧ d = .int .i64 (afterL n (fr + n) (cs.take k)) ∧ Ext w W) (fun _ _ u _ => cs.length - (intOf u).toNat)
  case atStart => exact ⟨0, rfl, Nat.zero_le _, rfl, Touch.refl _ w⟩
  case round =>
    obtain ⟨k, rfl, hk, rfl, hE⟩ := hrel
    have hvW := hv.ext hE
    have hbd := afterL_le n (cs.take k) (fr + n) (fun s hs => hok'.out s (List.mem_of_mem_take hs))
    have hl : (cs.take k).length ≤ 1000 := by rw [List.length_take]; omega
    by_cases hlt : k < cs.length
    · obtain ⟨s, hs⟩ : ∃ s, cs[k] = s := ⟨_, rfl⟩
      have hsok := hok'.out s (by rw [← hs]; exact List.getElem_mem hlt)
      obtain ⟨hs0, hs1, hs2⟩ := hsok
      have hnx := Lib.hid (show afterL n (fr + n) (cs.take (k + 1)) = afterS n (afterL n (fr + n) (cs.take k)) s from by
        rw [List.take_succ_eq_append_getElem hlt, hs]; unfold afterL; rw [List.foldl_append]; rfl)
      generalize afterL n (fr + n) (cs.take k) = d at hbd hnx
      have hd9 : d ≤ 1006000000 := by omega
      have hd0 : 0 ≤ d := by omega
      clear hbd
      have hone := Lib.hid (show ∀ u ∈ [Value.int .i64 s.f0, .int .i64 s.f1], u.oneCell' = true from by simp [Value.oneCell'])
      by_cases hc : s.f0 ≤ d ∧ 0 < n
      · have hc' := Lib.hid hc
        obtain ⟨hc1, hc2⟩ := hc
        go_wp2_with (first
          | ((with_reducible change wpList _ _ _ (Oper.mk _ (Op.indexAddr _ _ _) _ _ _ _ :: _) _ _); refine BigFrame.wpList_want rfl (fun K hK => ?_); refine op_index_rl (i := k) rfl rfl rfl Try.underlying24 Try.sz31 hvW hlt ?_; intro pp hpp hbb; refine hK _ _ ?_; clear hK K; rw [hs] at hpp; replace hpp := Lib.hid hpp)
          | ((with_reducible change wpList _ _ _ (Oper.mk _ (Op.load _ _) _ _ _ _ :: _) _ _); refine BigFrame.wpList_want rfl (fun K hK => ?_); refine op_loadN (p := pp) (vs := [.int .i64 s.f0, .int .i64 s.f1]) rfl rfl Try.ag31 Try.sz31 hpp.out ?_; refine hK _ _ ?_; clear hK K)
          | ((with_reducible change wpList _ _ _ (Oper.mk _ (Op.store _ _ _) _ _ _ _ :: _) _ _); refine BigFrame.wpList_want rfl (fun K hK => ?_); refine op_storeN (g := wr.heap.size) (i := 0) (T := 31) (vs := [.int .i64 s.f0, .int .i64 s.f1]) rfl rfl rfl Try.sz31 hone.out (obj_new _ _) (by simp) ?_; intro w4 hb4 ht4 hz4; refine hK _ _ ?_; clear hK K)
          | ((with_reducible change wpList _ _ _ (Oper.mk _ (Op.load _ _) _ _ _ _ :: _) _ _); refine BigFrame.wpList_want rfl (fun K hK => ?_); refine op_load1 rfl rfl Try.ag3 ((hb4.storeAll rfl).cell (i := 0) rfl) ?_; refine hK _ _ ?_; clear hK K)
          | ((with_reducible change wpList _ _ _ (Oper.mk _ (Op.load _ _) _ _ _ _ :: _) _ _); refine BigFrame.wpList_want rfl (fun K hK => ?_); refine op_load1 rfl rfl Try.ag3 ((hb4.storeAll rfl).cell (i := 1) rfl) ?_; refine hK _ _ ?_; clear hK K))
        exact ⟨⟨k + 1, by go_num, hlt, by rw [hnx.out]; unfold afterS; rw [if_pos hc'.out], hE.then_ext (Ext.new ht4)⟩, by simp [intOf]; omega⟩
      · have hc' := Lib.hid hc
        by_cases hc1 : s.f0 ≤ d
        · have hc2 : ¬ 0 < n := fun h => hc ⟨hc1, h⟩
          clear hc
          go_wp2_with (first
            | ((with_reducible change wpList _ _ _ (Oper.mk _ (Op.indexAddr _ _ _) _ _ _ _ :: _) _ _); refine BigFrame.wpList_want rfl (fun K hK => ?_); refine op_index_rl (i := k) rfl rfl rfl Try.underlying24 Try.sz31 hvW hlt ?_; intro pp hpp hbb; refine hK _ _ ?_; clear hK K; rw [hs] at hpp; replace hpp := Lib.hid hpp)
            | ((with_reducible change wpList _ _ _ (Oper.mk _ (Op.load _ _) _ _ _ _ :: _) _ _); refine BigFrame.wpList_want rfl (fun K hK => ?_); refine op_loadN (p := pp) (vs := [.int .i64 s.f0, .int .i64 s.f1]) rfl rfl Try.ag31 Try.sz31 hpp.out ?_; refine hK _ _ ?_; clear hK K)
            | ((with_reducible change wpList _ _ _ (Oper.mk _ (Op.store _ _ _) _ _ _ _ :: _) _ _); refine BigFrame.wpList_want rfl (fun K hK => ?_); refine op_storeN (g := wr.heap.size) (i := 0) (T := 31) (vs := [.int .i64 s.f0, .int .i64 s.f1]) rfl rfl rfl Try.sz31 hone.out (obj_new _ _) (by simp) ?_; intro w4 hb4 ht4 hz4; refine hK _ _ ?_; clear hK K)
            | ((with_reducible change wpList _ _ _ (Oper.mk _ (Op.load _ _) _ _ _ _ :: _) _ _); refine BigFrame.wpList_want rfl (fun K hK => ?_); refine op_load1 rfl rfl Try.ag3 ((hb4.storeAll rfl).cell (i := 0) rfl) ?_; refine hK _ _ ?_; clear hK K))
          exact ⟨⟨k + 1, by go_num, hlt, by rw [hnx.out]; unfold afterS; rw [if_neg hc'.out], hE.then_ext (Ext.new ht4)⟩, by simp [intOf]; omega⟩
        · clear hc
          go_wp2_with (first
            | ((with_reducible change wpList _ _ _ (Oper.mk _ (Op.indexAddr _ _ _) _ _ _ _ :: _) _ _); refine BigFrame.wpList_want rfl (fun K hK => ?_); refine op_index_rl (i := k) rfl rfl rfl Try.underlying24 Try.sz31 hvW hlt ?_; intro pp hpp hbb; refine hK _ _ ?_; clear hK K; rw [hs] at hpp; replace hpp := Lib.hid hpp)
            | ((with_reducible change wpList _ _ _ (Oper.mk _ (Op.load _ _) _ _ _ _ :: _) _ _); refine BigFrame.wpList_want rfl (fun K hK => ?_); refine op_loadN (p := pp) (vs := [.int .i64 s.f0, .int .i64 s.f1]) rfl rfl Try.ag31 Try.sz31 hpp.out ?_; refine hK _ _ ?_; clear hK K)
            | ((with_reducible change wpList _ _ _ (Oper.mk _ (Op.store _ _ _) _ _ _ _ :: _) _ _); refine BigFrame.wpList_want rfl (fun K hK => ?_); refine op_storeN (g := wr.heap.size) (i := 0) (T := 31) (vs := [.int .i64 s.f0, .int .i64 s.f1]) rfl rfl rfl Try.sz31 hone.out (obj_new _ _) (by simp) ?_; intro w4 hb4 ht4 hz4; refine hK _ _ ?_; clear hK K)
            | ((with_reducible change wpList _ _ _ (Oper.mk _ (Op.load _ _) _ _ _ _ :: _) _ _); refine BigFrame.wpList_want rfl (fun K hK => ?_); refine op_load1 rfl rfl Try.ag3 ((hb4.storeAll rfl).cell (i := 0) rfl) ?_; refine hK _ _ ?_; clear hK K))
          exact ⟨⟨k + 1, by go_num, hlt, by rw [hnx.out]; unfold afterS; rw [if_neg hc'.out], hE.then_ext (Ext.new ht4)⟩, by simp [intOf]; omega⟩
    · have e : k = cs.length := by omega
      subst e
      have htk := Lib.hid (List.take_length (l := cs))
      go_wp2_with fail
      go_ret
      exact ⟨by rw [htk.out]; rfl, hE⟩

set_option maxRecDepth 100000 in
theorem in_contract {w : World} {gd : Nat} {d : Int} (hb : Blk w gd 3 #[.int .i64 d]) (s : S31) :
    Calls Try.prog 55 #[stopV s, .pointer (some ⟨gd, 0, none⟩)] w fun e w' => e = .returned (.bool (inB d s)) ∧ Ext w w' := by
  have hc0 := Lib.hid ((hb.alloc (.cells #[.int .i64 s.f0, .int .i64 s.f1] 31)).cell (i := 0) rfl)
  clear hb
  unfold stopV inB
  obtain ⟨a, b⟩ := s
  dsimp only at hc0 ⊢
  by_cases h1 : a ≤ d
  · rw [decide_eq_true h1]
    go_enter Try.func55, Try.ntmps55
    go_wp2_with (first | ((with_reducible change wpList _ _ _ (Oper.mk _ (Op.load _ _) _ _ _ _ :: _) _ _); refine BigFrame.wpList_want rfl (fun K hK => ?_); refine op_load1 rfl rfl Try.ag3 hc0.out ?_; refine hK _ _ ?_; clear hK K))
    go_ret
    exact ⟨rfl, Ext.alloc w _⟩
  · rw [decide_eq_false h1]
    go_enter Try.func55, Try.ntmps55
    go_wp2_with (first | ((with_reducible change wpList _ _ _ (Oper.mk _ (Op.load _ _) _ _ _ _ :: _) _ _); refine BigFrame.wpList_want rfl (fun K hK => ?_); refine op_load1 rfl rfl Try.ag3 hc0.out ?_; refine hK _ _ ?_; clear hK K))
    go_ret
    exact ⟨rfl, Ext.alloc w _⟩
end Go.Proofs.Ytioofhmkeajkpaa

/-
  Contracts of package limit: paused; open.
-/
namespace Go.Proofs.Ytioofhmkeajkpaa
open Go Go.RowKit PLimitMatchesReference Go.Proofs.YtioofhmkeajkpaaW.PrintWords

attribute [local irreducible] World.cell? World.frozen? isAggB _root_.Go.Program.underlying

theorem run32 (args : Array Value) (w : World) : (callFunc 32 args).run Try.prog w = .ok (.enter 32 args) w := by kernel_rfl

set_option maxRecDepth 100000 in
set_option maxHeartbeats 1000000 in
theorem paused_contract {w : World} {g : Nat} {fr : Int} {cs : Stops} (h : ClockAt w g fr cs) (d : Int) :
    Calls Try.prog 32 #[.pointer (some ⟨g, 0, none⟩), .int .i64 d] w fun e w' => e = .returned (.bool (cs.any (inB d))) ∧ Ext w w' := by
  obtain ⟨⟨v, hb, hv⟩, hfew, hok⟩ := h
  clear hok
  have hb1 := hb.alloc (.cells #[.int .i64 d] 3)
  have hc := containsFunc_contract (hv.ext (Ext.alloc w (.cells #[.int .i64 d] 3))) (by omega) (inB d) (fn := 55) (first := #[]) (cap := #[.pointer (some ⟨w.heap.size, 0, none⟩)]) run55 fun W hE s _ => by
    have := in_contract (Blk.ext (obj_new w (.cells #[.int .i64 d] 3)) hE) s
    simpa using this
  generalize cs.any (inB d) = q at hc
  replace hc := Lib.hid hc
  go_enter Try.func32, Try.ntmps32
  ((first | go_at_call 51 | (go_wp2_with (first | ((with_reducible change wpList _ _ _ (Oper.mk _ (Op.load _ _) _ _ _ _ :: _) _ _); refine BigFrame.wpList_want rfl (fun K hK => ?_); refine op_load1 rfl rfl Try.ag24 (hb1.cell (i := 1) rfl) ?_; refine hK _ _ ?_; clear hK K)); go_at_call 51)); refine (hc.out).mono ?_; rintro _ w1 ⟨rfl, x1⟩)
  go_wp2_with fail
  go_ret
  exact ⟨rfl, (Ext.alloc w _).then_ext x1⟩

/-- The first day from d on that is not paused, and on which offices are open. -/
def openC (cs : Stops) (cl : List Int) (d : Int) : Int := firstF (fun x => !(cs.any (inB x)) && workB cl x) (1000001 - d).toNat d
theorem openC_out {cs : Stops} {cl : List Int} {d : Int} (h : 1000000 < d) : openC cs cl d = d := by
  unfold openC
  rw [show (1000001 - d).toNat = 0 by omega]
  rfl
theorem openC_step {cs : Stops} {cl : List Int} {d : Int} (h : d ≤ 1000000) : openC cs cl d = if (!(cs.any (inB d)) && workB cl d) then d else openC cs cl (d + 1) := by
  unfold openC
  rw [show (1000001 - d).toNat = (1000001 - (d + 1)).toNat + 1 by omega, firstF]
def openR (x : Int) : Int × Int := if x ≤ 1000000 then (x, 0) else (0, 10)

set_option maxRecDepth 100000 in
set_option maxHeartbeats 4000000 in
theorem open_contract {w : World} {g : Nat} {fr : Int} {cs : Stops} (h : ClockAt w g fr cs) {v : Value} {cl : List Int} (hv : RInts w v cl) (hok : ∀ x ∈ cl, (Lit.int .i64 x).wf = true) (hn : cl.length ≤ 1000000) (d : Int) (h0 : 0 ≤ d) (h1 : d ≤ 9000000000) :
    Calls Try.prog 30 #[.int .i64 d, .func (.func 32) #[.pointer (some ⟨g, 0, none⟩)] #[], v] w fun e w' => e = .returned (.tuple #[.int .i64 (openR (openC cs cl d)).1, .int .i64 (openR (openC cs cl d)).2]) ∧ Ext w w' := by
  have h' := Lib.hid h
  have hok' := Lib.hid hok
  have hv' := Lib.hid hv
  clear h hok hv
  go_enter Try.func30, Try.ntmps30
  go_wp2_with fail
  go_loopw [0] (fun u W => ∃ x : Int, u = .int .i64 x ∧ 0 ≤ x ∧ x ≤ 9000000000 ∧ openC cs cl x = openC cs cl d ∧ Ext w W) (fun u _ => (1000001 - intOf u).toNat)
  case atStart => exact ⟨d, rfl, h0, h1, rfl, Touch.refl _ w⟩
  case round =>
    obtain ⟨x, rfl, hx0, hx1, hfx, hE⟩ := hrel
    have hfx' := Lib.hid hfx
    clear hfx
    by_cases hlt : x ≤ 1000000
    · have hpa := paused_contract (h'.out.ext hE) x
      cases hp : cs.any (inB x) with
      | true =>
        rw [hp] at hpa
        replace hpa := Lib.hid hpa
        have hst := Lib.hid (show openC cs cl x = openC cs cl (x + 1) from by rw [openC_step hlt, hp]; rfl)
        clear hp
        ((first | go_at_call 32 | (go_wp2_with fail; go_at_call 32)); refine (hpa.out).mono ?_; rintro _ w1 ⟨rfl, x1⟩)
        go_wp2_with fail
        exact ⟨⟨x + 1, by go_num, by omega, by omega, by rw [← hst.out, hfx'.out], hE.then_ext x1⟩, by simp [intOf]; omega⟩
      | false =>
        rw [hp] at hpa
        replace hpa := Lib.hid hpa
        have hwo := fun w1 (x1 : Ext wr w1) => work_contract ((hv'.out.ext hE).ext x1) hok'.out hn x (by omega) (by omega)
        cases hw : workB cl x with
        | true =>
          rw [hw] at hwo
          replace hwo := Lib.hid hwo
          have hst := Lib.hid (show openC cs cl x = x from by rw [openC_step hlt, hp, hw]; rfl)
          clear hp hw
          ((first | go_at_call 32 | (go_wp2_with fail; go_at_call 32)); refine (hpa.out).mono ?_; rintro _ w1 ⟨rfl, x1⟩)
          ((first | go_at_call 25 | (go_wp2_with fail; go_at_call 25)); refine (hwo.out w1 x1).mono ?_; rintro _ w2 ⟨rfl, x2⟩)
          go_wp2_with fail
          go_ret2
          refine ⟨?_, (hE.then_ext x1).then_ext x2⟩
          rw [← hfx'.out, hst.out]
          unfold openR
          rw [if_pos hlt]
          rfl
        | false =>
          rw [hw] at hwo
          replace hwo := Lib.hid hwo
          have hst := Lib.hid (show openC cs cl x = openC cs cl (x + 1) from by rw [openC_step hlt, hp, hw]; rfl)
          clear hp hw
          ((first | go_at_call 32 | (go_wp2_with fail; go_at_call 32)); refine (hpa.out).mono ?_; rintro _ w1 ⟨rfl, x1⟩)
          ((first | go_at_call 25 | (go_wp2_with fail; go_at_call 25)); refine (hwo.out w1 x1).mono ?_; rintro _ w2 ⟨rfl, x2⟩)
          go_wp2_with fail
          exact ⟨⟨x + 1, by go_num, by omega, by omega, by rw [← hst.out, hfx'.out], (hE.then_ext x1).then_ext x2⟩, by simp [intOf]; omega⟩
    · have hst := Lib.hid (show openC cs cl x = x from openC_out (by omega))
      go_wp2_with fail
      go_ret2
      refine ⟨?_, hE⟩
      rw [← hfx'.out, hst.out]
      unfold openR
      rw [if_neg (by omega)]
      rfl
end Go.Proofs.Ytioofhmkeajkpaa
