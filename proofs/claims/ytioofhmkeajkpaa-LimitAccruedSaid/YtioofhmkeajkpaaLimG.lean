/-
  Contract of package calendar: Add.
-/
import Derived.Test.YtioofhmkeajkpaaLimF
import Derived.Deep.CutBlock
namespace Go.Proofs.Ytioofhmkeajkpaa
open Go Go.RowKit PLimitMatchesReference Go.Proofs.YtioofhmkeajkpaaW.PrintWords

attribute [local irreducible] World.cell? World.frozen? isAggB _root_.Go.Program.underlying

theorem Try.ag32 : isAggB Try.prog 32 = some false := by kernel_rfl
theorem Try.sz32 : (Try.prog.info? 32).map (·.size) = some 1 := by kernel_rfl
theorem Try.ag23 : isAggB Try.prog 23 = some true := by kernel_rfl
theorem Try.sz23 : (Try.prog.info? 23).map (·.size) = some 2 := by kernel_rfl
theorem run45 (args : Array Value) (w : World) : (callFunc 45 args).run Try.prog w = .ok (.enter 45 args) w := by kernel_rfl

theorem Blk.ext {w w' : World} {g : Nat} {t : TypeId} {cs : Array Value} (h : Blk w g t cs) (hE : Ext w w') : Blk w' g t cs := hE.obj h (fun h => h)
theorem Blk.alloc {w : World} {g : Nat} {t : TypeId} {cs : Array Value} (h : Blk w g t cs) (o : Obj) : Blk (w.alloc o) g t cs := h.ext (Ext.alloc w o)
def AddPost (day n unit : Int) (cl : List Int) (w : World) (e : Ending) (w' : World) : Prop :=
  ∃ r f, e = .returned (.tuple #[.int .i64 r, .int .i64 f]) ∧ AddIs day n unit cl r f ∧ Ext w w'

def LaterPost (day n : Int) (g1 g2 : Nat) (w : World) (e : Ending) (w' : World) : Prop :=
  ∃ r q, e = .returned (.tuple #[]) ∧ MonthsIs day n r q ∧ Blk w' g1 3 #[.int .i64 r] ∧ Blk w' g2 32 #[.int .i64 q] ∧ Touch (fun b => b = g1 ∨ b = g2) w w'
set_option maxRecDepth 100000 in
set_option maxHeartbeats 4000000 in
theorem later_contract {w : World} {g0 g1 g2 : Nat} {day n x f : Int} (hb0 : Blk w g0 3 #[.int .i64 day]) (hb1 : Blk w g1 3 #[.int .i64 x]) (hb2 : Blk w g2 32 #[.int .i64 f]) (hne : g1 ≠ g2) (h0 : 0 ≤ day) (h1 : day ≤ 1000000) (n0 : 0 ≤ n) (n1 : n ≤ 20000000) :
    Calls Try.prog 45 #[.int .i64 n, .pointer (some ⟨g0, 0, none⟩), .pointer (some ⟨g1, 0, none⟩), .pointer (some ⟨g2, 0, none⟩)] w fun e w' => LaterPost day n g1 g2 w e w' := by
  have hmo := Lib.hid (months_contract w day n h0 h1 n0 n1)
  have hc0 := Lib.hid (hb0.cell (i := 0) rfl)
  go_enter Try.func45, Try.ntmps45
  ((first | go_at_call 46 | (go_wp2_with (first | ((with_reducible change wpList _ _ _ (Oper.mk _ (Op.load _ _) _ _ _ _ :: _) _ _); refine BigFrame.wpList_want rfl (fun K hK => ?_); refine op_load1 rfl rfl Try.ag3 hc0.out ?_; refine hK _ _ ?_; clear hK K)); go_at_call 46)); refine (hmo.out).mono ?_; rintro _ w1 ⟨r, q, rfl, hmi, x1⟩)
  have hb1' := x1.obj hb1 (fun h => h)
  have hb2' := x1.obj hb2 (fun h => h)
  have hmi' := Lib.hid hmi
  clear hmi
  go_wp2_with (first
    | ((with_reducible change wpList _ _ _ (Oper.mk _ (Op.store _ _ _) _ _ _ _ :: _) _ _); refine BigFrame.wpList_want rfl (fun K hK => ?_); refine op_store1 (g := g1) (i := 0) (T := 3) (cs := #[.int .i64 x]) (v := .int .i64 r) rfl rfl rfl Try.szE3 rfl hb1' (by simp) ?_; intro w2 k2 t2 z2; refine hK _ _ ?_; clear hK K)
    | ((with_reducible change wpList _ _ _ (Oper.mk _ (Op.store _ _ _) _ _ _ _ :: _) _ _); refine BigFrame.wpList_want rfl (fun K hK => ?_); refine op_store1 (g := g2) (i := 0) (T := 32) (cs := #[.int .i64 f]) (v := .int .i64 q) rfl rfl rfl Try.sz32 rfl (t2.obj hb2' (fun e => hne e.symm)) (by simp) ?_; intro w3 k3 t3 z3; refine hK _ _ ?_; clear hK K))
  go_end0
  refine ⟨r, q, rfl, hmi'.out, t3.obj k2 hne, k3, ?_⟩
  exact (((Touch.of_ext x1).trans (G := fun b => b = g1) t2 (fun _ _ h => .inl h)).trans (G := fun b => b = g2) t3 (fun _ _ h => .inr h))

theorem alloc_size (w : World) (o : Obj) : (w.alloc o).heap.size = w.heap.size + 1 := by simp
/-- Two objects made one behind the other. -/
theorem two_boxes (w : World) (c0 c1 : Array Value) (t0 t1 : TypeId) {W : World} (hE : Ext ((w.alloc (.cells c0 t0)).alloc (.cells c1 t1)) W) : Blk W w.heap.size t0 c0 ∧ Blk W (w.heap.size + 1) t1 c1 ∧ Ext w W := by
  refine ⟨hE.obj (obj_alloc (obj_new w _) _) (fun h => h), ?_, (Touch.alloc (Ext.alloc w _) _).then_ext hE⟩
  have := hE.obj (obj_new (w.alloc (.cells c0 t0)) (.cells c1 t1)) (fun h => h)
  rw [alloc_size] at this
  exact this

theorem AddPost.bad {day n unit : Int} {cl : List Int} {w w' : World} (h : (dayB day && termB n unit) = false) (hE : Ext w w') : AddPost day n unit cl w (.returned (.tuple #[.int .i64 0, .int .i64 1])) w' :=
  ⟨0, 1, rfl, by unfold AddIs; rw [h]; simp, hE⟩

set_option maxRecDepth 100000 in
set_option maxHeartbeats 4000000 in
theorem add_bad {w : World} {v : Value} {cl : List Int} (day n unit : Int) (h : (dayB day && termB n unit) = false) :
    Calls Try.prog 23 #[.int .i64 day, .agg #[.int .i64 n, .int .i64 unit], v] w fun e w' => AddPost day n unit cl w e w' := by
  have h' := Lib.hid h
  have hc := fun w => is_contract w day
  cases hd : dayB day with
  | false =>
    rw [hd] at hc
    replace hc := Lib.hid hc
    clear h hd
    go_enter Try.func23, Try.ntmps23
    ((first | go_at_call 42 | (go_wp2_with fail; go_at_call 42)); refine (hc.out _).mono ?_; rintro _ w1 ⟨rfl, x1⟩)
    go_wp2_with fail
    go_ret2
    exact AddPost.bad h'.out (two_boxes w _ _ _ _ x1).2.2
  | true =>
    rw [hd] at hc
    replace hc := Lib.hid hc
    rw [hd, Bool.true_and] at h
    clear hd
    by_cases h1 : 1 ≤ unit
    · by_cases h2 : unit ≤ 5
      · by_cases h3 : 0 ≤ n
        · have h4 : 1000000 < n := by
            unfold termB at h
            rw [decide_eq_true h1, decide_eq_true h2, decide_eq_true h3] at h
            simp at h
            exact h
          clear h
          have g1 : decide (unit < 1) = false := by simp; omega
          have g2 : decide (5 < unit) = false := by simp; omega
          have g3 : decide (n < 0) = false := by simp; omega
          go_enter Try.func23, Try.ntmps23
          ((first | go_at_call 42 | (go_wp2_with fail; go_at_call 42)); refine (hc.out _).mono ?_; rintro _ w1 ⟨rfl, x1⟩)
          obtain ⟨b0, b1, hE⟩ := two_boxes w _ _ _ _ x1
          go_wp2_with (first | ((with_reducible change wpList _ _ _ (Oper.mk _ (Op.load _ _) _ _ _ _ :: _) _ _); refine BigFrame.wpList_want rfl (fun K hK => ?_); refine op_load1 rfl rfl Try.ag3 (b1.cell (i := 1) rfl) ?_; refine hK _ _ ?_; clear hK K) | ((with_reducible change wpList _ _ _ (Oper.mk _ (Op.load _ _) _ _ _ _ :: _) _ _); refine BigFrame.wpList_want rfl (fun K hK => ?_); refine op_load1 rfl rfl Try.ag3 (b1.cell (i := 0) rfl) ?_; refine hK _ _ ?_; clear hK K))
          go_ret2
          exact AddPost.bad h'.out hE
        · clear h
          have g1 : decide (unit < 1) = false := by simp; omega
          have g2 : decide (5 < unit) = false := by simp; omega
          have g3 : decide (n < 0) = true := by simp; omega
          go_enter Try.func23, Try.ntmps23
          ((first | go_at_call 42 | (go_wp2_with fail; go_at_call 42)); refine (hc.out _).mono ?_; rintro _ w1 ⟨rfl, x1⟩)
          obtain ⟨b0, b1, hE⟩ := two_boxes w _ _ _ _ x1
          go_wp2_with (first | ((with_reducible change wpList _ _ _ (Oper.mk _ (Op.load _ _) _ _ _ _ :: _) _ _); refine BigFrame.wpList_want rfl (fun K hK => ?_); refine op_load1 rfl rfl Try.ag3 (b1.cell (i := 1) rfl) ?_; refine hK _ _ ?_; clear hK K) | ((with_reducible change wpList _ _ _ (Oper.mk _ (Op.load _ _) _ _ _ _ :: _) _ _); refine BigFrame.wpList_want rfl (fun K hK => ?_); refine op_load1 rfl rfl Try.ag3 (b1.cell (i := 0) rfl) ?_; refine hK _ _ ?_; clear hK K))
          go_ret2
          exact AddPost.bad h'.out hE
      · clear h
        have g1 : decide (unit < 1) = false := by simp; omega
        have g2 : decide (5 < unit) = true := by simp; omega
        go_enter Try.func23, Try.ntmps23
        ((first | go_at_call 42 | (go_wp2_with fail; go_at_call 42)); refine (hc.out _).mono ?_; rintro _ w1 ⟨rfl, x1⟩)
        obtain ⟨b0, b1, hE⟩ := two_boxes w _ _ _ _ x1
        go_wp2_with (first | ((with_reducible change wpList _ _ _ (Oper.mk _ (Op.load _ _) _ _ _ _ :: _) _ _); refine BigFrame.wpList_want rfl (fun K hK => ?_); refine op_load1 rfl rfl Try.ag3 (b1.cell (i := 1) rfl) ?_; refine hK _ _ ?_; clear hK K) | ((with_reducible change wpList _ _ _ (Oper.mk _ (Op.load _ _) _ _ _ _ :: _) _ _); refine BigFrame.wpList_want rfl (fun K hK => ?_); refine op_load1 rfl rfl Try.ag3 (b1.cell (i := 0) rfl) ?_; refine hK _ _ ?_; clear hK K))
        go_ret2
        exact AddPost.bad h'.out hE
    · clear h
      have g1 : decide (unit < 1) = true := by simp; omega
      go_enter Try.func23, Try.ntmps23
      ((first | go_at_call 42 | (go_wp2_with fail; go_at_call 42)); refine (hc.out _).mono ?_; rintro _ w1 ⟨rfl, x1⟩)
      obtain ⟨b0, b1, hE⟩ := two_boxes w _ _ _ _ x1
      go_wp2_with (first | ((with_reducible change wpList _ _ _ (Oper.mk _ (Op.load _ _) _ _ _ _ :: _) _ _); refine BigFrame.wpList_want rfl (fun K hK => ?_); refine op_load1 rfl rfl Try.ag3 (b1.cell (i := 1) rfl) ?_; refine hK _ _ ?_; clear hK K))
      go_ret2
      exact AddPost.bad h'.out hE

theorem termB_iff {n u : Int} : termB n u = true ↔ 1 ≤ u ∧ u ≤ 5 ∧ 0 ≤ n ∧ n ≤ 1000000 := by
  simp [termB, and_assoc]

/-- What lies in memory while the term is reckoned: the end, the error. -/
structure TermAt (w W : World) (x f : Int) : Prop where
  ext : Ext w W
  b9 : Blk W w.heap.size 3 #[.int .i64 x]
  b10 : Blk W (w.heap.size + 1) 32 #[.int .i64 f]
theorem TermAt.to {w W W' : World} {x f y : Int} (h : TermAt w W x f) (hb : Blk W' w.heap.size 3 #[.int .i64 y]) (ht : Touch (· = w.heap.size) W W') : TermAt w W' y f :=
  ⟨h.ext.trans ht fun b hb e => by omega, hb, ht.obj h.b10 (by omega)⟩
theorem TermAt.then {w W W' : World} {x f : Int} (h : TermAt w W x f) (hE : Ext W W') : TermAt w W' x f := ⟨h.ext.then_ext hE, h.b9.ext hE, h.b10.ext hE⟩
theorem StepIs.u1 (day n : Int) (cl : List Int) : StepIs day n 1 cl (day + n) 0 := by unfold StepIs; rw [if_pos rfl]; exact ⟨rfl, rfl⟩
theorem StepIs.u2 (day n : Int) (cl : List Int) : StepIs day n 2 cl (day + 7 * n) 0 := by unfold StepIs; rw [if_neg (by omega), if_pos rfl]; exact ⟨rfl, rfl⟩
theorem StepIs.u3 {day n : Int} (cl : List Int) {r e : Int} (h : MonthsIs day n r e) : StepIs day n 3 cl r e := by unfold StepIs; rw [if_neg (by omega), if_neg (by omega), if_pos rfl]; exact h
theorem StepIs.u4 {day n : Int} (cl : List Int) {r e : Int} (h : MonthsIs day (12 * n) r e) : StepIs day n 4 cl r e := by unfold StepIs; rw [if_neg (by omega), if_neg (by omega), if_neg (by omega), if_pos rfl]; exact h
theorem StepIs.u5 (day n : Int) (cl : List Int) : StepIs day n 5 cl (workF cl n.toNat day) 0 := by unfold StepIs; rw [if_neg (by omega), if_neg (by omega), if_neg (by omega), if_neg (by omega)]; exact ⟨rfl, rfl⟩

set_option maxRecDepth 100000 in
set_option maxHeartbeats 4000000 in
theorem add_good {w : World} {v : Value} {cl : List Int} (hv : RInts w v cl) (hok : ∀ x ∈ cl, (Lit.int .i64 x).wf = true) (hn : cl.length ≤ 1000000) (day n unit : Int) (hd0 : 0 ≤ day) (hd1 : day ≤ 1000000) (hu0 : 1 ≤ unit) (hu1 : unit ≤ 5) (hn0 : 0 ≤ n) (hn1 : n ≤ 1000000) :
    Calls Try.prog 23 #[.int .i64 day, .agg #[.int .i64 n, .int .i64 unit], v] w fun e w' => AddPost day n unit cl w e w' := by
  have hA := Lib.hid (show (dayB day && termB n unit) = true from by rw [dayB_iff.2 ⟨hd0, hd1⟩, termB_iff.2 ⟨hu0, hu1, hn0, hn1⟩]; rfl)
  have hc := fun w => is_contract w day
  rw [dayB_iff.2 ⟨hd0, hd1⟩] at hc
  replace hc := Lib.hid hc
  have hok' := Lib.hid hok
  clear hok
  have g1 : decide (unit < 1) = false := by simp; omega
  have g2 : decide (5 < unit) = false := by simp; omega
  have g3 : decide (n < 0) = false := by simp; omega
  have g4 : decide (1000000 < n) = false := by simp; omega
  by_cases hlen : 1000 < cl.length
  · go_enter Try.func23, Try.ntmps23
    ((first | go_at_call 42 | (go_wp2_with fail; go_at_call 42)); refine (hc.out _).mono ?_; rintro _ w1 ⟨rfl, x1⟩)
    obtain ⟨b0, b1, hE⟩ := two_boxes w _ _ _ _ x1
    have hv1 := hv.ext hE
    have hlen' : (1000 : Int) < cl.length := by omega
    go_wp2_with (first | ((with_reducible change wpList _ _ _ (Oper.mk _ (Op.load _ _) _ _ _ _ :: _) _ _); refine BigFrame.wpList_want rfl (fun K hK => ?_); refine op_load1 rfl rfl Try.ag3 (b1.cell (i := 1) rfl) ?_; refine hK _ _ ?_; clear hK K) | ((with_reducible change wpList _ _ _ (Oper.mk _ (Op.load _ _) _ _ _ _ :: _) _ _); refine BigFrame.wpList_want rfl (fun K hK => ?_); refine op_load1 rfl rfl Try.ag3 (b1.cell (i := 0) rfl) ?_; refine hK _ _ ?_; clear hK K) | ((with_reducible change wpList _ _ _ (Oper.mk _ (Op.call (Call.mk (Callee.builtin Builtin.len) _ _)) _ _ _ _ :: _) _ _); refine BigFrame.wpList_want rfl (fun K hK => ?_); refine op_len_rl rfl rfl Try.underlying27 hv1 ?_; refine hK _ _ ?_; clear hK K))
    go_ret2
    exact ⟨0, 2, rfl, by unfold AddIs; rw [hA.out, if_pos rfl, if_pos hlen]; exact ⟨rfl, rfl⟩, hE⟩
  · go_enter Try.func23, Try.ntmps23
    ((first | go_at_call 42 | (go_wp2_with fail; go_at_call 42)); refine (hc.out _).mono ?_; rintro _ w1 ⟨rfl, x1⟩)
    obtain ⟨b0, b1, hE⟩ := two_boxes w _ _ _ _ x1
    have hv1 := hv.ext hE
    have hlen' : ¬ (1000 : Int) < cl.length := by omega
    ((first | go_at_call 43 | (go_wp2_with (first | ((with_reducible change wpList _ _ _ (Oper.mk _ (Op.load _ _) _ _ _ _ :: _) _ _); refine BigFrame.wpList_want rfl (fun K hK => ?_); refine op_load1 rfl rfl Try.ag3 (b1.cell (i := 1) rfl) ?_; refine hK _ _ ?_; clear hK K) | ((with_reducible change wpList _ _ _ (Oper.mk _ (Op.load _ _) _ _ _ _ :: _) _ _); refine BigFrame.wpList_want rfl (fun K hK => ?_); refine op_load1 rfl rfl Try.ag3 (b1.cell (i := 0) rfl) ?_; refine hK _ _ ?_; clear hK K) | ((with_reducible change wpList _ _ _ (Oper.mk _ (Op.call (Call.mk (Callee.builtin Builtin.len) _ _)) _ _ _ _ :: _) _ _); refine BigFrame.wpList_want rfl (fun K hK => ?_); refine op_len_rl rfl rfl Try.underlying27 hv1 ?_; refine hK _ _ ?_; clear hK K)); go_at_call 43)); refine (closedOn_contract hv1 hok'.out hn).mono ?_; rintro _ w2 ⟨b, rfl, hb0, x2, hcl⟩)
    have b0' := b0.ext x2
    have b1' := b1.ext x2
    have hE2 := hE.then_ext x2
    have hv2 := hv1.ext x2
    clear b0 b1 hE x1 x2 hv1
    go_upto_block 1 with (first | ((with_reducible change wpList _ _ _ (Oper.mk _ (Op.load _ _) _ _ _ _ :: _) _ _); refine BigFrame.wpList_want rfl (fun K hK => ?_); refine op_load1 rfl rfl Try.ag3 (b0'.cell (i := 0) rfl) ?_; refine hK _ _ ?_; clear hK K) | ((with_reducible change wpList _ _ _ (Oper.mk _ (Op.load _ _) _ _ _ _ :: _) _ _); refine BigFrame.wpList_want rfl (fun K hK => ?_); refine op_load1 rfl rfl Try.ag3 (((b1'.alloc _).alloc _).cell (i := 1) rfl) ?_; refine hK _ _ ?_; clear hK K))
    go_simp
    obtain ⟨b9, b10, hEa⟩ := two_boxes w2 #[.int .i64 day] #[.int .i64 0] 3 32 (Touch.refl _ _)
    have T0 : TermAt w2 _ day 0 := ⟨hEa, b9, b10⟩
    clear b9 b10 hEa
    generalize (w2.alloc (.cells #[.int .i64 day] 3)).alloc (.cells #[.int .i64 0] 32) = W0 at T0 ⊢
    have bt := fun W (h : Ext w2 W) => b1'.ext h
    have bt := Lib.hid bt
    go_cut [] from 48 to 89 (fun W => ∃ x f, StepIs day n unit cl x f ∧ TermAt w2 W x f)
    case first =>
      have hU : unit = 1 ∨ unit = 2 ∨ unit = 3 ∨ unit = 4 ∨ unit = 5 := by omega
      have t9 := T0.b9
      have tt := bt.out _ T0.ext
      rcases hU with rfl | rfl | rfl | rfl | rfl
      · go_wp2_with (first
          | ((with_reducible change wpList _ _ _ (Oper.mk _ (Op.load _ _) _ _ _ _ :: _) _ _); refine BigFrame.wpList_want rfl (fun K hK => ?_); refine op_load1 rfl rfl Try.ag3 (t9.cell (i := 0) rfl) ?_; refine hK _ _ ?_; clear hK K)
          | ((with_reducible change wpList _ _ _ (Oper.mk _ (Op.load _ _) _ _ _ _ :: _) _ _); refine BigFrame.wpList_want rfl (fun K hK => ?_); refine op_load1 rfl rfl Try.ag3 (tt.cell (i := 0) rfl) ?_; refine hK _ _ ?_; clear hK K)
          | ((with_reducible change wpList _ _ _ (Oper.mk _ (Op.store _ _ _) _ _ _ _ :: _) _ _); refine BigFrame.wpList_want rfl (fun K hK => ?_); refine op_store1 (g := w2.heap.size) (i := 0) (T := 3) (cs := #[.int .i64 day]) (v := .int .i64 (day + n)) rfl rfl rfl Try.szE3 rfl t9 (by simp) ?_; intro w5 k5 t5 z5; refine hK _ _ ?_; clear hK K))
        go_meet
        case rel => exact ⟨_, _, StepIs.u1 day n cl, T0.to k5 t5⟩
      · go_wp2_with (first
          | ((with_reducible change wpList _ _ _ (Oper.mk _ (Op.load _ _) _ _ _ _ :: _) _ _); refine BigFrame.wpList_want rfl (fun K hK => ?_); refine op_load1 rfl rfl Try.ag3 (t9.cell (i := 0) rfl) ?_; refine hK _ _ ?_; clear hK K)
          | ((with_reducible change wpList _ _ _ (Oper.mk _ (Op.load _ _) _ _ _ _ :: _) _ _); refine BigFrame.wpList_want rfl (fun K hK => ?_); refine op_load1 rfl rfl Try.ag3 (tt.cell (i := 0) rfl) ?_; refine hK _ _ ?_; clear hK K)
          | ((with_reducible change wpList _ _ _ (Oper.mk _ (Op.store _ _ _) _ _ _ _ :: _) _ _); refine BigFrame.wpList_want rfl (fun K hK => ?_); refine op_store1 (g := w2.heap.size) (i := 0) (T := 3) (cs := #[.int .i64 day]) (v := .int .i64 (day + 7 * n)) rfl rfl rfl Try.szE3 rfl t9 (by simp) ?_; intro w5 k5 t5 z5; refine hK _ _ ?_; clear hK K))
        go_meet
        case rel => exact ⟨_, _, StepIs.u2 day n cl, T0.to k5 t5⟩
      · ((first | go_at_call 45 | (go_wp2_with (first | ((with_reducible change wpList _ _ _ (Oper.mk _ (Op.load _ _) _ _ _ _ :: _) _ _); refine BigFrame.wpList_want rfl (fun K hK => ?_); refine op_load1 rfl rfl Try.ag3 (tt.cell (i := 0) rfl) ?_; refine hK _ _ ?_; clear hK K)); go_at_call 45)); refine (later_contract (b0'.ext T0.ext) t9 T0.b10 (by omega) hd0 hd1 hn0 (by omega)).mono ?_; rintro _ w5 ⟨r, q, rfl, hm, k5, k6, t5⟩)
        go_wp2_with fail
        go_meet
        case rel => exact ⟨r, q, StepIs.u3 cl hm, T0.ext.trans t5 (fun b hb e => by omega), k5, k6⟩
      · ((first | go_at_call 45 | (go_wp2_with (first | ((with_reducible change wpList _ _ _ (Oper.mk _ (Op.load _ _) _ _ _ _ :: _) _ _); refine BigFrame.wpList_want rfl (fun K hK => ?_); refine op_load1 rfl rfl Try.ag3 (tt.cell (i := 0) rfl) ?_; refine hK _ _ ?_; clear hK K)); go_at_call 45)); refine (later_contract (b0'.ext T0.ext) t9 T0.b10 (by omega) hd0 hd1 (by omega) (by omega)).mono ?_; rintro _ w5 ⟨r, q, rfl, hm, k5, k6, t5⟩)
        go_wp2_with fail
        go_meet
        case rel => exact ⟨r, q, StepIs.u4 cl hm, T0.ext.trans t5 (fun b hb e => by omega), k5, k6⟩
      · go_wp2_with (first
          | ((with_reducible change wpList _ _ _ (Oper.mk _ (Op.load _ _) _ _ _ _ :: _) _ _); refine BigFrame.wpList_want rfl (fun K hK => ?_); refine op_load1 rfl rfl Try.ag3 (t9.cell (i := 0) rfl) ?_; refine hK _ _ ?_; clear hK K)
          | ((with_reducible change wpList _ _ _ (Oper.mk _ (Op.load _ _) _ _ _ _ :: _) _ _); refine BigFrame.wpList_want rfl (fun K hK => ?_); refine op_load1 rfl rfl Try.ag3 (tt.cell (i := 0) rfl) ?_; refine hK _ _ ?_; clear hK K))
        go_loopw [12] (fun u W => ∃ (k : Nat) (x : Int), u = .int .i64 k ∧ (k : Int) ≤ n ∧ TermAt w2 W x 0 ∧ 0 ≤ x ∧ x ≤ 1000001 ∧ workF cl (n.toNat - k) x = workF cl n.toNat day) (fun u _ => (n - intOf u).toNat)
        case atStart => exact ⟨0, day, rfl, by omega, T0, hd0, by omega, by rw [Nat.sub_zero]⟩
        case round =>
          obtain ⟨k, x, rfl, hk, hT, hx0, hx1, hwk⟩ := hrel
          have hwk' := Lib.hid hwk
          clear hwk
          have t9 := hT.b9
          have tt := bt.out _ hT.ext
          by_cases hlt : (k : Int) < n
          · have his := is_contract wr x
            cases hdx : dayB x with
            | true =>
              rw [hdx] at his
              replace his := Lib.hid his
              have hst := Lib.hid (show workF cl (n.toNat - k) x = workF cl (n.toNat - (k + 1)) (fromD cl (x + 1)) from by
                rw [show n.toNat - k = (n.toNat - (k + 1)) + 1 by omega, workF, if_pos hdx])
              have hx2 := (dayB_iff.1 hdx).2
              have hfl := fromD_le (cl := cl) (d := x + 1) (by omega)
              have hfg := fromD_ge cl (x + 1)
              clear hdx
              ((first | go_at_call 42 | (go_wp2_with (first | ((with_reducible change wpList _ _ _ (Oper.mk _ (Op.load _ _) _ _ _ _ :: _) _ _); refine BigFrame.wpList_want rfl (fun K hK => ?_); refine op_load1 rfl rfl Try.ag3 (t9.cell (i := 0) rfl) ?_; refine hK _ _ ?_; clear hK K) | ((with_reducible change wpList _ _ _ (Oper.mk _ (Op.load _ _) _ _ _ _ :: _) _ _); refine BigFrame.wpList_want rfl (fun K hK => ?_); refine op_load1 rfl rfl Try.ag3 (tt.cell (i := 0) rfl) ?_; refine hK _ _ ?_; clear hK K)); go_at_call 42)); refine (his.out).mono ?_; rintro _ w5 ⟨rfl, x5⟩)
              have t95 := t9.ext x5
              ((first | go_at_call 47 | (go_wp2_with (first | ((with_reducible change wpList _ _ _ (Oper.mk _ (Op.load _ _) _ _ _ _ :: _) _ _); refine BigFrame.wpList_want rfl (fun K hK => ?_); refine op_load1 rfl rfl Try.ag3 (t95.cell (i := 0) rfl) ?_; refine hK _ _ ?_; clear hK K)); go_at_call 47)); refine (from_contract (hcl.ext (hT.ext.then_ext x5)) (x + 1) (by omega) (by omega)).mono ?_; rintro _ w6 ⟨rfl, x6⟩)
              have hT6 := (hT.then x5).then x6
              have t96 := hT6.b9
              go_wp2_with (first
                | ((with_reducible change wpList _ _ _ (Oper.mk _ (Op.store _ _ _) _ _ _ _ :: _) _ _); refine BigFrame.wpList_want rfl (fun K hK => ?_); refine op_store1 (g := w2.heap.size) (i := 0) (T := 3) (cs := #[.int .i64 x]) (v := .int .i64 (fromD cl (x + 1))) rfl rfl rfl Try.szE3 rfl t96 (by simp) ?_; intro w7 k7 t7 z7; refine hK _ _ ?_; clear hK K))
              exact ⟨⟨k + 1, fromD cl (x + 1), by go_num, by omega, hT6.to k7 t7, by omega, hfl, by rw [← hst.out, hwk'.out]⟩, by simp [intOf]; omega⟩
            | false =>
              rw [hdx] at his
              replace his := Lib.hid his
              have hst := Lib.hid (show workF cl (n.toNat - k) x = x from by
                rw [show n.toNat - k = (n.toNat - (k + 1)) + 1 by omega, workF, hdx]; rfl)
              clear hdx
              ((first | go_at_call 42 | (go_wp2_with (first | ((with_reducible change wpList _ _ _ (Oper.mk _ (Op.load _ _) _ _ _ _ :: _) _ _); refine BigFrame.wpList_want rfl (fun K hK => ?_); refine op_load1 rfl rfl Try.ag3 (t9.cell (i := 0) rfl) ?_; refine hK _ _ ?_; clear hK K) | ((with_reducible change wpList _ _ _ (Oper.mk _ (Op.load _ _) _ _ _ _ :: _) _ _); refine BigFrame.wpList_want rfl (fun K hK => ?_); refine op_load1 rfl rfl Try.ag3 (tt.cell (i := 0) rfl) ?_; refine hK _ _ ?_; clear hK K)); go_at_call 42)); refine (his.out).mono ?_; rintro _ w5 ⟨rfl, x5⟩)
              go_wp2_with fail
              go_meet
              case rel => exact ⟨x, 0, by have := StepIs.u5 day n cl; rw [← hwk'.out, hst.out] at this; exact this, hT.then x5⟩
          · have hst := Lib.hid (show workF cl (n.toNat - k) x = x from by
              rw [show n.toNat - k = 0 by omega]; rfl)
            go_wp2_with (first
              | ((with_reducible change wpList _ _ _ (Oper.mk _ (Op.load _ _) _ _ _ _ :: _) _ _); refine BigFrame.wpList_want rfl (fun K hK => ?_); refine op_load1 rfl rfl Try.ag3 (tt.cell (i := 0) rfl) ?_; refine hK _ _ ?_; clear hK K))
            go_meet
            case rel => exact ⟨x, 0, by have := StepIs.u5 day n cl; rw [← hwk'.out, hst.out] at this; exact this, hT⟩
    case rest =>
      obtain ⟨x, f, hst, hT⟩ := hcut
      have hst' := Lib.hid hst
      clear hst T0
      have t9 := hT.b9
      have t10 := hT.b10
      have hAdd : ∀ r e, (if f = 0 ∧ dayB x = true ∧ fromD cl x ≤ 1000000 then r = fromD cl x ∧ e = 0 else r = 0 ∧ e = 10) → AddIs day n unit cl r e := fun r e h => by
        unfold AddIs
        rw [hA.out, if_pos rfl, if_neg hlen]
        exact ⟨x, f, hst'.out, h⟩
      replace hAdd := Lib.hid hAdd
      by_cases hf : f = 0
      · have hf' := Lib.hid hf
        subst hf
        have his := is_contract wc x
        cases hdx : dayB x with
        | false =>
          have hdx' := Lib.hid hdx
          rw [hdx] at his
          replace his := Lib.hid his
          clear hdx
          ((first | go_at_call 42 | (go_wp2_with (first | ((with_reducible change wpList _ _ _ (Oper.mk _ (Op.load _ _) _ _ _ _ :: _) _ _); refine BigFrame.wpList_want rfl (fun K hK => ?_); refine op_load1 rfl rfl Try.ag3 (t9.cell (i := 0) rfl) ?_; refine hK _ _ ?_; clear hK K) | ((with_reducible change wpList _ _ _ (Oper.mk _ (Op.load _ _) _ _ _ _ :: _) _ _); refine BigFrame.wpList_want rfl (fun K hK => ?_); refine op_load1 rfl rfl Try.ag32 (t10.cell (i := 0) rfl) ?_; refine hK _ _ ?_; clear hK K)); go_at_call 42)); refine (his.out).mono ?_; rintro _ w5 ⟨rfl, x5⟩)
          go_wp2_with fail
          go_ret2
          exact ⟨0, 10, rfl, hAdd.out _ _ (by rw [if_neg (by rw [hdx'.out]; simp)]; exact ⟨rfl, rfl⟩), hE2.then_ext (hT.ext.then_ext x5)⟩
        | true =>
          have hdx' := Lib.hid hdx
          rw [hdx] at his
          replace his := Lib.hid his
          have hx01 := dayB_iff.1 hdx
          obtain ⟨hx0, hx1⟩ := hx01
          have hfg := fromD_ge cl x
          clear hdx
          ((first | go_at_call 42 | (go_wp2_with (first | ((with_reducible change wpList _ _ _ (Oper.mk _ (Op.load _ _) _ _ _ _ :: _) _ _); refine BigFrame.wpList_want rfl (fun K hK => ?_); refine op_load1 rfl rfl Try.ag3 (t9.cell (i := 0) rfl) ?_; refine hK _ _ ?_; clear hK K) | ((with_reducible change wpList _ _ _ (Oper.mk _ (Op.load _ _) _ _ _ _ :: _) _ _); refine BigFrame.wpList_want rfl (fun K hK => ?_); refine op_load1 rfl rfl Try.ag32 (t10.cell (i := 0) rfl) ?_; refine hK _ _ ?_; clear hK K)); go_at_call 42)); refine (his.out).mono ?_; rintro _ w5 ⟨rfl, x5⟩)
          have hT5 := hT.then x5
          have t95 := hT5.b9
          ((first | go_at_call 47 | (go_wp2_with (first | ((with_reducible change wpList _ _ _ (Oper.mk _ (Op.load _ _) _ _ _ _ :: _) _ _); refine BigFrame.wpList_want rfl (fun K hK => ?_); refine op_load1 rfl rfl Try.ag3 (t95.cell (i := 0) rfl) ?_; refine hK _ _ ?_; clear hK K)); go_at_call 47)); refine (from_contract (hcl.ext hT5.ext) x (by omega) (by omega)).mono ?_; rintro _ w6 ⟨rfl, x6⟩)
          have hT6 := hT5.then x6
          have t96 := hT6.b9
          by_cases hfr : fromD cl x ≤ 1000000
          · have his2 := fun w => is_contract w (fromD cl x)
            rw [dayB_iff.2 ⟨by omega, hfr⟩] at his2
            replace his2 := Lib.hid his2
            ((first | go_at_call 42 | (go_wp2_with (first | ((with_reducible change wpList _ _ _ (Oper.mk _ (Op.load _ _) _ _ _ _ :: _) _ _); refine BigFrame.wpList_want rfl (fun K hK => ?_); refine op_load1 rfl rfl Try.ag3 (k7.cell (i := 0) rfl) ?_; refine hK _ _ ?_; clear hK K) | ((with_reducible change wpList _ _ _ (Oper.mk _ (Op.store _ _ _) _ _ _ _ :: _) _ _); refine BigFrame.wpList_want rfl (fun K hK => ?_); refine op_store1 (g := w2.heap.size) (i := 0) (T := 3) (cs := #[.int .i64 x]) (v := .int .i64 (fromD cl x)) rfl rfl rfl Try.szE3 rfl t96 (by simp) ?_; intro w7 k7 t7 z7; refine hK _ _ ?_; clear hK K)); go_at_call 42)); refine (his2.out _).mono ?_; rintro _ w8 ⟨rfl, x8⟩)
            have hT8 := (hT6.to k7 t7).then x8
            have t98 := hT8.b9
            go_wp2_with (first
              | ((with_reducible change wpList _ _ _ (Oper.mk _ (Op.load _ _) _ _ _ _ :: _) _ _); refine BigFrame.wpList_want rfl (fun K hK => ?_); refine op_load1 rfl rfl Try.ag3 (t98.cell (i := 0) rfl) ?_; refine hK _ _ ?_; clear hK K))
            go_ret2
            exact ⟨_, 0, rfl, hAdd.out _ _ (by rw [if_pos ⟨trivial, hdx'.out, hfr⟩]; exact ⟨rfl, rfl⟩), hE2.then_ext hT8.ext⟩
          · have his2 := fun w => is_contract w (fromD cl x)
            rw [show dayB (fromD cl x) = false from by simp [dayB]; omega] at his2
            replace his2 := Lib.hid his2
            ((first | go_at_call 42 | (go_wp2_with (first | ((with_reducible change wpList _ _ _ (Oper.mk _ (Op.load _ _) _ _ _ _ :: _) _ _); refine BigFrame.wpList_want rfl (fun K hK => ?_); refine op_load1 rfl rfl Try.ag3 (k7.cell (i := 0) rfl) ?_; refine hK _ _ ?_; clear hK K) | ((with_reducible change wpList _ _ _ (Oper.mk _ (Op.store _ _ _) _ _ _ _ :: _) _ _); refine BigFrame.wpList_want rfl (fun K hK => ?_); refine op_store1 (g := w2.heap.size) (i := 0) (T := 3) (cs := #[.int .i64 x]) (v := .int .i64 (fromD cl x)) rfl rfl rfl Try.szE3 rfl t96 (by simp) ?_; intro w7 k7 t7 z7; refine hK _ _ ?_; clear hK K)); go_at_call 42)); refine (his2.out _).mono ?_; rintro _ w8 ⟨rfl, x8⟩)
            have hT8 := (hT6.to k7 t7).then x8
            go_wp2_with fail
            go_ret2
            exact ⟨0, 10, rfl, hAdd.out _ _ (by rw [if_neg (fun h => by have := h.2.2; omega)]; exact ⟨rfl, rfl⟩), hE2.then_ext hT8.ext⟩
      · have hf' : (f != 0) = true := by simpa using hf
        go_wp2_with (first
          | ((with_reducible change wpList _ _ _ (Oper.mk _ (Op.load _ _) _ _ _ _ :: _) _ _); refine BigFrame.wpList_want rfl (fun K hK => ?_); refine op_load1 rfl rfl Try.ag32 (t10.cell (i := 0) rfl) ?_; refine hK _ _ ?_; clear hK K))
        go_ret2
        exact ⟨0, 10, rfl, hAdd.out _ _ (by rw [if_neg (fun h => hf h.1)]; exact ⟨rfl, rfl⟩), hE2.then_ext hT.ext⟩

theorem add_contract {w : World} {v : Value} {cl : List Int} (hv : RInts w v cl) (hok : ∀ x ∈ cl, (Lit.int .i64 x).wf = true) (hn : cl.length ≤ 1000000) (day n unit : Int) :
    Calls Try.prog 23 #[.int .i64 day, .agg #[.int .i64 n, .int .i64 unit], v] w fun e w' => AddPost day n unit cl w e w' := by
  cases h : dayB day && termB n unit with
  | false => exact add_bad day n unit h
  | true =>
    rw [Bool.and_eq_true] at h
    have h1 := dayB_iff.1 h.1
    have h2 := termB_iff.1 h.2
    exact add_good hv hok hn day n unit h1.1 h1.2 h2.1 h2.2.1 h2.2.2.1 h2.2.2.2
end Go.Proofs.Ytioofhmkeajkpaa
