/-
  Contracts of package limit: the closures of start.
-/
import Derived.Test.YtioofhmkeajkpaaMLimA
import Derived.Test.YtioofhmkeajkpaaLimSort
import Derived.Test.YtioofhmkeajkpaaSortRow
namespace Go.Proofs.Ytioofhmkeajkpaa
open Go Go.RowKit PLimitMatchesReference Go.Proofs.YtioofhmkeajkpaaW.PrintWords

attribute [local irreducible] World.cell? World.frozen? isAggB _root_.Go.Program.underlying

theorem Try.ag51 : isAggB Try.prog 51 = some false := by kernel_rfl
theorem Try.sz24' : (Try.prog.info? 24).map (·.size) = some 1 := by kernel_rfl
theorem Try.in31 : (Try.prog.info? 31).map (fun i => (i.zero, i.size, i.bytes)) = some (some (.agg #[.int .i64 0, .int .i64 0]), 2, 16) := by kernel_rfl

/-- A stop ahead of the sort: its beginning is a number that may be subtracted. -/
abbrev BStop : Type := { s : S31 // 0 ≤ s.f0 ∧ s.f0 ≤ 2000000 }
instance : Inhabited BStop := ⟨⟨⟨0, 0⟩, by decide⟩⟩
def BStop.cells (s : BStop) : List Value := stopC s.1
def BStop.cmp (x y : BStop) : Int := x.1.f0 - y.1.f0
theorem BStop.lt (x y : BStop) : ltOf BStop.cmp x y = decide (x.1.f0 < y.1.f0) := by
  unfold ltOf BStop.cmp
  exact decide_eq_decide.2 (by omega)
theorem BStop.swo : Go.Sort.SWO (ltOf BStop.cmp) where
  irrefl x := by rw [BStop.lt]; simp
  trans x y z h1 h2 := by rw [BStop.lt] at *; simp at *; omega
  ntrans x y z h1 h2 := by rw [BStop.lt] at *; simp at *; omega

set_option maxRecDepth 100000 in
theorem less_contract (W : World) (x y : BStop) : Calls Try.prog 53 #[.agg x.cells.toArray, .agg y.cells.toArray] W fun e w' => e = .returned (.int .i64 (BStop.cmp x y)) ∧ ∃ q os', w' = Go.Sort.grow (W.drewN q) os' := by
  obtain ⟨⟨a, b⟩, h1, h2⟩ := x
  obtain ⟨⟨c, d⟩, h3, h4⟩ := y
  dsimp only at h1 h2 h3 h4
  unfold BStop.cells BStop.cmp stopC
  dsimp only
  go_enter Try.func53, Try.ntmps53
  go_wp2_with fail
  go_ret
  exact ⟨rfl, 0, _, by rw [Go.Sort.alloc_eq_grow, Go.Sort.alloc_eq_grow, Go.Sort.grow_grow]; rfl⟩
theorem sort_contract {w : World} {v : Value} (l : List BStop) (hrow : Row w 31 2 v (l.flatMap BStop.cells)) (hl : l.length ≤ 1000000) :
    Calls Try.prog 52 #[v, .func (.func 53) #[] #[]] w fun e w' => e = .returned (.tuple #[]) ∧ ∃ l' : List BStop, l'.Perm l ∧ l'.Pairwise (fun x y => ltOf BStop.cmp y x = false) ∧ Row w' 31 2 v (l'.flatMap BStop.cells) ∧ Touch (fun b => rowBlock v = some b) w w' :=
  sort_row (α := BStop) Try.sortStop (by decide) Try.isAgg31 Try.sizeOf31 BStop.cells (fun _ => rfl) (fun x u hu => by simp [BStop.cells, stopC] at hu; rcases hu with rfl | rfl <;> rfl) BStop.cmp BStop.swo (fn := 53) (cb := #[]) (fun _ _ => by kernel_rfl) (fun W x y => by simpa using less_contract W x y) l hrow hl

/-- One stop more, joined to the last one if it begins before its end. -/
def joinS (cs : Stops) (s : S31) : Stops :=
  match cs.getLast? with
  | none => [s]
  | some t => if s.f0 ≤ t.f1 then cs.dropLast ++ [⟨t.f0, max t.f1 s.f1⟩] else cs ++ [s]

theorem Blk.alloc' (w : World) (cs : Array Value) (t : TypeId) : Blk (w.alloc (.cells cs t)) w.heap.size t cs := obj_new w _
theorem joinS_nil (s : S31) : joinS [] s = [] ++ [s] := rfl
theorem joinS_in {init : Stops} {t s : S31} (h : s.f0 ≤ t.f1) : joinS (init ++ [t]) s = init ++ [⟨t.f0, max t.f1 s.f1⟩] := by simp [joinS, h]
theorem joinS_out {init : Stops} {t s : S31} (h : ¬ s.f0 ≤ t.f1) : joinS (init ++ [t]) s = (init ++ [t]) ++ [s] := by simp [joinS, h]
theorem set_last (init : Stops) (a b c : Int) : ((init ++ [(⟨a, b⟩ : S31)]).flatMap stopC).set (init.length * 2 + 1) (.int .i64 c) = (init ++ [(⟨a, c⟩ : S31)]).flatMap stopC := by
  have hl := flatMap_len (enc := stopC) (k := 2) (fun _ => rfl) init
  rw [List.flatMap_append, List.flatMap_append, List.set_append_right _ _ (by omega), hl, Nat.add_sub_cancel_left]
  rfl
/-- The clock while it is made. -/
structure JoinAt (B : Nat) (W : World) (gP gC : Nat) (fr : Int) (v : Value) (cs : Stops) : Prop where
  size : B ≤ W.heap.size
  p : Blk W gP 51 #[.pointer (some ⟨gC, 0, none⟩)]
  c : Blk W gC 57 #[.int .i64 fr, v]
  row : Row W 31 2 v (cs.flatMap stopC)
  pB : gP < B
  cB : gC < B
  ne : gP ≠ gC
  new : ∀ b, rowBlock v = some b → B ≤ b
def JoinPost (B : Nat) (W : World) (gP gC : Nat) (fr : Int) (cs : Stops) (e : Ending) (w' : World) : Prop :=
  e = .returned (.tuple #[]) ∧ ∃ v', JoinAt B w' gP gC fr v' cs ∧ Touch (fun b => b = gC ∨ B ≤ b) W w'

set_option maxRecDepth 100000 in
set_option maxHeartbeats 4000000 in
theorem join_contract {B : Nat} {W : World} {gP gC : Nat} {fr : Int} {v : Value} {cs : Stops} (h : JoinAt B W gP gC fr v cs) (hn : cs.length ≤ 1000) (s : S31) :
    Calls Try.prog 54 #[stopV s, .pointer (some ⟨gP, 0, none⟩)] W fun e w' => JoinPost B W gP gC fr (joinS cs s) e w' := by
  obtain ⟨sf, st⟩ := s
  unfold stopV
  dsimp only
  have hEa := Ext.alloc W (.cells #[.int .i64 sf, .int .i64 st] 31)
  have hP := h.p.ext hEa
  have hC := h.c.ext hEa
  have hR := h.row.keep hEa (fun _ _ h => h)
  have hS := Blk.alloc' W #[.int .i64 sf, .int .i64 st] 31
  have hlen := Lib.hid (show (cs.flatMap stopC).length ≤ 2000 from by rw [flatMap_len (enc := stopC) (k := 2) (fun _ => rfl)]; omega)
  rcases List.eq_nil_or_concat cs with rfl | ⟨init, t, rfl⟩
  · go_enter Try.func54, Try.ntmps54
    go_wp2_with (first
      | ((with_reducible change wpList _ _ _ (Oper.mk _ (Op.load _ _) _ _ _ _ :: _) _ _); refine BigFrame.wpList_want rfl (fun K hK => ?_); refine op_load1 rfl rfl Try.ag51 (hP.cell (i := 0) rfl) ?_; refine hK _ _ ?_; clear hK K)
      | ((with_reducible change wpList _ _ _ (Oper.mk _ (Op.load _ _) _ _ _ _ :: _) _ _); refine BigFrame.wpList_want rfl (fun K hK => ?_); refine op_load1 rfl rfl Try.ag24 (hC.cell (i := 1) rfl) ?_; refine hK _ _ ?_; clear hK K)
      | ((with_reducible change wpList _ _ _ (Oper.mk _ (Op.call (Call.mk (Callee.builtin Builtin.len) _ _)) _ _ _ _ :: _) _ _); refine BigFrame.wpList_want rfl (fun K hK => ?_); refine op_len_row (n := 0) rfl rfl Try.underlying24 hR (by omega) rfl ?_; refine hK _ _ ?_; clear hK K))
    refine wp_region_rt (by kernel_rfl) [0, 1, 3, 7, 15, 7, 39, 103, 231, 7, 999, 2023, 4071, 8191, 16383] (.rd 0 (.rd 1 (.rd 2 (.rd 3 (.rd 4 (.rd 5 (.rd 6 (.rd 7 (.rd 8 (.rd 9 (.rd 10 (.rd 11 (.rd 12 (.rd 13 (.rd 14 (.nil)))))))))))))))) (by kernel_rfl) ?_
    iterate 3 (refine cw_rd rfl rfl rfl rfl rfl (fun K hK => ?_); go_wp2_with fail)
    iterate 11 refine cw_skip' rfl rfl rfl ?_
    iterate 1 (refine cw_rd rfl rfl rfl rfl rfl (fun K hK => ?_); go_wp2_with fail)
    refine cw_nil ?_
    go_wp2_with fail
    refine wp_region_rt (by kernel_rfl) [0, 0, 2, 6, 14, 0, 32, 126, 255, 511, 1023] (.rd 0 (.rd 1 (.rd 2 (.rd 3 (.rd 4 (.rd 5 (.e1 6 [0, 1, 2, 3, 4] (.e1 7 [0] (.rd 8 (.rd 9 (.e1 10 [] (.nil)))))))))))) (by kernel_rfl) ?_
    (refine cw_rd rfl rfl rfl rfl rfl (fun K hK => ?_); refine op_load1 rfl rfl Try.ag51 (cell_drew (cell_drew (hP.cell (i := 0) rfl))) ?_; refine op_norm rfl ?_; go_wp2_with fail)
    (refine cw_rd rfl rfl rfl rfl rfl (fun K hK => ?_); refine op_load1 rfl rfl Try.ag51 (cell_drew (cell_drew (hP.cell (i := 0) rfl))) ?_; refine op_norm rfl ?_; go_wp2_with fail)
    iterate 2 (refine cw_rd rfl rfl rfl rfl rfl (fun K hK => ?_); go_wp2_with fail)
    (refine cw_rd rfl rfl rfl rfl rfl (fun K hK => ?_); refine op_load1 rfl rfl Try.ag24 (cell_drew (cell_drew (hC.cell (i := 1) rfl))) ?_; refine op_norm rfl ?_; go_wp2_with fail)
    (refine cw_rd rfl rfl rfl rfl rfl (fun K hK => ?_); refine op_loadN (p := ⟨W.heap.size, 0, none⟩) (vs := [.int .i64 sf, .int .i64 st]) rfl rfl Try.ag31 Try.sz31 (blk_cells (show Blk (W.alloc (.cells #[.int .i64 sf, .int .i64 st] 31)).drew.drew W.heap.size 31 [.int .i64 sf, .int .i64 st].toArray from hS)) ?_; refine op_norm rfl ?_; go_wp2_with fail)
    obtain ⟨i31, hi31, hz31, hsz31, hby31⟩ := info_parts Try.in31
    have hzc31 : (Value.agg #[.int .i64 0, .int .i64 0]).cells.size = 2 := rfl
    refine cw_e1 rfl rfl (fun K hK => ?_)
    refine op_buildN (vs := [.int .i64 sf, .int .i64 st]) rfl rfl Try.underlying24 hi31 hz31 hsz31 hzc31 (by simp) (by simp) ?_
    intro vT wT rT fT xT
    refine op_norm rfl ?_
    go_wp2_with fail
    have hE2 : Ext W ((W.alloc (.cells #[.int .i64 sf, .int .i64 st] 31)).drew.drew) := hEa.drew.drew
    have hET := hE2.then_ext xT
    have hPT := h.p.ext hET
    have hCT := h.c.ext hET
    have hRT := h.row.keep hET (fun _ _ h => h)
    refine ⟨?_, ?_⟩
    · (repeat (first | exact fl_nil | refine fl_skip rfl ?_ | (refine fl_take rfl ?_ ?_; (refine yldI_of rfl rfl ?_; first | exact run_ld rfl rfl Try.ag51 (hPT.cell (i := 0) rfl) | exact run_ld rfl rfl Try.ag24 (hCT.cell (i := 1) rfl) |  go_simp))))
    refine cw_e1 rfl rfl (fun K hK => ?_)
    refine op_append_row (v := v) rfl rfl rfl Try.underlying24 hi31 hz31 hsz31 hby31 hzc31 (by omega) (by omega) hRT rT (by simp [Value.oneCell']) (by have hll := hlen.out; simp only [List.length_cons, List.length_nil] at *; omega) ?_
    intro vA wA rA tA nA
    refine op_norm rfl ?_
    go_wp2_with fail
    have hszT := hET.size
    have hPA : Blk wA gP 51 #[.pointer (some ⟨gC, 0, none⟩)] := tA.obj hPT (fun e => by have := h.new _ e; have := h.pB; omega)
    have hCA : Blk wA gC 57 #[.int .i64 fr, v] := tA.obj hCT (fun e => by have := h.new _ e; have := h.cB; omega)
    refine ⟨?_, ?_⟩
    · (repeat (first | exact fl_nil | refine fl_skip rfl ?_ | (refine fl_take rfl ?_ ?_; (refine yldI_of rfl rfl ?_; first | exact run_ld rfl rfl Try.ag51 (hPA.cell (i := 0) rfl) |  go_simp))))
    iterate 2 (refine cw_rd rfl rfl rfl rfl rfl (fun K hK => ?_); go_wp2_with fail)
    refine cw_e1 rfl rfl (fun K hK => ?_)
    refine op_store1 (g := gC) (i := 1) (T := 57) (cs := #[.int .i64 fr, v]) (v := vA) rfl rfl rfl Try.sz24' (row_one rA) hCA (by simp) ?_
    intro wS kS tS zS
    refine op_done rfl ?_
    refine hK _ _ ?_
    clear hK K
    refine ⟨fl_none, ?_⟩
    refine cw_nil ?_
    go_wp2_with fail
    go_end0
    have hsA := tA.size
    have hsS := tS.size
    have nB : ∀ b, rowBlock vA = some b → B ≤ b := fun b hb => by
      rcases nA with nA | nA
      · exact h.new b (by rw [← nA]; exact hb)
      · rw [nA] at hb; injection hb with hb; have := h.size; omega
    refine ⟨rfl, vA, ⟨by have := h.size; omega, tS.obj hPA h.ne, kS, ?_, h.pB, h.cB, h.ne, nB⟩, ?_⟩
    · rw [joinS_nil, List.flatMap_append]
      exact rA.keep tS (fun b hb e => by have := nB b hb; have := h.cB; omega)
    · exact ((Touch.of_ext hET).trans (G := fun b => rowBlock v = some b) tA (fun b _ e => .inr (h.new b e))).trans (G := fun b => b = gC) tS (fun b _ e => .inl e)
  · rw [List.concat_eq_append] at *
    obtain ⟨tf, tt⟩ := t
    have hl := Lib.hid (show ((init ++ [(⟨tf, tt⟩ : S31)]).flatMap stopC).length = (init.length + 1) * 2 from by rw [flatMap_len (enc := stopC) (k := 2) (fun _ => rfl)]; simp)
    obtain ⟨ge, ke, he⟩ := hR.elem (i := init.length) (Nat.le_of_eq hl.out.symm) (by omega)
    have he' := Lib.hid he
    have hc1 := Lib.hid (he.cell hR (j := 1) (u := .int .i64 tt) (by
      rw [List.flatMap_append, List.getElem?_append_right (by rw [flatMap_len (enc := stopC) (k := 2) (fun _ => rfl)]; omega), flatMap_len (enc := stopC) (k := 2) (fun _ => rfl)]
      rw [Nat.add_sub_cancel_left]; rfl))
    have hi : init.length ≤ 1000 := by simp at hn; omega
    have hi0 : (0 : Int) ≤ init.length := by omega
    by_cases hle : sf ≤ tt
    · go_enter Try.func54, Try.ntmps54
      go_wp2_with (first
        | ((with_reducible change wpList _ _ _ (Oper.mk _ (Op.load _ _) _ _ _ _ :: _) _ _); refine BigFrame.wpList_want rfl (fun K hK => ?_); refine op_load1 rfl rfl Try.ag51 (hP.cell (i := 0) rfl) ?_; refine hK _ _ ?_; clear hK K)
        | ((with_reducible change wpList _ _ _ (Oper.mk _ (Op.load _ _) _ _ _ _ :: _) _ _); refine BigFrame.wpList_want rfl (fun K hK => ?_); refine op_load1 rfl rfl Try.ag24 (hC.cell (i := 1) rfl) ?_; refine hK _ _ ?_; clear hK K)
        | ((with_reducible change wpList _ _ _ (Oper.mk _ (Op.call (Call.mk (Callee.builtin Builtin.len) _ _)) _ _ _ _ :: _) _ _); refine BigFrame.wpList_want rfl (fun K hK => ?_); refine op_len_row (n := init.length + 1) rfl rfl Try.underlying24 hR (by omega) hl.out ?_; refine hK _ _ ?_; clear hK K))
      refine wp_region_rt (by kernel_rfl) [0, 1, 3, 7, 15, 7, 39, 103, 231, 7, 999, 2023, 4071, 8191, 16383] (.rd 0 (.rd 1 (.rd 2 (.rd 3 (.rd 4 (.rd 5 (.rd 6 (.rd 7 (.rd 8 (.rd 9 (.rd 10 (.rd 11 (.rd 12 (.rd 13 (.rd 14 (.nil)))))))))))))))) (by kernel_rfl) ?_
      iterate 4 (refine cw_rd rfl rfl rfl rfl rfl (fun K hK => ?_); go_wp2_with fail)
      (refine cw_rd rfl rfl rfl rfl rfl (fun K hK => ?_); refine op_load1 rfl rfl Try.ag3 (cell_drew (hS.cell (i := 0) rfl)) ?_; refine op_norm rfl ?_; go_wp2_with fail)
      (refine cw_rd rfl rfl rfl rfl rfl (fun K hK => ?_); refine op_load1 rfl rfl Try.ag51 (cell_drew (hP.cell (i := 0) rfl)) ?_; refine op_norm rfl ?_; go_wp2_with fail)
      iterate 2 (refine cw_rd rfl rfl rfl rfl rfl (fun K hK => ?_); go_wp2_with fail)
      (refine cw_rd rfl rfl rfl rfl rfl (fun K hK => ?_); refine op_load1 rfl rfl Try.ag24 (cell_drew (hC.cell (i := 1) rfl)) ?_; refine op_norm rfl ?_; go_wp2_with fail)
      iterate 1 (refine cw_rd rfl rfl rfl rfl rfl (fun K hK => ?_); go_wp2_with fail)
      (refine cw_rd rfl rfl rfl rfl rfl (fun K hK => ?_); refine op_elem rfl rfl rfl Try.underlying24 Try.sz31 he'.out ?_; refine op_norm rfl ?_; go_wp2_with fail)
      iterate 1 (refine cw_rd rfl rfl rfl rfl rfl (fun K hK => ?_); go_wp2_with fail)
      (refine cw_rd rfl rfl rfl rfl rfl (fun K hK => ?_); refine op_load1 rfl rfl Try.ag3 (cell_drew hc1.out) ?_; refine op_norm rfl ?_; go_wp2_with fail)
      iterate 2 (refine cw_rd rfl rfl rfl rfl rfl (fun K hK => ?_); go_wp2_with fail)
      refine cw_nil ?_
      go_wp2_with fail
      refine wp_region_rt (by kernel_rfl) [0, 1, 3, 7, 0, 0, 32, 96, 224, 0, 992, 2016, 4064, 0, 8192, 32736, 65535, 131071, 262143] (.rd 0 (.rd 1 (.rd 2 (.rd 3 (.rd 4 (.rd 5 (.rd 6 (.rd 7 (.rd 8 (.rd 9 (.rd 10 (.rd 11 (.rd 12 (.rd 13 (.rd 14 (.rd 15 (.rd 16 (.rd 17 (.e1 18 [] (.nil)))))))))))))))))))) (by kernel_rfl) ?_
      (refine cw_rd rfl rfl rfl rfl rfl (fun K hK => ?_); refine op_load1 rfl rfl Try.ag51 (cell_drew (cell_drew (hP.cell (i := 0) rfl))) ?_; refine op_norm rfl ?_; go_wp2_with fail)
      iterate 2 (refine cw_rd rfl rfl rfl rfl rfl (fun K hK => ?_); go_wp2_with fail)
      (refine cw_rd rfl rfl rfl rfl rfl (fun K hK => ?_); refine op_load1 rfl rfl Try.ag24 (cell_drew (cell_drew (hC.cell (i := 1) rfl))) ?_; refine op_norm rfl ?_; go_wp2_with fail)
      iterate 1 (refine cw_rd rfl rfl rfl rfl rfl (fun K hK => ?_); go_wp2_with fail)
      (refine cw_rd rfl rfl rfl rfl rfl (fun K hK => ?_); refine op_load1 rfl rfl Try.ag51 (cell_drew (cell_drew (hP.cell (i := 0) rfl))) ?_; refine op_norm rfl ?_; go_wp2_with fail)
      iterate 2 (refine cw_rd rfl rfl rfl rfl rfl (fun K hK => ?_); go_wp2_with fail)
      (refine cw_rd rfl rfl rfl rfl rfl (fun K hK => ?_); refine op_load1 rfl rfl Try.ag24 (cell_drew (cell_drew (hC.cell (i := 1) rfl))) ?_; refine op_norm rfl ?_; go_wp2_with fail)
      iterate 1 (refine cw_rd rfl rfl rfl rfl rfl (fun K hK => ?_); go_wp2_with fail)
      (refine cw_rd rfl rfl rfl rfl rfl (fun K hK => ?_); refine op_elem rfl rfl rfl Try.underlying24 Try.sz31 he'.out ?_; refine op_norm rfl ?_; go_wp2_with fail)
      iterate 1 (refine cw_rd rfl rfl rfl rfl rfl (fun K hK => ?_); go_wp2_with fail)
      (refine cw_rd rfl rfl rfl rfl rfl (fun K hK => ?_); refine op_load1 rfl rfl Try.ag3 (cell_drew (cell_drew hc1.out)) ?_; refine op_norm rfl ?_; go_wp2_with fail)
      iterate 1 (refine cw_rd rfl rfl rfl rfl rfl (fun K hK => ?_); go_wp2_with fail)
      (refine cw_rd rfl rfl rfl rfl rfl (fun K hK => ?_); refine op_load1 rfl rfl Try.ag3 (cell_drew (cell_drew (hS.cell (i := 1) rfl))) ?_; refine op_norm rfl ?_; go_wp2_with fail)
      iterate 1 (refine cw_rd rfl rfl rfl rfl rfl (fun K hK => ?_); go_wp2_with fail)
      (refine cw_rd rfl rfl rfl rfl rfl (fun K hK => ?_); refine op_elem rfl rfl rfl Try.underlying24 Try.sz31 he'.out ?_; refine op_norm rfl ?_; go_wp2_with fail)
      iterate 1 (refine cw_rd rfl rfl rfl rfl rfl (fun K hK => ?_); go_wp2_with fail)
      refine cw_e1 rfl rfl (fun K hK => ?_)
      refine op_store_row (v := v) (E := 31) (size := 2) (i := init.length) (d := 1) (g := ge) (k := ke) (u := .int .i64 (max tt st)) rfl rfl rfl Try.szE3 rfl (hR.drew.drew) he'.out (Nat.le_of_eq hl.out.symm) (by omega) ?_
      intro wS rS tS
      refine op_done rfl ?_
      refine hK _ _ ?_
      clear hK K
      refine ⟨fl_none, ?_⟩
      refine cw_nil ?_
      go_wp2_with fail
      go_end0
      have hE2 : Ext W ((W.alloc (.cells #[.int .i64 sf, .int .i64 st] 31)).drew.drew) := hEa.drew.drew
      have hsz := hE2.size
      have hsz2 := tS.size
      rw [set_last] at rS
      refine ⟨rfl, v, ⟨by have := h.size; omega, tS.obj (hE2.obj h.p (fun h => h)) (fun e => by have := h.new _ e; have := h.pB; omega), tS.obj (hE2.obj h.c (fun h => h)) (fun e => by have := h.new _ e; have := h.cB; omega), ?_, h.pB, h.cB, h.ne, h.new⟩, ?_⟩
      · rw [joinS_in hle]; exact rS
      · exact (Touch.of_ext hE2).trans tS fun b _ e => .inr (h.new b e)
    · have hle' : tt < sf := by omega
      go_enter Try.func54, Try.ntmps54
      go_wp2_with (first
        | ((with_reducible change wpList _ _ _ (Oper.mk _ (Op.load _ _) _ _ _ _ :: _) _ _); refine BigFrame.wpList_want rfl (fun K hK => ?_); refine op_load1 rfl rfl Try.ag51 (hP.cell (i := 0) rfl) ?_; refine hK _ _ ?_; clear hK K)
        | ((with_reducible change wpList _ _ _ (Oper.mk _ (Op.load _ _) _ _ _ _ :: _) _ _); refine BigFrame.wpList_want rfl (fun K hK => ?_); refine op_load1 rfl rfl Try.ag24 (hC.cell (i := 1) rfl) ?_; refine hK _ _ ?_; clear hK K)
        | ((with_reducible change wpList _ _ _ (Oper.mk _ (Op.call (Call.mk (Callee.builtin Builtin.len) _ _)) _ _ _ _ :: _) _ _); refine BigFrame.wpList_want rfl (fun K hK => ?_); refine op_len_row (n := init.length + 1) rfl rfl Try.underlying24 hR (by omega) hl.out ?_; refine hK _ _ ?_; clear hK K))
      refine wp_region_rt (by kernel_rfl) [0, 1, 3, 7, 15, 7, 39, 103, 231, 7, 999, 2023, 4071, 8191, 16383] (.rd 0 (.rd 1 (.rd 2 (.rd 3 (.rd 4 (.rd 5 (.rd 6 (.rd 7 (.rd 8 (.rd 9 (.rd 10 (.rd 11 (.rd 12 (.rd 13 (.rd 14 (.nil)))))))))))))))) (by kernel_rfl) ?_
      iterate 4 (refine cw_rd rfl rfl rfl rfl rfl (fun K hK => ?_); go_wp2_with fail)
      (refine cw_rd rfl rfl rfl rfl rfl (fun K hK => ?_); refine op_load1 rfl rfl Try.ag3 (cell_drew (hS.cell (i := 0) rfl)) ?_; refine op_norm rfl ?_; go_wp2_with fail)
      (refine cw_rd rfl rfl rfl rfl rfl (fun K hK => ?_); refine op_load1 rfl rfl Try.ag51 (cell_drew (hP.cell (i := 0) rfl)) ?_; refine op_norm rfl ?_; go_wp2_with fail)
      iterate 2 (refine cw_rd rfl rfl rfl rfl rfl (fun K hK => ?_); go_wp2_with fail)
      (refine cw_rd rfl rfl rfl rfl rfl (fun K hK => ?_); refine op_load1 rfl rfl Try.ag24 (cell_drew (hC.cell (i := 1) rfl)) ?_; refine op_norm rfl ?_; go_wp2_with fail)
      iterate 1 (refine cw_rd rfl rfl rfl rfl rfl (fun K hK => ?_); go_wp2_with fail)
      (refine cw_rd rfl rfl rfl rfl rfl (fun K hK => ?_); refine op_elem rfl rfl rfl Try.underlying24 Try.sz31 he'.out ?_; refine op_norm rfl ?_; go_wp2_with fail)
      iterate 1 (refine cw_rd rfl rfl rfl rfl rfl (fun K hK => ?_); go_wp2_with fail)
      (refine cw_rd rfl rfl rfl rfl rfl (fun K hK => ?_); refine op_load1 rfl rfl Try.ag3 (cell_drew hc1.out) ?_; refine op_norm rfl ?_; go_wp2_with fail)
      iterate 2 (refine cw_rd rfl rfl rfl rfl rfl (fun K hK => ?_); go_wp2_with fail)
      refine cw_nil ?_
      go_wp2_with fail
      refine wp_region_rt (by kernel_rfl) [0, 0, 2, 6, 14, 0, 32, 126, 255, 511, 1023] (.rd 0 (.rd 1 (.rd 2 (.rd 3 (.rd 4 (.rd 5 (.e1 6 [0, 1, 2, 3, 4] (.e1 7 [0] (.rd 8 (.rd 9 (.e1 10 [] (.nil)))))))))))) (by kernel_rfl) ?_
      (refine cw_rd rfl rfl rfl rfl rfl (fun K hK => ?_); refine op_load1 rfl rfl Try.ag51 (cell_drew (cell_drew (hP.cell (i := 0) rfl))) ?_; refine op_norm rfl ?_; go_wp2_with fail)
      (refine cw_rd rfl rfl rfl rfl rfl (fun K hK => ?_); refine op_load1 rfl rfl Try.ag51 (cell_drew (cell_drew (hP.cell (i := 0) rfl))) ?_; refine op_norm rfl ?_; go_wp2_with fail)
      iterate 2 (refine cw_rd rfl rfl rfl rfl rfl (fun K hK => ?_); go_wp2_with fail)
      (refine cw_rd rfl rfl rfl rfl rfl (fun K hK => ?_); refine op_load1 rfl rfl Try.ag24 (cell_drew (cell_drew (hC.cell (i := 1) rfl))) ?_; refine op_norm rfl ?_; go_wp2_with fail)
      (refine cw_rd rfl rfl rfl rfl rfl (fun K hK => ?_); refine op_loadN (p := ⟨W.heap.size, 0, none⟩) (vs := [.int .i64 sf, .int .i64 st]) rfl rfl Try.ag31 Try.sz31 (blk_cells (show Blk (W.alloc (.cells #[.int .i64 sf, .int .i64 st] 31)).drew.drew W.heap.size 31 [.int .i64 sf, .int .i64 st].toArray from hS)) ?_; refine op_norm rfl ?_; go_wp2_with fail)
      obtain ⟨i31, hi31, hz31, hsz31, hby31⟩ := info_parts Try.in31
      have hzc31 : (Value.agg #[.int .i64 0, .int .i64 0]).cells.size = 2 := rfl
      refine cw_e1 rfl rfl (fun K hK => ?_)
      refine op_buildN (vs := [.int .i64 sf, .int .i64 st]) rfl rfl Try.underlying24 hi31 hz31 hsz31 hzc31 (by simp) (by simp) ?_
      intro vT wT rT fT xT
      refine op_norm rfl ?_
      go_wp2_with fail
      have hE2 : Ext W ((W.alloc (.cells #[.int .i64 sf, .int .i64 st] 31)).drew.drew) := hEa.drew.drew
      have hET := hE2.then_ext xT
      have hPT := h.p.ext hET
      have hCT := h.c.ext hET
      have hRT := h.row.keep hET (fun _ _ h => h)
      refine ⟨?_, ?_⟩
      · (repeat (first | exact fl_nil | refine fl_skip rfl ?_ | (refine fl_take rfl ?_ ?_; (refine yldI_of rfl rfl ?_; first | exact run_ld rfl rfl Try.ag51 (hPT.cell (i := 0) rfl) | exact run_ld rfl rfl Try.ag24 (hCT.cell (i := 1) rfl) |  go_simp))))
      refine cw_e1 rfl rfl (fun K hK => ?_)
      refine op_append_row (v := v) rfl rfl rfl Try.underlying24 hi31 hz31 hsz31 hby31 hzc31 (by omega) (by omega) hRT rT (by simp [Value.oneCell']) (by have hll := hlen.out; simp only [List.length_cons, List.length_nil] at *; omega) ?_
      intro vA wA rA tA nA
      refine op_norm rfl ?_
      go_wp2_with fail
      have hszT := hET.size
      have hPA : Blk wA gP 51 #[.pointer (some ⟨gC, 0, none⟩)] := tA.obj hPT (fun e => by have := h.new _ e; have := h.pB; omega)
      have hCA : Blk wA gC 57 #[.int .i64 fr, v] := tA.obj hCT (fun e => by have := h.new _ e; have := h.cB; omega)
      refine ⟨?_, ?_⟩
      · (repeat (first | exact fl_nil | refine fl_skip rfl ?_ | (refine fl_take rfl ?_ ?_; (refine yldI_of rfl rfl ?_; first | exact run_ld rfl rfl Try.ag51 (hPA.cell (i := 0) rfl) |  go_simp))))
      iterate 2 (refine cw_rd rfl rfl rfl rfl rfl (fun K hK => ?_); go_wp2_with fail)
      refine cw_e1 rfl rfl (fun K hK => ?_)
      refine op_store1 (g := gC) (i := 1) (T := 57) (cs := #[.int .i64 fr, v]) (v := vA) rfl rfl rfl Try.sz24' (row_one rA) hCA (by simp) ?_
      intro wS kS tS zS
      refine op_done rfl ?_
      refine hK _ _ ?_
      clear hK K
      refine ⟨fl_none, ?_⟩
      refine cw_nil ?_
      go_wp2_with fail
      go_end0
      have hsA := tA.size
      have hsS := tS.size
      have nB : ∀ b, rowBlock vA = some b → B ≤ b := fun b hb => by
        rcases nA with nA | nA
        · exact h.new b (by rw [← nA]; exact hb)
        · rw [nA] at hb; injection hb with hb; have := h.size; omega
      refine ⟨rfl, vA, ⟨by have := h.size; omega, tS.obj hPA h.ne, kS, ?_, h.pB, h.cB, h.ne, nB⟩, ?_⟩
      · rw [joinS_out (show ¬ (⟨sf, st⟩ : S31).f0 ≤ (⟨tf, tt⟩ : S31).f1 from by show ¬ sf ≤ tt; omega), List.flatMap_append]
        exact rA.keep tS (fun b hb e => by have := nB b hb; have := h.cB; omega)
      · exact ((Touch.of_ext hET).trans (G := fun b => rowBlock v = some b) tA (fun b _ e => .inr (h.new b e))).trans (G := fun b => b = gC) tS (fun b _ e => .inl e)
end Go.Proofs.Ytioofhmkeajkpaa

/-
  Contract of package limit: start.
-/
namespace Go.Proofs.Ytioofhmkeajkpaa
open Go Go.RowKit PLimitMatchesReference Go.Proofs.YtioofhmkeajkpaaW.PrintWords

attribute [local irreducible] World.cell? World.frozen? isAggB _root_.Go.Program.underlying

/-- The stops behind a day, clipped; those that are not empty. -/
def clipS (fr : Int) (s : S31) : S31 := ⟨max s.f0 (fr + 1), s.f1⟩
def clip (fr : Int) (ss : Stops) : Stops := (ss.map (clipS fr)).filter fun s => decide (s.f0 < s.f1)
theorem clip_snoc (fr : Int) (ss : Stops) (s : S31) : clip fr (ss ++ [s]) = clip fr ss ++ if max s.f0 (fr + 1) < s.f1 then [⟨max s.f0 (fr + 1), s.f1⟩] else [] := by
  unfold clip
  rw [List.map_append, List.filter_append]
  congr 1
  by_cases h : max s.f0 (fr + 1) < s.f1
  · rw [if_pos h]; simp [clipS, h]
  · rw [if_neg h]; simp [clipS, h]
theorem clip_len (fr : Int) (ss : Stops) : (clip fr ss).length ≤ ss.length := by
  unfold clip
  exact Nat.le_trans (List.length_filter_le _ _) (by simp)
theorem clip_mem {fr : Int} {ss : Stops} {s : S31} (h : s ∈ clip fr ss) : ∃ t ∈ ss, s = clipS fr t ∧ s.f0 < s.f1 := by
  unfold clip at h
  rw [List.mem_filter, List.mem_map] at h
  obtain ⟨⟨t, ht, rfl⟩, h2⟩ := h
  exact ⟨t, ht, rfl, by simpa using h2⟩
/-- A clock's stops: the clipped ones, sorted and joined. -/
def ClockOf (fr : Int) (ss cs : Stops) : Prop := ∃ l : Stops, l.Perm (clip fr ss) ∧ l.Pairwise (fun x y => x.f0 ≤ y.f0) ∧ cs = l.foldl joinS []

theorem joins_len_aux : ∀ (ls cs : Stops), (ls.foldl joinS cs).length ≤ cs.length + ls.length
  | [], cs => by simp
  | s :: ls, cs => by
    have h := joins_len_aux ls (joinS cs s)
    have h2 : (joinS cs s).length ≤ cs.length + 1 := by
      rcases List.eq_nil_or_concat cs with rfl | ⟨init, t, rfl⟩
      · simp [joinS]
      · rw [List.concat_eq_append]
        by_cases hle : s.f0 ≤ t.f1
        · rw [joinS_in hle]; simp
        · rw [joinS_out hle]; simp
    rw [List.foldl_cons, List.length_cons]
    omega
theorem joins_len (ls : Stops) : (ls.foldl joinS []).length ≤ ls.length := by
  have := joins_len_aux ls []
  simpa using this
theorem JoinAt.ext {B : Nat} {W W' : World} {gP gC : Nat} {fr : Int} {v : Value} {cs : Stops} (h : JoinAt B W gP gC fr v cs) (hE : Ext W W') : JoinAt B W' gP gC fr v cs :=
  ⟨Nat.le_trans h.size hE.size, h.p.ext hE, h.c.ext hE, h.row.keep hE (fun _ _ h => h), h.pB, h.cB, h.ne, h.new⟩

def JoinRel (w2 : World) (gP gC : Nat) (fr : Int) (ls : Stops) (u : Value) (W : World) : Prop :=
  ∃ (k : Nat) (vj : Value), u = .int .i64 k ∧ k ≤ ls.length ∧ JoinAt w2.heap.size W gP gC fr vj ((ls.take k).foldl joinS []) ∧ Touch (fun b => b = gC ∨ w2.heap.size ≤ b) w2 W
def StartPost (l : Lim) (w : World) (e : Ending) (w' : World) : Prop :=
  ∃ g cs v, e = .returned (.pointer (some ⟨g, 0, none⟩)) ∧ ClockOf l.fr l.stops cs ∧ Blk w' g 57 #[.int .i64 l.fr, v] ∧ RStops w' v cs ∧ Ext w w'

set_option maxRecDepth 100000 in
set_option maxHeartbeats 4000000 in
theorem start_contract {w : World} {l : Lim} {v : Value} (h : LimAt w l v) (h60 : l.stops.length ≤ 60) (hfr0 : 0 ≤ l.fr) (hfr1 : l.fr ≤ 1000000) (hok : ∀ s ∈ l.stops, 0 ≤ s.f0 ∧ s.f0 ≤ s.f1 ∧ s.f1 ≤ 1000000) :
    Calls Try.prog 29 #[.agg (limCells l v).toArray] w fun e w' => StartPost l w e w' := by
  obtain ⟨hst, hfew, hid⟩ := h
  clear hfew hid
  have hok' := Lib.hid hok
  clear hok
  have hone := hst.one
  have hE0 : Ext w (((w.alloc (.cells #[.string l.id, .int .i64 l.n, .int .i64 l.unit, .int .i64 l.fr, v] 26)).alloc (.cells #[.int .i64 l.fr, .slice none 0 0] 57)).alloc (.cells #[.pointer (some ⟨w.heap.size + 1, 0, none⟩)] 51)) := Touch.alloc (Touch.alloc (Ext.alloc w _) _) _
  unfold limCells
  go_enter Try.func29, Try.ntmps29
  go_wp2_with (first
    | ((with_reducible change wpList _ _ _ (Oper.mk _ (Op.call (Call.mk (Callee.builtin Builtin.len) _ _)) _ _ _ _ :: _) _ _); refine BigFrame.wpList_want rfl (fun K hK => ?_); refine op_len_rl rfl rfl Try.underlying24 (hst.ext hE0) ?_; refine hK _ _ ?_; clear hK K))
  have b0 : Blk (((w.alloc (.cells #[.string l.id, .int .i64 l.n, .int .i64 l.unit, .int .i64 l.fr, v] 26)).alloc (.cells #[.int .i64 l.fr, .slice none 0 0] 57)).alloc (.cells #[.pointer (some ⟨w.heap.size + 1, 0, none⟩)] 51)) w.heap.size 26 #[.string l.id, .int .i64 l.n, .int .i64 l.unit, .int .i64 l.fr, v] := ((Blk.alloc' w _ _).alloc _).alloc _
  have bC : Blk (((w.alloc (.cells #[.string l.id, .int .i64 l.n, .int .i64 l.unit, .int .i64 l.fr, v] 26)).alloc (.cells #[.int .i64 l.fr, .slice none 0 0] 57)).alloc (.cells #[.pointer (some ⟨w.heap.size + 1, 0, none⟩)] 51)) (w.heap.size + 1) 57 #[.int .i64 l.fr, .slice none 0 0] := by
    have := (Blk.alloc' (w.alloc (.cells #[.string l.id, .int .i64 l.n, .int .i64 l.unit, .int .i64 l.fr, v] 26)) #[.int .i64 l.fr, .slice none 0 0] 57).alloc (.cells #[.pointer (some ⟨w.heap.size + 1, 0, none⟩)] 51)
    rw [alloc_size] at this
    exact this
  have bP : Blk (((w.alloc (.cells #[.string l.id, .int .i64 l.n, .int .i64 l.unit, .int .i64 l.fr, v] 26)).alloc (.cells #[.int .i64 l.fr, .slice none 0 0] 57)).alloc (.cells #[.pointer (some ⟨w.heap.size + 1, 0, none⟩)] 51)) (w.heap.size + 1 + 1) 51 #[.pointer (some ⟨w.heap.size + 1, 0, none⟩)] := by
    have := Blk.alloc' ((w.alloc (.cells #[.string l.id, .int .i64 l.n, .int .i64 l.unit, .int .i64 l.fr, v] 26)).alloc (.cells #[.int .i64 l.fr, .slice none 0 0] 57)) #[.pointer (some ⟨w.heap.size + 1, 0, none⟩)] 51
    rw [alloc_size, alloc_size] at this
    exact this
  have hsz0 : (((w.alloc (.cells #[.string l.id, .int .i64 l.n, .int .i64 l.unit, .int .i64 l.fr, v] 26)).alloc (.cells #[.int .i64 l.fr, .slice none 0 0] 57)).alloc (.cells #[.pointer (some ⟨w.heap.size + 1, 0, none⟩)] 51)).heap.size = w.heap.size + 1 + 1 + 1 := by simp only [alloc_size]
  generalize ((w.alloc (.cells #[.string l.id, .int .i64 l.n, .int .i64 l.unit, .int .i64 l.fr, v] 26)).alloc (.cells #[.int .i64 l.fr, .slice none 0 0] 57)).alloc (.cells #[.pointer (some ⟨w.heap.size + 1, 0, none⟩)] 51) = W0 at hE0 b0 bC bP hsz0 ⊢
  have hsz0' := Lib.hid hsz0
  clear hsz0
  go_loopw [4, 6, 17] (fun r _ u W => ∃ k : Nat, u = .int .i64 k ∧ k ≤ l.stops.length ∧ OwnR W0 W 31 2 r ((clip l.fr (l.stops.take k)).flatMap stopC)) (fun _ _ u _ => l.stops.length - (intOf u).toNat)
  case atStart => exact ⟨0, rfl, Nat.zero_le _, ⟨Row.nil _ _ _, fun b hb => by simp [rowBlock] at hb, Touch.refl _ _⟩⟩
  case round =>
    obtain ⟨k, rfl, hk, hr⟩ := hrel
    have hvW := hst.ext (hE0.then_ext hr.ext)
    have b0W := b0.ext hr.ext
    by_cases hlt : k < l.stops.length
    · obtain ⟨⟨sf, st⟩, hs⟩ : ∃ s, l.stops[k] = s := ⟨_, rfl⟩
      have hsok := hok'.out _ (List.getElem_mem hlt)
      rw [hs] at hsok
      obtain ⟨hs0, hs1, hs2⟩ := hsok
      dsimp only at hs0 hs1 hs2
      have htk := Lib.hid (show l.stops.take (k + 1) = l.stops.take k ++ [⟨sf, st⟩] from by rw [List.take_succ_eq_append_getElem hlt, hs])
      have hcs := Lib.hid (clip_snoc l.fr (l.stops.take k) ⟨sf, st⟩)
      have hln := clip_len l.fr (l.stops.take k)
      have hln2 := Lib.hid (flatMap_len (enc := stopC) (k := 2) (fun _ => rfl) (clip l.fr (l.stops.take k)))
      have hl3 : (l.stops.take k).length ≤ 60 := by rw [List.length_take]; omega
      have h1 := Lib.hid (show ∀ u ∈ [Value.int .i64 sf, .int .i64 st], u.oneCell' = true from by simp [Value.oneCell'])
      obtain ⟨m, hm⟩ : ∃ m, max sf (l.fr + 1) = m := ⟨_, rfl⟩
      have hm0 : 0 ≤ m := by omega
      have hm1 : m ≤ 1000001 := by omega
      obtain ⟨i31, hi31, hz31, hsz31, hby31⟩ := info_parts Try.in31
      have hzc31 : (Value.agg #[.int .i64 0, .int .i64 0]).cells.size = 2 := rfl
      by_cases hlt2 : m < st
      · go_wp2_with (first
          | ((with_reducible change wpList _ _ _ (Oper.mk _ (Op.indexAddr _ _ _) _ _ _ _ :: _) _ _); refine BigFrame.wpList_want rfl (fun K hK => ?_); refine op_index_rl (i := k) rfl rfl rfl Try.underlying24 Try.sz31 hvW hlt ?_; intro pp hpp hbb; refine hK _ _ ?_; clear hK K; rw [hs] at hpp; replace hpp := Lib.hid hpp)
          | ((with_reducible change wpList _ _ _ (Oper.mk _ (Op.load _ _) _ _ _ _ :: _) _ _); refine BigFrame.wpList_want rfl (fun K hK => ?_); refine op_loadN (p := pp) (vs := [.int .i64 sf, .int .i64 st]) rfl rfl Try.ag31 Try.sz31 hpp.out ?_; refine hK _ _ ?_; clear hK K)
          | ((with_reducible change wpList _ _ _ (Oper.mk _ (Op.store _ _ _) _ _ _ _ :: _) _ _); refine BigFrame.wpList_want rfl (fun K hK => ?_); refine op_storeN (g := wr.heap.size) (i := 0) (T := 31) (vs := [.int .i64 sf, .int .i64 st]) rfl rfl rfl Try.sz31 h1.out (obj_new _ _) (by simp) ?_; intro w4 hb4 ht4 hz4; refine hK _ _ ?_; clear hK K)
          | ((with_reducible change wpList _ _ _ (Oper.mk _ (Op.load _ _) _ _ _ _ :: _) _ _); refine BigFrame.wpList_want rfl (fun K hK => ?_); refine op_load1 rfl rfl Try.ag3 ((hb4.storeAll rfl).cell (i := 0) rfl) ?_; refine hK _ _ ?_; clear hK K)
          | ((with_reducible change wpList _ _ _ (Oper.mk _ (Op.load _ _) _ _ _ _ :: _) _ _); refine BigFrame.wpList_want rfl (fun K hK => ?_); refine op_load1 rfl rfl Try.ag3 ((b0W.ext (Ext.new ht4)).cell (i := 3) rfl) ?_; refine hK _ _ ?_; clear hK K)
          | ((with_reducible change wpList _ _ _ (Oper.mk _ (Op.store _ _ _) _ _ _ _ :: _) _ _); refine BigFrame.wpList_want rfl (fun K hK => ?_); refine op_store1 (g := wr.heap.size) (i := 0) (T := 31) (cs := #[.int .i64 sf, .int .i64 st]) (v := .int .i64 m) rfl rfl (by rw [← hm]; rfl) Try.szE3 rfl (hb4.storeAll rfl) (by simp) ?_; intro w5 k5 t5 z5; refine hK _ _ ?_; clear hK K)
          | ((with_reducible change wpList _ _ _ (Oper.mk _ (Op.load _ _) _ _ _ _ :: _) _ _); refine BigFrame.wpList_want rfl (fun K hK => ?_); refine op_load1 rfl rfl Try.ag3 (k5.cell (i := 0) rfl) ?_; refine hK _ _ ?_; clear hK K)
          | ((with_reducible change wpList _ _ _ (Oper.mk _ (Op.load _ _) _ _ _ _ :: _) _ _); refine BigFrame.wpList_want rfl (fun K hK => ?_); refine op_load1 rfl rfl Try.ag3 (k5.cell (i := 1) rfl) ?_; refine hK _ _ ?_; clear hK K)
          | ((with_reducible change wpList _ _ _ (Oper.mk _ (Op.load _ _) _ _ _ _ :: _) _ _); refine BigFrame.wpList_want rfl (fun K hK => ?_); refine op_loadN (p := ⟨wr.heap.size, 0, none⟩) (vs := [.int .i64 m, .int .i64 st]) rfl rfl Try.ag31 Try.sz31 (blk_cells (show Blk w5 wr.heap.size 31 [.int .i64 m, .int .i64 st].toArray from k5)) ?_; refine hK _ _ ?_; clear hK K)
          | ((with_reducible change wpList _ _ _ (Oper.mk _ (Op.buildSlice _ _ _) _ _ _ _ :: _) _ _); refine BigFrame.wpList_want rfl (fun K hK => ?_); refine op_buildN (vs := [.int .i64 m, .int .i64 st]) rfl rfl Try.underlying24 hi31 hz31 hsz31 hzc31 (by simp) (by simp) ?_; intro vT wT rT fT xT; refine hK _ _ ?_; clear hK K)
          | ((with_reducible change wpList _ _ _ (Oper.mk _ (Op.call (Call.mk (Callee.builtin Builtin.append) _ _)) _ _ _ _ :: _) _ _); refine BigFrame.wpList_want rfl (fun K hK => ?_); refine op_append_row (v := u4) rfl rfl rfl Try.underlying24 hi31 hz31 hsz31 hby31 hzc31 (by omega) (by omega) ((hr.row.keep (Ext.new (ht4.trans t5 (fun _ _ h => h))) (fun _ _ h => h)).keep xT (fun _ _ h => h)) rT (by simp [Value.oneCell']) (by have := hln2.out; simp only [List.length_cons, List.length_nil] at *; omega) ?_; intro vA wA rA tA nA; refine hK _ _ ?_; clear hK K))
        have hET : Ext wr wT := Touch.then_ext (Ext.new (ht4.trans t5 (fun _ _ h => h))) xT
        have hsz := hET.size
        have hszr := hr.ext.size
        refine ⟨⟨k + 1, by go_num, hlt, ⟨?_, ?_, ?_⟩⟩, by simp [intOf]; omega⟩
        · rw [htk.out, hcs.out, if_pos (by show max sf (l.fr + 1) < st; omega), List.flatMap_append]
          rw [show (max sf (l.fr + 1)) = m from hm]
          exact rA
        · intro b hb
          rcases nA with nA | nA
          · exact hr.new b (by rw [← nA]; exact hb)
          · rw [nA] at hb; injection hb with hb; omega
        · exact (hr.ext.then_ext hET).trans tA fun b hb e => by have := hr.new b e; omega
      · go_wp2_with (first
          | ((with_reducible change wpList _ _ _ (Oper.mk _ (Op.indexAddr _ _ _) _ _ _ _ :: _) _ _); refine BigFrame.wpList_want rfl (fun K hK => ?_); refine op_index_rl (i := k) rfl rfl rfl Try.underlying24 Try.sz31 hvW hlt ?_; intro pp hpp hbb; refine hK _ _ ?_; clear hK K; rw [hs] at hpp; replace hpp := Lib.hid hpp)
          | ((with_reducible change wpList _ _ _ (Oper.mk _ (Op.load _ _) _ _ _ _ :: _) _ _); refine BigFrame.wpList_want rfl (fun K hK => ?_); refine op_loadN (p := pp) (vs := [.int .i64 sf, .int .i64 st]) rfl rfl Try.ag31 Try.sz31 hpp.out ?_; refine hK _ _ ?_; clear hK K)
          | ((with_reducible change wpList _ _ _ (Oper.mk _ (Op.store _ _ _) _ _ _ _ :: _) _ _); refine BigFrame.wpList_want rfl (fun K hK => ?_); refine op_storeN (g := wr.heap.size) (i := 0) (T := 31) (vs := [.int .i64 sf, .int .i64 st]) rfl rfl rfl Try.sz31 h1.out (obj_new _ _) (by simp) ?_; intro w4 hb4 ht4 hz4; refine hK _ _ ?_; clear hK K)
          | ((with_reducible change wpList _ _ _ (Oper.mk _ (Op.load _ _) _ _ _ _ :: _) _ _); refine BigFrame.wpList_want rfl (fun K hK => ?_); refine op_load1 rfl rfl Try.ag3 ((hb4.storeAll rfl).cell (i := 0) rfl) ?_; refine hK _ _ ?_; clear hK K)
          | ((with_reducible change wpList _ _ _ (Oper.mk _ (Op.load _ _) _ _ _ _ :: _) _ _); refine BigFrame.wpList_want rfl (fun K hK => ?_); refine op_load1 rfl rfl Try.ag3 ((b0W.ext (Ext.new ht4)).cell (i := 3) rfl) ?_; refine hK _ _ ?_; clear hK K)
          | ((with_reducible change wpList _ _ _ (Oper.mk _ (Op.store _ _ _) _ _ _ _ :: _) _ _); refine BigFrame.wpList_want rfl (fun K hK => ?_); refine op_store1 (g := wr.heap.size) (i := 0) (T := 31) (cs := #[.int .i64 sf, .int .i64 st]) (v := .int .i64 m) rfl rfl (by rw [← hm]; rfl) Try.szE3 rfl (hb4.storeAll rfl) (by simp) ?_; intro w5 k5 t5 z5; refine hK _ _ ?_; clear hK K)
          | ((with_reducible change wpList _ _ _ (Oper.mk _ (Op.load _ _) _ _ _ _ :: _) _ _); refine BigFrame.wpList_want rfl (fun K hK => ?_); refine op_load1 rfl rfl Try.ag3 (k5.cell (i := 0) rfl) ?_; refine hK _ _ ?_; clear hK K)
          | ((with_reducible change wpList _ _ _ (Oper.mk _ (Op.load _ _) _ _ _ _ :: _) _ _); refine BigFrame.wpList_want rfl (fun K hK => ?_); refine op_load1 rfl rfl Try.ag3 (k5.cell (i := 1) rfl) ?_; refine hK _ _ ?_; clear hK K))
        have hE5 : Ext wr w5 := (Ext.new (ht4.trans t5 (fun _ _ h => h)))
        refine ⟨⟨k + 1, by go_num, hlt, ?_⟩, by simp [intOf]; omega⟩
        rw [htk.out, hcs.out, if_neg (by show ¬ max sf (l.fr + 1) < st; omega), List.append_nil]
        exact hr.then hE5
    · have e : k = l.stops.length := by omega
      have htk := Lib.hid (List.take_length (l := l.stops))
      subst e
      rw [htk.out] at hr
      have hmem : ∀ s ∈ clip l.fr l.stops, l.fr < s.f0 ∧ s.f0 ≤ 1000001 ∧ s.f0 < s.f1 ∧ s.f1 ≤ 1000000 := fun s hs => by
        obtain ⟨t, ht, rfl, h2⟩ := clip_mem hs
        have := hok'.out t ht
        unfold clipS at *
        dsimp only at *
        omega
      have hcl := clip_len l.fr l.stops
      obtain ⟨bl, hbl⟩ : ∃ bl : List BStop, bl.map (·.1) = clip l.fr l.stops :=
        ⟨(clip l.fr l.stops).attach.map fun s => ⟨s.1, by have := hmem s.1 s.2; omega⟩, by simp⟩
      have hfm : (clip l.fr l.stops).flatMap stopC = bl.flatMap BStop.cells := by rw [← hbl, List.flatMap_map]; rfl
      have hbl' := Lib.hid hbl
      have hmem' := Lib.hid hmem
      have hblen : bl.length ≤ 60 := by
        have := congrArg List.length hbl
        simp at this
        omega
      clear hbl hmem
      have hrow := hr.row
      rw [hfm] at hrow
      have hsort := Lib.hid (sort_contract bl hrow (by omega))
      clear hrow hfm
      ((first | go_at_call 52 | (go_wp2_with fail; go_at_call 52)); refine (hsort.out).mono ?_; rintro _ w2 ⟨rfl, sl, hperm, hpw, hrs, ht2⟩)
      have hls : ∀ {x : List BStop}, x.flatMap BStop.cells = (x.map fun s => s.1).flatMap stopC := fun {x} => by rw [List.flatMap_map]; rfl
      rw [hls] at hrs
      obtain ⟨ls, hls2⟩ : ∃ ls : Stops, (sl.map fun s => s.1) = ls := ⟨_, rfl⟩
      rw [hls2] at hrs
      have hlsP := Lib.hid (show ls.Perm (clip l.fr l.stops) from by rw [← hls2, ← hbl'.out]; exact hperm.map _)
      have hlsS := Lib.hid (show ls.Pairwise (fun x y => x.f0 ≤ y.f0) from by
        rw [← hls2, List.pairwise_map]
        exact hpw.imp fun {a b} h => by rw [BStop.lt] at h; simpa using h)
      have hlsn : ls.length ≤ 60 := by have := hlsP.out.length_eq; omega
      clear hls2 hls hperm hpw hsort
      have hE2 : Ext W0 w2 := hr.ext.trans ht2 fun b hb e => by have := hr.new b e; omega
      have hs0 := Lib.hid (show w.heap.size + 1 + 1 < W0.heap.size from by have := hsz0'.out; omega)
      have hJ0 : JoinAt w2.heap.size w2 (w.heap.size + 1 + 1) (w.heap.size + 1) l.fr (.slice none 0 0) [] :=
        ⟨Nat.le_refl _, bP.ext hE2, bC.ext hE2, Row.nil _ _ _, by have := hs0.out; have := hE2.size; omega, by have := hs0.out; have := hE2.size; omega, by omega, fun b hb => by simp [rowBlock] at hb⟩
      have hln := Lib.hid (show (ls.flatMap stopC).length = ls.length * 2 from flatMap_len (enc := stopC) (k := 2) (fun _ => rfl) ls)
      have hEw2 := hE0.then_ext hE2
      have hnu := Lib.hid hr.new
      clear hr ht2 hE2
      go_wp2_with (first
        | ((with_reducible change wpList _ _ _ (Oper.mk _ (Op.call (Call.mk (Callee.builtin Builtin.len) _ _)) _ _ _ _ :: _) _ _); refine BigFrame.wpList_want rfl (fun K hK => ?_); refine op_len_row (n := ls.length) rfl rfl Try.underlying24 hrs (by omega) hln.out ?_; refine hK _ _ ?_; clear hK K))
      go_loopw [9, 43] (fun _ u W => JoinRel w2 (w.heap.size + 1 + 1) (w.heap.size + 1) l.fr ls u W) (fun _ u _ => ls.length - (intOf u).toNat)
      case atStart => exact ⟨0, _, rfl, Nat.zero_le _, hJ0, Touch.refl _ _⟩
      case round =>
        obtain ⟨k, vj, rfl, hk, hJ, hT⟩ := hrel
        by_cases hlt : k < ls.length
        · obtain ⟨⟨sf, st⟩, hs⟩ : ∃ s, ls[k] = s := ⟨_, rfl⟩
          have hrW := hrs.keep hT (fun b hb e => by
            have h1 := hrs.lt hb
            have h2 := hnu.out b hb
            have := hs0.out
            omega)
          obtain ⟨ge, ke, he⟩ := hrW.elem (i := k) (by rw [hln.out]; exact Nat.mul_le_mul_right 2 hlt) (by omega)
          have he' := Lib.hid he
          have hce : ∀ j u, [Value.int .i64 sf, .int .i64 st][j]? = some u → wr.cell? ((⟨ge, ke, none⟩ : Addr).add j) = some u := fun j u hu => by
            have hadd : (⟨ge, ke, none⟩ : Addr).add j = ⟨ge, ke + j, none⟩ := by unfold Addr.add; split <;> simp_all
            rw [hadd]
            exact he.cell hrW (flatMap_get (enc := stopC) (fun _ => rfl) ls k j ⟨sf, st⟩ u (by rw [List.getElem?_eq_getElem hlt, hs]) hu)
          have hce' := Lib.hid hce
          clear he hce
          have h1 := Lib.hid (show ∀ u ∈ [Value.int .i64 sf, .int .i64 st], u.oneCell' = true from by simp [Value.oneCell'])
          have htk := Lib.hid (show (ls.take (k + 1)).foldl joinS [] = joinS ((ls.take k).foldl joinS []) ⟨sf, st⟩ from by
            rw [List.take_succ_eq_append_getElem hlt, hs, List.foldl_append]; rfl)
          have hjl := joins_len (ls.take k)
          have hjl2 : (ls.take k).length ≤ 60 := by rw [List.length_take]; omega
          ((first | go_at_call 54 | (go_wp2_with (first | ((with_reducible change wpList _ _ _ (Oper.mk _ (Op.indexAddr _ _ _) _ _ _ _ :: _) _ _); refine BigFrame.wpList_want rfl (fun K hK => ?_); refine op_elem rfl rfl rfl Try.underlying24 Try.sz31 he'.out ?_; refine hK _ _ ?_; clear hK K) | ((with_reducible change wpList _ _ _ (Oper.mk _ (Op.load _ _) _ _ _ _ :: _) _ _); refine BigFrame.wpList_want rfl (fun K hK => ?_); refine op_loadN (p := ⟨ge, ke, none⟩) (vs := [.int .i64 sf, .int .i64 st]) rfl rfl Try.ag31 Try.sz31 hce'.out ?_; refine hK _ _ ?_; clear hK K) | ((with_reducible change wpList _ _ _ (Oper.mk _ (Op.store _ _ _) _ _ _ _ :: _) _ _); refine BigFrame.wpList_want rfl (fun K hK => ?_); refine op_storeN (g := wr.heap.size) (i := 0) (T := 31) (vs := [.int .i64 sf, .int .i64 st]) rfl rfl rfl Try.sz31 h1.out (obj_new _ _) (by simp) ?_; intro w4 hb4 ht4 hz4; refine hK _ _ ?_; clear hK K) | ((with_reducible change wpList _ _ _ (Oper.mk _ (Op.load _ _) _ _ _ _ :: _) _ _); refine BigFrame.wpList_want rfl (fun K hK => ?_); refine op_loadN (p := ⟨wr.heap.size, 0, none⟩) (vs := [.int .i64 sf, .int .i64 st]) rfl rfl Try.ag31 Try.sz31 (blk_cells (hb4.storeAll rfl)) ?_; refine hK _ _ ?_; clear hK K)); go_at_call 54)); refine (join_contract (hJ.ext (Ext.new ht4)) (by omega) ⟨sf, st⟩).mono ?_; rintro _ w6 ⟨rfl, vj', hJ6, ht6⟩)
          go_wp2_with fail
          have hT6 : Touch (fun b => b = w.heap.size + 1 ∨ w2.heap.size ≤ b) w2 w6 := (hT.then_ext (Ext.new ht4)).trans ht6 fun _ _ h => h
          exact ⟨⟨k + 1, vj', by go_num, hlt, by rw [htk.out]; exact hJ6, hT6⟩, by simp [intOf]; omega⟩
        · have e : k = ls.length := by omega
          subst e
          have htk := Lib.hid (List.take_length (l := ls))
          go_wp2_with (first
            | ((with_reducible change wpList _ _ _ (Oper.mk _ (Op.load _ _) _ _ _ _ :: _) _ _); refine BigFrame.wpList_want rfl (fun K hK => ?_); refine op_load1 rfl rfl Try.ag51 (hJ.p.cell (i := 0) rfl) ?_; refine hK _ _ ?_; clear hK K))
          go_ret
          refine ⟨_, _, vj, rfl, ⟨ls, hlsP.out, hlsS.out, rfl⟩, hJ.c, ?_, ?_⟩
          · have := hJ.row
            rw [htk.out] at this
            exact RL.of_row this (by omega) rfl (fun _ => rfl)
          · exact hEw2.trans hT fun b hb e => by have := hEw2.size; omega
end Go.Proofs.Ytioofhmkeajkpaa
