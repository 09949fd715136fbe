/-
  Contract of the reference: New.
-/
import Derived.Test.YtcipfpebjeakfaaRefJ
namespace Go.Proofs.Ytcipfpebjeakfaa
open Go Go.RowKit Go.WideMaps

theorem Try.sz68 : (Try.prog.info? 68).map (·.size) = some 1 := by kernel_rfl
theorem Try.sz69 : (Try.prog.info? 69).map (·.size) = some 1 := by kernel_rfl
theorem Try.sz67 : (Try.prog.info? 67).map (·.size) = some 1 := by kernel_rfl
def RNewPost (w : World) (n : Nat) (e : Ending) (w' : World) : Prop :=
  ∃ q R, e = .returned (.tuple #[ptr q, .int .i64 0]) ∧ RefAt w' q R (NetS.fresh n) ∧ Ext w w' ∧ ∀ b, b < w.heap.size → R.tag b = .oth

theorem RHalf.start {w W : World} {q n : Nat} (hb : Blk W q 71 #[vnil, vnil, vnil, vnil]) (hE : Ext w W) (hq : w.heap.size ≤ q) : RHalf w W q ⟨fun _ => vnil, fun b => if b = q then .net else .oth⟩ n 0 0 0 where
  ext := hE
  fresh := fun b hb' => by have := obj_lt hb; exact if_neg (by omega)
  old := fun b hb' => if_neg (by omega)
  tnet := if_pos rfl
  net := hb
  nil := fun _ _ => rfl
  row := fun r hr => by
    cases r with
    | nodes => exact ⟨[], Row.nil _ _ _, by simp, fun i j hi => by omega⟩
    | queues => exact ⟨[], Row.nil _ _ _, by simp, fun i j hi => by omega⟩
    | off => exact ⟨[], Row.nil _ _ _, by simp, fun i j hi => by omega⟩
    | heard k => exact absurd hr (Nat.not_lt_zero _)
    | known k => exact absurd hr (Nat.not_lt_zero _)
    | got k => exact absurd hr (Nat.not_lt_zero _)
    | qrow k => exact absurd hr (Nat.not_lt_zero _)
    | orow k => exact absurd hr (Nat.not_lt_zero _)
    | _ => exact trivial
  tag := fun r _ b hb => by simp [rowBlock] at hb

/-- One element more. -/
theorem op_append_rowN {o : Oper} {a : Act} {w : World} {K : Act → World → Prop} {Q : Exit → Act → World → Prop} {x y : Operand} {t E : TypeId} {z v sv : Value} {size bytes n : Nat} {f : Nat → Nat → Value} {cs : List Value}
    (ho : o.op = .call { callee := .builtin .append, args := #[x, y], argTypes := #[t, t] }) (hx : a.eval x = v) (hy : a.eval y = sv) (ht : Try.prog.underlying t = some (.slice E))
    (hi : (Try.prog.info? E).map (fun i => (i.zero, i.size, i.bytes)) = some (some z, size, bytes)) (hzs : z.cells.size = size) (hsz : 0 < size) (hs4 : size ≤ 4) (hb : bytes ≤ 1000) (hn : n ≤ 8)
    (hv : RowN w E size v n f) (hs : Row w E size sv cs) (hl : cs.length = size) (h1 : ∀ u ∈ cs, u.oneCell' = true)
    (h : ∀ v' w', RowN w' E size v' (n + 1) (fun i j => if i = n then cs.getD j undef else f i j) → Touch (fun b => rowBlock v = some b) w w' →
      (rowBlock v' = rowBlock v ∨ ∃ g, rowBlock v' = some g ∧ w.heap.size ≤ g) → K (a.put o.dst v') w') : o.wp Try.prog a w K Q := by
  obtain ⟨i0, hi0, hz0, hz1, hz2⟩ := info_parts hi
  obtain ⟨A, m, c, hsv, hm, hnews, hA⟩ := hs.news
  obtain ⟨xs, hr, hxl, hf⟩ := hv
  have hx4 : xs.length ≤ 32 := by rw [hxl]; exact Nat.mul_le_mul hn hs4
  refine op_append ho hx hy ht hi0 hz0 hz1 hz2 hzs hsz hr hsv hm hnews hA h1 (Nat.le_trans (Nat.mul_le_mul (show xs.length + cs.length ≤ 36 from by omega) hb) (by omega)) (by unfold maxLen; omega) ?_
  intro v' w' hr' ht' hb'
  refine h v' w' ⟨xs ++ cs, hr', by rw [List.length_append, hxl, hl, Nat.add_mul, Nat.one_mul], fun i j hi hj => ?_⟩ ht' ?_
  · dsimp only
    by_cases e : i = n
    · subst e
      rw [if_pos rfl, List.getElem?_append_right (by rw [hxl]; omega), hxl, show i * size + j - i * size = j from by omega]
      have hj' : j < cs.length := by omega
      simp [List.getD, hj']
    · have hi' : i < n := by omega
      have hmul : (i + 1) * size ≤ n * size := Nat.mul_le_mul_right _ hi'
      rw [Nat.add_mul] at hmul
      rw [if_neg e, List.getElem?_append_left (by rw [hxl]; omega)]
      exact hf i j hi' hj
  · rcases hb' with ⟨h1, _⟩ | ⟨h1, _⟩
    · exact .inl h1
    · exact .inr ⟨_, h1, Nat.le_refl _⟩
theorem RowN.lt {w : World} {E size n : Nat} {v : Value} {f : Nat → Nat → Value} (h : RowN w E size v n f) {b : Nat} (hb : rowBlock v = some b) : b < w.heap.size := by
  obtain ⟨xs, hx, _⟩ := h
  exact hx.lt hb
/-- A slice of one element of four cells. -/
theorem op_build4 {P : Program} {o : Oper} {a : Act} {w : World} {K : Act → World → Prop} {Q : Exit → Act → World → Prop} {t E : TypeId} {i : TypeInfo} {z : Value} {x : Operand} {a1 a2 a3 a4 : Value} (ho : o.op = .buildSlice t 1 #[(0, x)]) (hx : a.eval x = .agg #[a1, a2, a3, a4])
    (ht : P.underlying t = some (.slice E)) (hi : P.info? E = some i) (hz : i.zero = some z) (hs : i.size = 4) (hzc : z.cells.size = 4)
    (h : ∀ v' w', Row w' E 4 v' [a1, a2, a3, a4] → (∀ b, rowBlock v' = some b → w.heap.size ≤ b) → Ext w w' → K (a.put o.dst v') w') : o.wp P a w K Q := by
  have hb : Blk (w.alloc (.cells #[a1, a2, a3, a4] E)) w.heap.size E #[a1, a2, a3, a4] := obj_new w _
  refine op_run (Instr.buildSlice t 1 #[(0, .agg #[a1, a2, a3, a4])]) (.slice (some ⟨w.heap.size, 0, none⟩) 1 1) (w.alloc (.cells #[a1, a2, a3, a4] E)) ?_ ?_
    (h _ _ ⟨_, _, _, rfl, by simp, Nat.le_refl _, by unfold maxLen; omega, (fun e => by cases e), fun _ => ⟨_, 0, _, rfl, hb, by simp, fun j u hu => by simpa using hu⟩⟩ (fun b hb => by simp [rowBlock] at hb; omega) (Ext.alloc w _))
  · rw [execOp_buildSlice ho, ← hx]; simp
  · have e3 : Array.range 4 = #[0, 1, 2, 3] := rfl
    have hc3 : (Value.agg #[a1, a2, a3, a4]).cells = #[a1, a2, a3, a4] := rfl
    simp [Instr.buildSlice, run_underlying ht, sizeOf, typeInfo, hi, hs, Instr.fill, newRow, zeroValue, hz, hc3, e3]

attribute [local irreducible] World.cell? World.frozen? isAggB _root_.Go.Program.underlying

set_option maxRecDepth 100000 in
set_option maxHeartbeats 4000000 in
theorem rnew_bad {w : World} (n : Int) (hlo : -9223372036854775808 ≤ n) (hhi : n ≤ 9223372036854775807) (h : n < 1 ∨ 8 < n) :
    Calls Try.prog 12 #[.int .i64 n] w fun e w' => e = .returned (.tuple #[.pointer none, .int .i64 1]) ∧ w = w' := by
  by_cases h1 : n < 1
  · go_enter Try.func12, Try.ntmps12
    go_wp2_with fail
    go_ret2
    exact ⟨rfl, rfl⟩
  · have h2 : 8 < n := by omega
    go_enter Try.func12, Try.ntmps12
    go_wp2_with fail
    go_ret2
    exact ⟨rfl, rfl⟩

set_option maxRecDepth 100000 in
set_option maxHeartbeats 4000000 in
theorem rnew_good {w : World} (n : Nat) (h1 : 1 ≤ n) (h8 : n ≤ 8) :
    Calls Try.prog 12 #[.int .i64 n] w fun e w' => RNewPost w n e w' := by
  have h8' : (n : Int) ≤ 8 := by omega
  have h1' : 1 ≤ (n : Int) := by omega
  go_enter Try.func12, Try.ntmps12
  go_wp2_with fail
  go_loopw [5] (fun u W => ∃ k : Nat, u = .int .i64 k ∧ k ≤ n ∧ ∃ R, RHalf w W w.heap.size R n k k k) (fun u _ => n - (intOf u).toNat)
  case atStart => exact ⟨0, rfl, Nat.zero_le _, _, RHalf.start (obj_new w _) (Ext.alloc w _) (Nat.le_refl _)⟩
  case round =>
    obtain ⟨k, rfl, hk, R, hr⟩ := hrel
    by_cases hlt : k < n
    · have f0 := Lib.hid (hr.net.cell (i := 0) rfl)
      have rN : RowN wr 74 4 (R.val .nodes) k (nodeF R) := hr.row .nodes trivial
      go_upto_region 7 with fail
      go_cut [] from 14 to 56 (fun W => ∃ R', RHalf w W w.heap.size R' n (k + 1) k k)
      case first =>
        refine wp_region_rt (by kernel_rfl) [0, 0, 2, 6, 14, 0, 32, 0, 128, 0, 512, 2016, 4064, 8190, 16383, 32767, 65535] (.rd 0 (.rd 1 (.rd 2 (.rd 3 (.rd 4 (.rd 5 (.rd 7 (.rd 9 (.e3 6 [2, 3, 4] (.e2 8 [2, 3, 4] (.e1 10 [2, 3, 4] (.rd 11 (.e1 12 [2, 3, 4] (.e1 13 [] (.rd 14 (.rd 15 (.e1 16 [] (.nil)))))))) 10 [2, 3, 4] (.e1 8 [2, 3, 4] (.rd 11 (.e1 12 [2, 3, 4] (.e1 13 [] (.rd 14 (.rd 15 (.e1 16 [] (.nil))))))))) 8 [2, 3, 4] (.e2 6 [2, 3, 4] (.e1 10 [2, 3, 4] (.rd 11 (.e1 12 [2, 3, 4] (.e1 13 [] (.rd 14 (.rd 15 (.e1 16 [] (.nil)))))))) 10 [2, 3, 4] (.e1 6 [2, 3, 4] (.rd 11 (.e1 12 [2, 3, 4] (.e1 13 [] (.rd 14 (.rd 15 (.e1 16 [] (.nil))))))))) 10 [2, 3, 4] (.e2 6 [2, 3, 4] (.e1 8 [2, 3, 4] (.rd 11 (.e1 12 [2, 3, 4] (.e1 13 [] (.rd 14 (.rd 15 (.e1 16 [] (.nil)))))))) 8 [2, 3, 4] (.e1 6 [2, 3, 4] (.rd 11 (.e1 12 [2, 3, 4] (.e1 13 [] (.rd 14 (.rd 15 (.e1 16 [] (.nil)))))))))))))))))) (by kernel_rfl) ?_
        iterate 4 (refine cw_rd rfl rfl rfl rfl rfl (fun K hK => ?_); go_wp2_with fail)
        (refine cw_rd rfl rfl rfl rfl rfl (fun K hK => ?_); refine op_load1 rfl rfl Try.ag67 (cell_drew f0.out) ?_; refine op_norm rfl ?_; go_wp2_with fail)
        iterate 3 (refine cw_rd rfl rfl rfl rfl rfl (fun K hK => ?_); go_wp2_with fail)
        have hE : Ext wr wr.drew := (Touch.refl _ wr).drew
        obtain ⟨i4, hi4, hz4, hs4, _⟩ := info_parts Try.mk74
        refine cw_e3 ?_ ?_ ?_
        · refine cw_e1 rfl rfl (fun K hK => ?_)
          refine op_make1 rfl rfl rfl Try.underlying72 Try.mk3 rfl h8 (by omega) ?_
          intro vH wH rH fH xH
          have nH : ∀ b, rowBlock vH = some b → wr.heap.size ≤ b := fun b hb => Nat.le_trans hE.size (fH b hb)
          try have dHK : ∀ b, rowBlock vH = some b → ¬ rowBlock vK = some b := fun b h1 h2 => by have a1 := fH b h1; have c1 := RowN.lt rK h2; omega
          try replace rK := rK.keep xH (fun _ _ h => h)
          try replace rG := rG.keep xH (fun _ _ h => h)
          refine op_norm rfl ?_
          go_wp2_with fail
          replace hE := hE.then_ext xH
          clear fH xH
          refine ⟨?_, ?_⟩
          · (repeat (first | exact fl_nil | refine fl_skip rfl ?_ | (refine fl_take rfl ?_ ?_; (refine yldI_of rfl rfl ?_; first | exact run_ld rfl rfl Try.ag67 (hE.cell f0.out (fun h => h)) |  go_simp))))
          refine cw_e2 ?_ ?_
          · refine cw_e1 rfl rfl (fun K hK => ?_)
            refine op_make1 rfl rfl rfl Try.underlying72 Try.mk3 rfl h8 (by omega) ?_
            intro vK wK rK fK xK
            have nK : ∀ b, rowBlock vK = some b → wr.heap.size ≤ b := fun b hb => Nat.le_trans hE.size (fK b hb)
            try have dHK : ∀ b, rowBlock vH = some b → ¬ rowBlock vK = some b := fun b h1 h2 => by have a1 := fK b h2; have c1 := RowN.lt rH h1; omega
            try replace rH := rH.keep xK (fun _ _ h => h)
            try replace rG := rG.keep xK (fun _ _ h => h)
            refine op_norm rfl ?_
            go_wp2_with fail
            replace hE := hE.then_ext xK
            clear fK xK
            refine ⟨?_, ?_⟩
            · (repeat (first | exact fl_nil | refine fl_skip rfl ?_ | (refine fl_take rfl ?_ ?_; (refine yldI_of rfl rfl ?_; first | exact run_ld rfl rfl Try.ag67 (hE.cell f0.out (fun h => h)) |  go_simp))))
            refine cw_e1 rfl rfl (fun K hK => ?_)
            refine op_make1 rfl rfl rfl Try.underlying45 Try.mk39 rfl h8 (by omega) ?_
            intro vG wG rG fG xG
            have nG : ∀ b, rowBlock vG = some b → wr.heap.size ≤ b := fun b hb => Nat.le_trans hE.size (fG b hb)
            try replace rH := rH.keep xG (fun _ _ h => h)
            try replace rK := rK.keep xG (fun _ _ h => h)
            refine op_norm rfl ?_
            go_wp2_with fail
            replace hE := hE.then_ext xG
            clear fG xG
            refine ⟨?_, ?_⟩
            · (repeat (first | exact fl_nil | refine fl_skip rfl ?_ | (refine fl_take rfl ?_ ?_; (refine yldI_of rfl rfl ?_; first | exact run_ld rfl rfl Try.ag67 (hE.cell f0.out (fun h => h)) |  go_simp))))
            have sH := RowN.len rH (by omega)
            have sK := RowN.len rK (by omega)
            have sG := RowN.len rG (by omega)
            obtain ⟨aH, cH, rfl, -⟩ := sH
            obtain ⟨aK, cK, rfl, -⟩ := sK
            obtain ⟨aG, cG, rfl, -⟩ := sG
            iterate 1 (refine cw_rd rfl rfl rfl rfl rfl (fun K hK => ?_); go_wp2_with fail)
            refine cw_e1 rfl rfl (fun K hK => ?_)
            refine op_build4 rfl rfl Try.underlying67 hi4 hz4 hs4 rfl ?_
            intro vT wT rT fT xT
            refine op_norm rfl ?_
            go_wp2_with fail
            replace hE := hE.then_ext xT
            replace rH := rH.keep xT (fun _ _ h => h)
            replace rK := rK.keep xT (fun _ _ h => h)
            replace rG := rG.keep xT (fun _ _ h => h)
            clear fT xT
            refine ⟨?_, ?_⟩
            · (repeat (first | exact fl_nil | refine fl_skip rfl ?_ | (refine fl_take rfl ?_ ?_; (refine yldI_of rfl rfl ?_; first | exact run_ld rfl rfl Try.ag67 (hE.cell f0.out (fun h => h)) |  go_simp))))
            refine cw_e1 rfl rfl (fun K hK => ?_)
            refine op_append_rowN rfl rfl rfl Try.underlying67 Try.mk74 rfl (by omega) (by omega) (by omega) (by omega) (rN.keep hE (fun _ _ h => h)) rT rfl (by simp [Value.oneCell']) ?_
            intro vA wA rA tA sA
            have oA : vA.oneCell' = true := RowN.oneCell rA
            refine op_norm rfl ?_
            go_wp2_with fail
            refine ⟨fl_none, ?_⟩
            iterate 2 (refine cw_rd rfl rfl rfl rfl rfl (fun K hK => ?_); go_wp2_with fail)
            refine cw_e1 rfl rfl (fun K hK => ?_)
            refine op_store1 (g := w.heap.size) (i := 0) (T := 71) (v := vA) rfl rfl rfl Try.sz67 oA (tA.obj (hE.obj hr.net (fun h => h)) (fun e => by have := hr.tag .nodes trivial _ e; rw [hr.tnet] at this; cases this)) (by simp) ?_
            intro wS hS tS zS
            refine op_done rfl ?_
            refine hK _ _ ?_
            clear hK K
            refine ⟨fl_none, ?_⟩
            refine cw_nil ?_
            go_wp2_with fail
            go_meet
            case rel => exact hr.addN (by omega) hE rH rK rG nH nK nG dHK rA tA sA tS hS
          · refine cw_e1 rfl rfl (fun K hK => ?_)
            refine op_make1 rfl rfl rfl Try.underlying45 Try.mk39 rfl h8 (by omega) ?_
            intro vG wG rG fG xG
            have nG : ∀ b, rowBlock vG = some b → wr.heap.size ≤ b := fun b hb => Nat.le_trans hE.size (fG b hb)
            try replace rH := rH.keep xG (fun _ _ h => h)
            try replace rK := rK.keep xG (fun _ _ h => h)
            refine op_norm rfl ?_
            go_wp2_with fail
            replace hE := hE.then_ext xG
            clear fG xG
            refine ⟨?_, ?_⟩
            · (repeat (first | exact fl_nil | refine fl_skip rfl ?_ | (refine fl_take rfl ?_ ?_; (refine yldI_of rfl rfl ?_; first | exact run_ld rfl rfl Try.ag67 (hE.cell f0.out (fun h => h)) |  go_simp))))
            refine cw_e1 rfl rfl (fun K hK => ?_)
            refine op_make1 rfl rfl rfl Try.underlying72 Try.mk3 rfl h8 (by omega) ?_
            intro vK wK rK fK xK
            have nK : ∀ b, rowBlock vK = some b → wr.heap.size ≤ b := fun b hb => Nat.le_trans hE.size (fK b hb)
            try have dHK : ∀ b, rowBlock vH = some b → ¬ rowBlock vK = some b := fun b h1 h2 => by have a1 := fK b h2; have c1 := RowN.lt rH h1; omega
            try replace rH := rH.keep xK (fun _ _ h => h)
            try replace rG := rG.keep xK (fun _ _ h => h)
            refine op_norm rfl ?_
            go_wp2_with fail
            replace hE := hE.then_ext xK
            clear fK xK
            refine ⟨?_, ?_⟩
            · (repeat (first | exact fl_nil | refine fl_skip rfl ?_ | (refine fl_take rfl ?_ ?_; (refine yldI_of rfl rfl ?_; first | exact run_ld rfl rfl Try.ag67 (hE.cell f0.out (fun h => h)) |  go_simp))))
            have sH := RowN.len rH (by omega)
            have sK := RowN.len rK (by omega)
            have sG := RowN.len rG (by omega)
            obtain ⟨aH, cH, rfl, -⟩ := sH
            obtain ⟨aK, cK, rfl, -⟩ := sK
            obtain ⟨aG, cG, rfl, -⟩ := sG
            iterate 1 (refine cw_rd rfl rfl rfl rfl rfl (fun K hK => ?_); go_wp2_with fail)
            refine cw_e1 rfl rfl (fun K hK => ?_)
            refine op_build4 rfl rfl Try.underlying67 hi4 hz4 hs4 rfl ?_
            intro vT wT rT fT xT
            refine op_norm rfl ?_
            go_wp2_with fail
            replace hE := hE.then_ext xT
            replace rH := rH.keep xT (fun _ _ h => h)
            replace rK := rK.keep xT (fun _ _ h => h)
            replace rG := rG.keep xT (fun _ _ h => h)
            clear fT xT
            refine ⟨?_, ?_⟩
            · (repeat (first | exact fl_nil | refine fl_skip rfl ?_ | (refine fl_take rfl ?_ ?_; (refine yldI_of rfl rfl ?_; first | exact run_ld rfl rfl Try.ag67 (hE.cell f0.out (fun h => h)) |  go_simp))))
            refine cw_e1 rfl rfl (fun K hK => ?_)
            refine op_append_rowN rfl rfl rfl Try.underlying67 Try.mk74 rfl (by omega) (by omega) (by omega) (by omega) (rN.keep hE (fun _ _ h => h)) rT rfl (by simp [Value.oneCell']) ?_
            intro vA wA rA tA sA
            have oA : vA.oneCell' = true := RowN.oneCell rA
            refine op_norm rfl ?_
            go_wp2_with fail
            refine ⟨fl_none, ?_⟩
            iterate 2 (refine cw_rd rfl rfl rfl rfl rfl (fun K hK => ?_); go_wp2_with fail)
            refine cw_e1 rfl rfl (fun K hK => ?_)
            refine op_store1 (g := w.heap.size) (i := 0) (T := 71) (v := vA) rfl rfl rfl Try.sz67 oA (tA.obj (hE.obj hr.net (fun h => h)) (fun e => by have := hr.tag .nodes trivial _ e; rw [hr.tnet] at this; cases this)) (by simp) ?_
            intro wS hS tS zS
            refine op_done rfl ?_
            refine hK _ _ ?_
            clear hK K
            refine ⟨fl_none, ?_⟩
            refine cw_nil ?_
            go_wp2_with fail
            go_meet
            case rel => exact hr.addN (by omega) hE rH rK rG nH nK nG dHK rA tA sA tS hS
        · refine cw_e1 rfl rfl (fun K hK => ?_)
          refine op_make1 rfl rfl rfl Try.underlying72 Try.mk3 rfl h8 (by omega) ?_
          intro vK wK rK fK xK
          have nK : ∀ b, rowBlock vK = some b → wr.heap.size ≤ b := fun b hb => Nat.le_trans hE.size (fK b hb)
          try have dHK : ∀ b, rowBlock vH = some b → ¬ rowBlock vK = some b := fun b h1 h2 => by have a1 := fK b h2; have c1 := RowN.lt rH h1; omega
          try replace rH := rH.keep xK (fun _ _ h => h)
          try replace rG := rG.keep xK (fun _ _ h => h)
          refine op_norm rfl ?_
          go_wp2_with fail
          replace hE := hE.then_ext xK
          clear fK xK
          refine ⟨?_, ?_⟩
          · (repeat (first | exact fl_nil | refine fl_skip rfl ?_ | (refine fl_take rfl ?_ ?_; (refine yldI_of rfl rfl ?_; first | exact run_ld rfl rfl Try.ag67 (hE.cell f0.out (fun h => h)) |  go_simp))))
          refine cw_e2 ?_ ?_
          · refine cw_e1 rfl rfl (fun K hK => ?_)
            refine op_make1 rfl rfl rfl Try.underlying72 Try.mk3 rfl h8 (by omega) ?_
            intro vH wH rH fH xH
            have nH : ∀ b, rowBlock vH = some b → wr.heap.size ≤ b := fun b hb => Nat.le_trans hE.size (fH b hb)
            try have dHK : ∀ b, rowBlock vH = some b → ¬ rowBlock vK = some b := fun b h1 h2 => by have a1 := fH b h1; have c1 := RowN.lt rK h2; omega
            try replace rK := rK.keep xH (fun _ _ h => h)
            try replace rG := rG.keep xH (fun _ _ h => h)
            refine op_norm rfl ?_
            go_wp2_with fail
            replace hE := hE.then_ext xH
            clear fH xH
            refine ⟨?_, ?_⟩
            · (repeat (first | exact fl_nil | refine fl_skip rfl ?_ | (refine fl_take rfl ?_ ?_; (refine yldI_of rfl rfl ?_; first | exact run_ld rfl rfl Try.ag67 (hE.cell f0.out (fun h => h)) |  go_simp))))
            refine cw_e1 rfl rfl (fun K hK => ?_)
            refine op_make1 rfl rfl rfl Try.underlying45 Try.mk39 rfl h8 (by omega) ?_
            intro vG wG rG fG xG
            have nG : ∀ b, rowBlock vG = some b → wr.heap.size ≤ b := fun b hb => Nat.le_trans hE.size (fG b hb)
            try replace rH := rH.keep xG (fun _ _ h => h)
            try replace rK := rK.keep xG (fun _ _ h => h)
            refine op_norm rfl ?_
            go_wp2_with fail
            replace hE := hE.then_ext xG
            clear fG xG
            refine ⟨?_, ?_⟩
            · (repeat (first | exact fl_nil | refine fl_skip rfl ?_ | (refine fl_take rfl ?_ ?_; (refine yldI_of rfl rfl ?_; first | exact run_ld rfl rfl Try.ag67 (hE.cell f0.out (fun h => h)) |  go_simp))))
            have sH := RowN.len rH (by omega)
            have sK := RowN.len rK (by omega)
            have sG := RowN.len rG (by omega)
            obtain ⟨aH, cH, rfl, -⟩ := sH
            obtain ⟨aK, cK, rfl, -⟩ := sK
            obtain ⟨aG, cG, rfl, -⟩ := sG
            iterate 1 (refine cw_rd rfl rfl rfl rfl rfl (fun K hK => ?_); go_wp2_with fail)
            refine cw_e1 rfl rfl (fun K hK => ?_)
            refine op_build4 rfl rfl Try.underlying67 hi4 hz4 hs4 rfl ?_
            intro vT wT rT fT xT
            refine op_norm rfl ?_
            go_wp2_with fail
            replace hE := hE.then_ext xT
            replace rH := rH.keep xT (fun _ _ h => h)
            replace rK := rK.keep xT (fun _ _ h => h)
            replace rG := rG.keep xT (fun _ _ h => h)
            clear fT xT
            refine ⟨?_, ?_⟩
            · (repeat (first | exact fl_nil | refine fl_skip rfl ?_ | (refine fl_take rfl ?_ ?_; (refine yldI_of rfl rfl ?_; first | exact run_ld rfl rfl Try.ag67 (hE.cell f0.out (fun h => h)) |  go_simp))))
            refine cw_e1 rfl rfl (fun K hK => ?_)
            refine op_append_rowN rfl rfl rfl Try.underlying67 Try.mk74 rfl (by omega) (by omega) (by omega) (by omega) (rN.keep hE (fun _ _ h => h)) rT rfl (by simp [Value.oneCell']) ?_
            intro vA wA rA tA sA
            have oA : vA.oneCell' = true := RowN.oneCell rA
            refine op_norm rfl ?_
            go_wp2_with fail
            refine ⟨fl_none, ?_⟩
            iterate 2 (refine cw_rd rfl rfl rfl rfl rfl (fun K hK => ?_); go_wp2_with fail)
            refine cw_e1 rfl rfl (fun K hK => ?_)
            refine op_store1 (g := w.heap.size) (i := 0) (T := 71) (v := vA) rfl rfl rfl Try.sz67 oA (tA.obj (hE.obj hr.net (fun h => h)) (fun e => by have := hr.tag .nodes trivial _ e; rw [hr.tnet] at this; cases this)) (by simp) ?_
            intro wS hS tS zS
            refine op_done rfl ?_
            refine hK _ _ ?_
            clear hK K
            refine ⟨fl_none, ?_⟩
            refine cw_nil ?_
            go_wp2_with fail
            go_meet
            case rel => exact hr.addN (by omega) hE rH rK rG nH nK nG dHK rA tA sA tS hS
          · refine cw_e1 rfl rfl (fun K hK => ?_)
            refine op_make1 rfl rfl rfl Try.underlying45 Try.mk39 rfl h8 (by omega) ?_
            intro vG wG rG fG xG
            have nG : ∀ b, rowBlock vG = some b → wr.heap.size ≤ b := fun b hb => Nat.le_trans hE.size (fG b hb)
            try replace rH := rH.keep xG (fun _ _ h => h)
            try replace rK := rK.keep xG (fun _ _ h => h)
            refine op_norm rfl ?_
            go_wp2_with fail
            replace hE := hE.then_ext xG
            clear fG xG
            refine ⟨?_, ?_⟩
            · (repeat (first | exact fl_nil | refine fl_skip rfl ?_ | (refine fl_take rfl ?_ ?_; (refine yldI_of rfl rfl ?_; first | exact run_ld rfl rfl Try.ag67 (hE.cell f0.out (fun h => h)) |  go_simp))))
            refine cw_e1 rfl rfl (fun K hK => ?_)
            refine op_make1 rfl rfl rfl Try.underlying72 Try.mk3 rfl h8 (by omega) ?_
            intro vH wH rH fH xH
            have nH : ∀ b, rowBlock vH = some b → wr.heap.size ≤ b := fun b hb => Nat.le_trans hE.size (fH b hb)
            try have dHK : ∀ b, rowBlock vH = some b → ¬ rowBlock vK = some b := fun b h1 h2 => by have a1 := fH b h1; have c1 := RowN.lt rK h2; omega
            try replace rK := rK.keep xH (fun _ _ h => h)
            try replace rG := rG.keep xH (fun _ _ h => h)
            refine op_norm rfl ?_
            go_wp2_with fail
            replace hE := hE.then_ext xH
            clear fH xH
            refine ⟨?_, ?_⟩
            · (repeat (first | exact fl_nil | refine fl_skip rfl ?_ | (refine fl_take rfl ?_ ?_; (refine yldI_of rfl rfl ?_; first | exact run_ld rfl rfl Try.ag67 (hE.cell f0.out (fun h => h)) |  go_simp))))
            have sH := RowN.len rH (by omega)
            have sK := RowN.len rK (by omega)
            have sG := RowN.len rG (by omega)
            obtain ⟨aH, cH, rfl, -⟩ := sH
            obtain ⟨aK, cK, rfl, -⟩ := sK
            obtain ⟨aG, cG, rfl, -⟩ := sG
            iterate 1 (refine cw_rd rfl rfl rfl rfl rfl (fun K hK => ?_); go_wp2_with fail)
            refine cw_e1 rfl rfl (fun K hK => ?_)
            refine op_build4 rfl rfl Try.underlying67 hi4 hz4 hs4 rfl ?_
            intro vT wT rT fT xT
            refine op_norm rfl ?_
            go_wp2_with fail
            replace hE := hE.then_ext xT
            replace rH := rH.keep xT (fun _ _ h => h)
            replace rK := rK.keep xT (fun _ _ h => h)
            replace rG := rG.keep xT (fun _ _ h => h)
            clear fT xT
            refine ⟨?_, ?_⟩
            · (repeat (first | exact fl_nil | refine fl_skip rfl ?_ | (refine fl_take rfl ?_ ?_; (refine yldI_of rfl rfl ?_; first | exact run_ld rfl rfl Try.ag67 (hE.cell f0.out (fun h => h)) |  go_simp))))
            refine cw_e1 rfl rfl (fun K hK => ?_)
            refine op_append_rowN rfl rfl rfl Try.underlying67 Try.mk74 rfl (by omega) (by omega) (by omega) (by omega) (rN.keep hE (fun _ _ h => h)) rT rfl (by simp [Value.oneCell']) ?_
            intro vA wA rA tA sA
            have oA : vA.oneCell' = true := RowN.oneCell rA
            refine op_norm rfl ?_
            go_wp2_with fail
            refine ⟨fl_none, ?_⟩
            iterate 2 (refine cw_rd rfl rfl rfl rfl rfl (fun K hK => ?_); go_wp2_with fail)
            refine cw_e1 rfl rfl (fun K hK => ?_)
            refine op_store1 (g := w.heap.size) (i := 0) (T := 71) (v := vA) rfl rfl rfl Try.sz67 oA (tA.obj (hE.obj hr.net (fun h => h)) (fun e => by have := hr.tag .nodes trivial _ e; rw [hr.tnet] at this; cases this)) (by simp) ?_
            intro wS hS tS zS
            refine op_done rfl ?_
            refine hK _ _ ?_
            clear hK K
            refine ⟨fl_none, ?_⟩
            refine cw_nil ?_
            go_wp2_with fail
            go_meet
            case rel => exact hr.addN (by omega) hE rH rK rG nH nK nG dHK rA tA sA tS hS
        · refine cw_e1 rfl rfl (fun K hK => ?_)
          refine op_make1 rfl rfl rfl Try.underlying45 Try.mk39 rfl h8 (by omega) ?_
          intro vG wG rG fG xG
          have nG : ∀ b, rowBlock vG = some b → wr.heap.size ≤ b := fun b hb => Nat.le_trans hE.size (fG b hb)
          try replace rH := rH.keep xG (fun _ _ h => h)
          try replace rK := rK.keep xG (fun _ _ h => h)
          refine op_norm rfl ?_
          go_wp2_with fail
          replace hE := hE.then_ext xG
          clear fG xG
          refine ⟨?_, ?_⟩
          · (repeat (first | exact fl_nil | refine fl_skip rfl ?_ | (refine fl_take rfl ?_ ?_; (refine yldI_of rfl rfl ?_; first | exact run_ld rfl rfl Try.ag67 (hE.cell f0.out (fun h => h)) |  go_simp))))
          refine cw_e2 ?_ ?_
          · refine cw_e1 rfl rfl (fun K hK => ?_)
            refine op_make1 rfl rfl rfl Try.underlying72 Try.mk3 rfl h8 (by omega) ?_
            intro vH wH rH fH xH
            have nH : ∀ b, rowBlock vH = some b → wr.heap.size ≤ b := fun b hb => Nat.le_trans hE.size (fH b hb)
            try have dHK : ∀ b, rowBlock vH = some b → ¬ rowBlock vK = some b := fun b h1 h2 => by have a1 := fH b h1; have c1 := RowN.lt rK h2; omega
            try replace rK := rK.keep xH (fun _ _ h => h)
            try replace rG := rG.keep xH (fun _ _ h => h)
            refine op_norm rfl ?_
            go_wp2_with fail
            replace hE := hE.then_ext xH
            clear fH xH
            refine ⟨?_, ?_⟩
            · (repeat (first | exact fl_nil | refine fl_skip rfl ?_ | (refine fl_take rfl ?_ ?_; (refine yldI_of rfl rfl ?_; first | exact run_ld rfl rfl Try.ag67 (hE.cell f0.out (fun h => h)) |  go_simp))))
            refine cw_e1 rfl rfl (fun K hK => ?_)
            refine op_make1 rfl rfl rfl Try.underlying72 Try.mk3 rfl h8 (by omega) ?_
            intro vK wK rK fK xK
            have nK : ∀ b, rowBlock vK = some b → wr.heap.size ≤ b := fun b hb => Nat.le_trans hE.size (fK b hb)
            try have dHK : ∀ b, rowBlock vH = some b → ¬ rowBlock vK = some b := fun b h1 h2 => by have a1 := fK b h2; have c1 := RowN.lt rH h1; omega
            try replace rH := rH.keep xK (fun _ _ h => h)
            try replace rG := rG.keep xK (fun _ _ h => h)
            refine op_norm rfl ?_
            go_wp2_with fail
            replace hE := hE.then_ext xK
            clear fK xK
            refine ⟨?_, ?_⟩
            · (repeat (first | exact fl_nil | refine fl_skip rfl ?_ | (refine fl_take rfl ?_ ?_; (refine yldI_of rfl rfl ?_; first | exact run_ld rfl rfl Try.ag67 (hE.cell f0.out (fun h => h)) |  go_simp))))
            have sH := RowN.len rH (by omega)
            have sK := RowN.len rK (by omega)
            have sG := RowN.len rG (by omega)
            obtain ⟨aH, cH, rfl, -⟩ := sH
            obtain ⟨aK, cK, rfl, -⟩ := sK
            obtain ⟨aG, cG, rfl, -⟩ := sG
            iterate 1 (refine cw_rd rfl rfl rfl rfl rfl (fun K hK => ?_); go_wp2_with fail)
            refine cw_e1 rfl rfl (fun K hK => ?_)
            refine op_build4 rfl rfl Try.underlying67 hi4 hz4 hs4 rfl ?_
            intro vT wT rT fT xT
            refine op_norm rfl ?_
            go_wp2_with fail
            replace hE := hE.then_ext xT
            replace rH := rH.keep xT (fun _ _ h => h)
            replace rK := rK.keep xT (fun _ _ h => h)
            replace rG := rG.keep xT (fun _ _ h => h)
            clear fT xT
            refine ⟨?_, ?_⟩
            · (repeat (first | exact fl_nil | refine fl_skip rfl ?_ | (refine fl_take rfl ?_ ?_; (refine yldI_of rfl rfl ?_; first | exact run_ld rfl rfl Try.ag67 (hE.cell f0.out (fun h => h)) |  go_simp))))
            refine cw_e1 rfl rfl (fun K hK => ?_)
            refine op_append_rowN rfl rfl rfl Try.underlying67 Try.mk74 rfl (by omega) (by omega) (by omega) (by omega) (rN.keep hE (fun _ _ h => h)) rT rfl (by simp [Value.oneCell']) ?_
            intro vA wA rA tA sA
            have oA : vA.oneCell' = true := RowN.oneCell rA
            refine op_norm rfl ?_
            go_wp2_with fail
            refine ⟨fl_none, ?_⟩
            iterate 2 (refine cw_rd rfl rfl rfl rfl rfl (fun K hK => ?_); go_wp2_with fail)
            refine cw_e1 rfl rfl (fun K hK => ?_)
            refine op_store1 (g := w.heap.size) (i := 0) (T := 71) (v := vA) rfl rfl rfl Try.sz67 oA (tA.obj (hE.obj hr.net (fun h => h)) (fun e => by have := hr.tag .nodes trivial _ e; rw [hr.tnet] at this; cases this)) (by simp) ?_
            intro wS hS tS zS
            refine op_done rfl ?_
            refine hK _ _ ?_
            clear hK K
            refine ⟨fl_none, ?_⟩
            refine cw_nil ?_
            go_wp2_with fail
            go_meet
            case rel => exact hr.addN (by omega) hE rH rK rG nH nK nG dHK rA tA sA tS hS
          · refine cw_e1 rfl rfl (fun K hK => ?_)
            refine op_make1 rfl rfl rfl Try.underlying72 Try.mk3 rfl h8 (by omega) ?_
            intro vK wK rK fK xK
            have nK : ∀ b, rowBlock vK = some b → wr.heap.size ≤ b := fun b hb => Nat.le_trans hE.size (fK b hb)
            try have dHK : ∀ b, rowBlock vH = some b → ¬ rowBlock vK = some b := fun b h1 h2 => by have a1 := fK b h2; have c1 := RowN.lt rH h1; omega
            try replace rH := rH.keep xK (fun _ _ h => h)
            try replace rG := rG.keep xK (fun _ _ h => h)
            refine op_norm rfl ?_
            go_wp2_with fail
            replace hE := hE.then_ext xK
            clear fK xK
            refine ⟨?_, ?_⟩
            · (repeat (first | exact fl_nil | refine fl_skip rfl ?_ | (refine fl_take rfl ?_ ?_; (refine yldI_of rfl rfl ?_; first | exact run_ld rfl rfl Try.ag67 (hE.cell f0.out (fun h => h)) |  go_simp))))
            refine cw_e1 rfl rfl (fun K hK => ?_)
            refine op_make1 rfl rfl rfl Try.underlying72 Try.mk3 rfl h8 (by omega) ?_
            intro vH wH rH fH xH
            have nH : ∀ b, rowBlock vH = some b → wr.heap.size ≤ b := fun b hb => Nat.le_trans hE.size (fH b hb)
            try have dHK : ∀ b, rowBlock vH = some b → ¬ rowBlock vK = some b := fun b h1 h2 => by have a1 := fH b h1; have c1 := RowN.lt rK h2; omega
            try replace rK := rK.keep xH (fun _ _ h => h)
            try replace rG := rG.keep xH (fun _ _ h => h)
            refine op_norm rfl ?_
            go_wp2_with fail
            replace hE := hE.then_ext xH
            clear fH xH
            refine ⟨?_, ?_⟩
            · (repeat (first | exact fl_nil | refine fl_skip rfl ?_ | (refine fl_take rfl ?_ ?_; (refine yldI_of rfl rfl ?_; first | exact run_ld rfl rfl Try.ag67 (hE.cell f0.out (fun h => h)) |  go_simp))))
            have sH := RowN.len rH (by omega)
            have sK := RowN.len rK (by omega)
            have sG := RowN.len rG (by omega)
            obtain ⟨aH, cH, rfl, -⟩ := sH
            obtain ⟨aK, cK, rfl, -⟩ := sK
            obtain ⟨aG, cG, rfl, -⟩ := sG
            iterate 1 (refine cw_rd rfl rfl rfl rfl rfl (fun K hK => ?_); go_wp2_with fail)
            refine cw_e1 rfl rfl (fun K hK => ?_)
            refine op_build4 rfl rfl Try.underlying67 hi4 hz4 hs4 rfl ?_
            intro vT wT rT fT xT
            refine op_norm rfl ?_
            go_wp2_with fail
            replace hE := hE.then_ext xT
            replace rH := rH.keep xT (fun _ _ h => h)
            replace rK := rK.keep xT (fun _ _ h => h)
            replace rG := rG.keep xT (fun _ _ h => h)
            clear fT xT
            refine ⟨?_, ?_⟩
            · (repeat (first | exact fl_nil | refine fl_skip rfl ?_ | (refine fl_take rfl ?_ ?_; (refine yldI_of rfl rfl ?_; first | exact run_ld rfl rfl Try.ag67 (hE.cell f0.out (fun h => h)) |  go_simp))))
            refine cw_e1 rfl rfl (fun K hK => ?_)
            refine op_append_rowN rfl rfl rfl Try.underlying67 Try.mk74 rfl (by omega) (by omega) (by omega) (by omega) (rN.keep hE (fun _ _ h => h)) rT rfl (by simp [Value.oneCell']) ?_
            intro vA wA rA tA sA
            have oA : vA.oneCell' = true := RowN.oneCell rA
            refine op_norm rfl ?_
            go_wp2_with fail
            refine ⟨fl_none, ?_⟩
            iterate 2 (refine cw_rd rfl rfl rfl rfl rfl (fun K hK => ?_); go_wp2_with fail)
            refine cw_e1 rfl rfl (fun K hK => ?_)
            refine op_store1 (g := w.heap.size) (i := 0) (T := 71) (v := vA) rfl rfl rfl Try.sz67 oA (tA.obj (hE.obj hr.net (fun h => h)) (fun e => by have := hr.tag .nodes trivial _ e; rw [hr.tnet] at this; cases this)) (by simp) ?_
            intro wS hS tS zS
            refine op_done rfl ?_
            refine hK _ _ ?_
            clear hK K
            refine ⟨fl_none, ?_⟩
            refine cw_nil ?_
            go_wp2_with fail
            go_meet
            case rel => exact hr.addN (by omega) hE rH rK rG nH nK nG dHK rA tA sA tS hS
      case rest =>
        obtain ⟨R1, hr1⟩ := hcut
        have f1 := Lib.hid (hr1.net.cell (i := 1) rfl)
        have rN : RowN wc 75 1 (R1.val .queues) k (fun j _ => R1.val (.qrow j)) := hr1.row .queues trivial
        obtain ⟨i5, hi5, hz5, hs5, _⟩ := info_parts Try.mk75
        have hE : Ext wc wc.drew := (Touch.refl _ wc).drew
        go_wp2_with fail
        refine wp_region_rt (by kernel_rfl) [0, 0, 2, 6, 14, 0, 32, 96, 254, 511, 1023, 2047] (.rd 0 (.rd 1 (.rd 2 (.rd 3 (.rd 4 (.rd 5 (.e1 6 [2, 3, 4] (.e1 7 [2, 3, 4] (.e1 8 [] (.rd 9 (.rd 10 (.e1 11 [] (.nil))))))))))))) (by kernel_rfl) ?_
        iterate 4 (refine cw_rd rfl rfl rfl rfl rfl (fun K hK => ?_); go_wp2_with fail)
        (refine cw_rd rfl rfl rfl rfl rfl (fun K hK => ?_); refine op_load1 rfl rfl Try.ag68 (cell_drew f1.out) ?_; refine op_norm rfl ?_; go_wp2_with fail)
        iterate 1 (refine cw_rd rfl rfl rfl rfl rfl (fun K hK => ?_); go_wp2_with fail)
        refine cw_e1 rfl rfl (fun K hK => ?_)
        refine op_make1 rfl rfl rfl Try.underlying75 Try.mk85 rfl h8 (by omega) ?_
        intro vH wH rH fH xH
        have nH : ∀ b, rowBlock vH = some b → wc.heap.size ≤ b := fun b hb => Nat.le_trans hE.size (fH b hb)
        refine op_norm rfl ?_
        go_wp2_with fail
        replace hE := hE.then_ext xH
        clear fH xH
        refine ⟨?_, ?_⟩
        · (repeat (first | exact fl_nil | refine fl_skip rfl ?_ | (refine fl_take rfl ?_ ?_; (refine yldI_of rfl rfl ?_; first | exact run_ld rfl rfl Try.ag68 (hE.cell f1.out (fun h => h)) |  go_simp))))
        have oH : vH.oneCell' = true := RowN.oneCell rH
        refine cw_e1 rfl rfl (fun K hK => ?_)
        refine op_build1 (v := vH) rfl rfl Try.underlying68 hi5 hz5 hs5 rfl oH ?_
        intro vT wT rT fT xT
        refine op_norm rfl ?_
        go_wp2_with fail
        replace hE := hE.then_ext xT
        replace rH := rH.keep xT (fun _ _ h => h)
        clear fT xT
        refine ⟨?_, ?_⟩
        · (repeat (first | exact fl_nil | refine fl_skip rfl ?_ | (refine fl_take rfl ?_ ?_; (refine yldI_of rfl rfl ?_; first | exact run_ld rfl rfl Try.ag68 (hE.cell f1.out (fun h => h)) |  go_simp))))
        refine cw_e1 rfl rfl (fun K hK => ?_)
        refine op_append_rowN rfl rfl rfl Try.underlying68 Try.mk75 rfl (by omega) (by omega) (by omega) (by omega) (rN.keep hE (fun _ _ h => h)) rT rfl (by simpa using oH) ?_
        intro vA wA rA tA sA
        have oA : vA.oneCell' = true := RowN.oneCell rA
        refine op_norm rfl ?_
        go_wp2_with fail
        refine ⟨fl_none, ?_⟩
        iterate 2 (refine cw_rd rfl rfl rfl rfl rfl (fun K hK => ?_); go_wp2_with fail)
        refine cw_e1 rfl rfl (fun K hK => ?_)
        refine op_store1 (g := w.heap.size) (i := 1) (T := 71) (v := vA) rfl rfl rfl Try.sz68 oA (tA.obj (hE.obj hr1.net (fun h => h)) (fun e => by have := hr1.tag .queues trivial _ e; rw [hr1.tnet] at this; cases this)) (by simp) ?_
        intro wS hS tS zS
        refine op_done rfl ?_
        refine hK _ _ ?_
        clear hK K
        refine ⟨fl_none, ?_⟩
        refine cw_nil ?_
        have hnew := hr1.addQ (by omega) hE rH nH (rA.congr fun i j hi hj => by
          have hj0 : j = 0 := by omega
          subst hj0
          by_cases e : i = k
          · simp [e]
          · simp [e]) tA sA tS hS
        clear hE rH rT rA tA tS hS nH oH oA rN f1 hr1
        obtain ⟨R2, hr2⟩ := hnew
        have f2 := Lib.hid (hr2.net.cell (i := 2) rfl)
        have rN : RowN wS 76 1 (R2.val .off) k (fun j _ => R2.val (.orow j)) := hr2.row .off trivial
        obtain ⟨i5, hi5, hz5, hs5, _⟩ := info_parts Try.mk76
        have hE : Ext wS wS.drew := (Touch.refl _ wS).drew
        go_wp2_with fail
        refine wp_region_rt (by kernel_rfl) [0, 0, 2, 6, 14, 0, 32, 96, 254, 511, 1023, 2047] (.rd 0 (.rd 1 (.rd 2 (.rd 3 (.rd 4 (.rd 5 (.e1 6 [2, 3, 4] (.e1 7 [2, 3, 4] (.e1 8 [] (.rd 9 (.rd 10 (.e1 11 [] (.nil))))))))))))) (by kernel_rfl) ?_
        iterate 4 (refine cw_rd rfl rfl rfl rfl rfl (fun K hK => ?_); go_wp2_with fail)
        (refine cw_rd rfl rfl rfl rfl rfl (fun K hK => ?_); refine op_load1 rfl rfl Try.ag69 (cell_drew f2.out) ?_; refine op_norm rfl ?_; go_wp2_with fail)
        iterate 1 (refine cw_rd rfl rfl rfl rfl rfl (fun K hK => ?_); go_wp2_with fail)
        refine cw_e1 rfl rfl (fun K hK => ?_)
        refine op_make1 rfl rfl rfl Try.underlying76 Try.mk4 rfl h8 (by omega) ?_
        intro vH wH rH fH xH
        have nH : ∀ b, rowBlock vH = some b → wS.heap.size ≤ b := fun b hb => Nat.le_trans hE.size (fH b hb)
        refine op_norm rfl ?_
        go_wp2_with fail
        replace hE := hE.then_ext xH
        clear fH xH
        refine ⟨?_, ?_⟩
        · (repeat (first | exact fl_nil | refine fl_skip rfl ?_ | (refine fl_take rfl ?_ ?_; (refine yldI_of rfl rfl ?_; first | exact run_ld rfl rfl Try.ag69 (hE.cell f2.out (fun h => h)) |  go_simp))))
        have oH : vH.oneCell' = true := RowN.oneCell rH
        refine cw_e1 rfl rfl (fun K hK => ?_)
        refine op_build1 (v := vH) rfl rfl Try.underlying69 hi5 hz5 hs5 rfl oH ?_
        intro vT wT rT fT xT
        refine op_norm rfl ?_
        go_wp2_with fail
        replace hE := hE.then_ext xT
        replace rH := rH.keep xT (fun _ _ h => h)
        clear fT xT
        refine ⟨?_, ?_⟩
        · (repeat (first | exact fl_nil | refine fl_skip rfl ?_ | (refine fl_take rfl ?_ ?_; (refine yldI_of rfl rfl ?_; first | exact run_ld rfl rfl Try.ag69 (hE.cell f2.out (fun h => h)) |  go_simp))))
        refine cw_e1 rfl rfl (fun K hK => ?_)
        refine op_append_rowN rfl rfl rfl Try.underlying69 Try.mk76 rfl (by omega) (by omega) (by omega) (by omega) (rN.keep hE (fun _ _ h => h)) rT rfl (by simpa using oH) ?_
        intro vA wA rA tA sA
        have oA : vA.oneCell' = true := RowN.oneCell rA
        refine op_norm rfl ?_
        go_wp2_with fail
        refine ⟨fl_none, ?_⟩
        iterate 2 (refine cw_rd rfl rfl rfl rfl rfl (fun K hK => ?_); go_wp2_with fail)
        refine cw_e1 rfl rfl (fun K hK => ?_)
        refine op_store1 (g := w.heap.size) (i := 2) (T := 71) (v := vA) rfl rfl rfl Try.sz69 oA (tA.obj (hE.obj hr2.net (fun h => h)) (fun e => by have := hr2.tag .off trivial _ e; rw [hr2.tnet] at this; cases this)) (by simp) ?_
        intro wZ hZ tZ zZ
        refine op_done rfl ?_
        refine hK _ _ ?_
        clear hK K
        refine ⟨fl_none, ?_⟩
        refine cw_nil ?_
        have hnew := hr2.addO (by omega) hE rH nH (rA.congr fun i j hi hj => by
          have hj0 : j = 0 := by omega
          subst hj0
          by_cases e : i = k
          · simp [e]
          · simp [e]) tA sA tZ hZ
        go_wp2_with fail
        exact ⟨⟨k + 1, by go_num, hlt, hnew⟩, by simp [intOf]; omega⟩
    · have e : k = n := by omega
      subst e
      go_wp2_with fail
      go_ret2
      exact ⟨_, R, rfl, hr.done h8, hr.ext, hr.old⟩
end Go.Proofs.Ytcipfpebjeakfaa
