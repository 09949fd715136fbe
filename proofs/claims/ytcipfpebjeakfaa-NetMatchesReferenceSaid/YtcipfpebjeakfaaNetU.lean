/-
  Lists of texts in memory of a call's own; contracts: begins, views.
-/
import Derived.Test.YtcipfpebjeakfaaNetT
namespace Go.Proofs.Ytcipfpebjeakfaa
open Go Go.RowKit Go.WideMaps

section
variable {P : Program} {o : Oper} {a : Act} {w : World} {K : Act → World → Prop} {Q : Exit → Act → World → Prop} {t E : TypeId} {size : Nat} {v : Value} {xs : List Value}

theorem run_take_row {k : Nat} (ht : P.underlying t = some (.slice E)) (hs : (P.info? E).map (·.size) = some size) (hrow : Row w E size v xs) (hk : k * size ≤ xs.length) (hsz : 0 < size) :
    ∃ v', (Instr.sliceAt t v none (some (.int .i64 k)) none).run P w = .ok v' w ∧ Row w E size v' (xs.take (k * size)) ∧ ∀ b, rowBlock v' = some b → rowBlock v = some b := by
  obtain ⟨ad, n, c, rfl, h1, h2, h3, h4, h5⟩ := hrow
  have hkn : k ≤ n := by rw [h1] at hk; exact Nat.le_of_mul_le_mul_right hk hsz
  cases hinfo : P.info? E with
  | none => rw [hinfo] at hs; cases hs
  | some ti =>
    rw [hinfo] at hs
    simp only [Option.map_some, Option.some.injEq] at hs
    have h0 : ∀ x : Addr, x.add 0 = x := fun x => by unfold Addr.add; simp
    refine ⟨.slice ad k c, ?_, ?_, ?_⟩
    · have hb1 : (0 : Int) ≤ (k : Int) ∧ (k : Int) ≤ (c : Int) := ⟨by omega, by omega⟩
      have hb2 : k ≤ c := by omega
      simp [Instr.sliceAt, Instr.slice, Instr.sliceBounds, Instr.sliceBound, asIntOf, run_underlying ht, sizeOf, typeInfo, hinfo, hb1, hb2, h0]
    · refine ⟨_, _, _, rfl, by rw [List.length_take]; omega, by omega, h3, h4, fun hc => ?_⟩
      obtain ⟨g, i, cs, rfl, hb, h6, h7⟩ := h5 hc
      refine ⟨g, i, cs, rfl, hb, h6, fun j u hu => h7 j u ?_⟩
      rw [List.getElem?_take] at hu
      split at hu
      · exact hu
      · cases hu
    · intro b hb; cases ad with
      | none => simp [rowBlock] at hb
      | some _ => simpa [rowBlock] using hb

theorem op_take_row {x hi : Operand} {k : Nat} (ho : o.op = .slice t x none (some hi) none) (hx : a.eval x = v) (hhi : a.eval hi = .int .i64 k) (ht : P.underlying t = some (.slice E)) (hs : (P.info? E).map (·.size) = some size)
    (hrow : Row w E size v xs) (hk : k * size ≤ xs.length) (hsz : 0 < size)
    (h : ∀ v', Row w E size v' (xs.take (k * size)) → (∀ b, rowBlock v' = some b → rowBlock v = some b) → K (a.put o.dst v') w) : o.wp P a w K Q := by
  obtain ⟨v', hr, h1, h2⟩ := run_take_row (k := k) ht hs hrow hk hsz
  refine op_run _ v' w (by rw [execOp_slice ho, hx]; simp only [Option.map_some, Option.map_none, hhi]) hr (h v' h1 h2)

/-- The cells that a row's elements are read from. -/
theorem Row.news (h : Row w E size v xs) : ∃ A m c, v = .slice A m c ∧ xs.length = m * size ∧ (∀ ad, A = some ad → ∀ j u, xs[j]? = some u → w.cell? (ad.add j) = some u) ∧ (A = none → m = 0) := by
  have h' := h
  obtain ⟨ad, n, c, rfl, h1, h2, h3, h4, h5⟩ := h'
  exact ⟨ad, n, c, rfl, h1, fun a ha => by subst ha; exact h.cells rfl, fun e => by have := h4 e; omega⟩
end

/-- v is a list of texts in memory that is not older than w. -/
structure Own (w W : World) (v : Value) (xs : List ByteArray) : Prop where
  row : Row W 9 1 v (xs.map .string)
  new : ∀ b, rowBlock v = some b → w.heap.size ≤ b
  ext : Ext w W

theorem Own.nil {w W : World} (h : Ext w W) : Own w W (.slice none 0 0) [] := ⟨Row.nil _ _ _, fun b hb => by simp [rowBlock] at hb, h⟩
theorem Own.then {w W W' : World} {v : Value} {xs : List ByteArray} (h : Own w W v xs) (hE : Ext W W') : Own w W' v xs := ⟨h.row.keep hE fun _ _ h => h, h.new, h.ext.then_ext hE⟩

theorem op_append_texts {o : Oper} {a : Act} {w W : World} {K : Act → World → Prop} {Q : Exit → Act → World → Prop} {x y : Operand} {v sv : Value} {xs ys : List ByteArray}
    (ho : o.op = .call { callee := .builtin .append, args := #[x, y], argTypes := #[39, 39] }) (hx : a.eval x = v) (hy : a.eval y = sv)
    (hv : Own w W v xs) (hs : Row W 9 1 sv (ys.map .string)) (hl : xs.length + ys.length ≤ 1000000)
    (h : ∀ v' W', Own w W' v' (xs ++ ys) → Touch (fun b => rowBlock v = some b) W W' → K (a.put o.dst v') W') : o.wp Try.prog a W K Q := by
  obtain ⟨i0, hi0, hz0, hz1, hz2⟩ := info_parts Try.in9
  obtain ⟨A, m, c, hsv, hm, hn, hA⟩ := hs.news
  refine op_append ho hx hy Try.underlying39 hi0 hz0 hz1 hz2 rfl (by omega) hv.row hsv hm hn hA ?_ ?_ ?_ ?_
  · intro u hu
    obtain ⟨s, _, rfl⟩ := List.mem_map.1 hu
    rfl
  · simp only [List.length_map]; omega
  · simp only [List.length_map]; unfold maxLen; omega
  · intro v' W' hr ht hb
    refine h v' W' ⟨by rw [List.map_append]; exact hr, ?_, ?_⟩ ht
    · intro b he
      rcases hb with ⟨h1, _⟩ | ⟨h1, _⟩
      · exact hv.new b (by rw [← h1]; exact he)
      · rw [h1] at he
        injection he with he
        subst he
        exact hv.ext.size
    · exact hv.ext.trans ht fun b hb he => by have := hv.new b he; omega

def beginsB (l first : List ByteArray) : Bool := decide (first.length ≤ l.length) && sameB (l.take first.length) first

attribute [local irreducible] World.cell? World.frozen? isAggB _root_.Go.Program.underlying

set_option maxRecDepth 100000 in
set_option maxHeartbeats 1000000 in
theorem begins_contract {w : World} {v u : Value} {xs ys : List ByteArray} (hv : Row w 9 1 v (xs.map .string)) (hu : Row w 9 1 u (ys.map .string)) (_hn : xs.length ≤ 1000000) (hn2 : ys.length ≤ 1000000) :
    Calls Try.prog 28 #[v, u] w fun e w' => e = .returned (.bool (beginsB xs ys)) ∧ Ext w w' := by
  have hlen := Lib.hid (show (xs.map Value.string).length = xs.length * 1 from by simp)
  have hlen2 := Lib.hid (show (ys.map Value.string).length = ys.length * 1 from by simp)
  by_cases hl : ys.length ≤ xs.length
  · have hl' : (ys.length : Int) ≤ (xs.length : Int) := by omega
    have hcode : beginsB xs ys = sameB (xs.take ys.length) ys := by unfold beginsB; rw [decide_eq_true hl]; rfl
    rw [hcode]
    go_enter Try.func28, Try.ntmps28
    go_wp2_with (first
      | ((with_reducible change wpList _ _ _ (Oper.mk _ (Op.call (Call.mk (Callee.builtin Builtin.len) _ _)) _ _ _ _ :: _) _ _); refine BigFrame.wpList_want rfl (fun K hK => ?_); refine op_len_row rfl rfl Try.underlying39 hu (by omega) hlen2.out ?_; refine hK _ _ ?_; clear hK K)
      | ((with_reducible change wpList _ _ _ (Oper.mk _ (Op.call (Call.mk (Callee.builtin Builtin.len) _ _)) _ _ _ _ :: _) _ _); refine BigFrame.wpList_want rfl (fun K hK => ?_); refine op_len_row rfl rfl Try.underlying39 hv (by omega) hlen.out ?_; refine hK _ _ ?_; clear hK K)
      | ((with_reducible change wpList _ _ _ (Oper.mk _ (Op.slice _ _ _ _ _) _ _ _ _ :: _) _ _); refine BigFrame.wpList_want rfl (fun K hK => ?_); refine op_take_row (k := ys.length) rfl rfl rfl Try.underlying39 Try.szE9 hv (by rw [hlen.out]; omega) (by omega) ?_; intro v2 hv2 hb2; refine hK _ _ ?_; clear hK K))
    rw [Nat.mul_one, ← List.map_take] at hv2
    have hs := same_contract hv2 hu (by rw [List.length_take]; omega) hn2
    go_at_call 21
    refine hs.mono ?_
    rintro _ w2 ⟨rfl, hE⟩
    go_wp2_with fail
    go_ret
    exact ⟨rfl, hE⟩
  · have hl' : ¬ (ys.length : Int) ≤ (xs.length : Int) := by omega
    have hcode : beginsB xs ys = false := by unfold beginsB; rw [decide_eq_false hl]; rfl
    rw [hcode]
    go_enter Try.func28, Try.ntmps28
    go_wp2_with (first
      | ((with_reducible change wpList _ _ _ (Oper.mk _ (Op.call (Call.mk (Callee.builtin Builtin.len) _ _)) _ _ _ _ :: _) _ _); refine BigFrame.wpList_want rfl (fun K hK => ?_); refine op_len_row rfl rfl Try.underlying39 hu (by omega) hlen2.out ?_; refine hK _ _ ?_; clear hK K)
      | ((with_reducible change wpList _ _ _ (Oper.mk _ (Op.call (Call.mk (Callee.builtin Builtin.len) _ _)) _ _ _ _ :: _) _ _); refine BigFrame.wpList_want rfl (fun K hK => ?_); refine op_len_row rfl rfl Try.underlying39 hv (by omega) hlen.out ?_; refine hK _ _ ?_; clear hK K))
    go_ret
    exact ⟨rfl, Touch.refl _ w⟩

/-! ### views -/
abbrev sNode : ByteArray := ⟨#[110, 111, 100, 101]⟩
abbrev sLacks : ByteArray := ⟨#[108, 97, 99, 107, 115]⟩
def NetS.viewIn (S : NetS) (a b : Nat) : List ByteArray := (List.range b).flatMap fun b => sLacks :: S.lacks a b
def NetS.viewTo (S : NetS) (a : Nat) : List ByteArray := (List.range a).flatMap fun a => sNode :: (S.texts a ++ S.viewIn a S.n)
def NetS.views (S : NetS) : List ByteArray := S.viewTo S.n

theorem NetS.viewIn_succ (S : NetS) (a b : Nat) : S.viewIn a (b + 1) = S.viewIn a b ++ [sLacks] ++ S.lacks a b := by simp [NetS.viewIn, List.range_succ]
theorem NetS.viewTo_succ (S : NetS) (a : Nat) : S.viewTo (a + 1) = S.viewTo a ++ [sNode] ++ S.texts a ++ S.viewIn a S.n := by simp [NetS.viewTo, List.range_succ]
theorem Wf.lacksLen {S : NetS} (h : Wf S) (a b : Nat) : (S.lacks a b).length ≤ 1000 := by
  unfold NetS.lacks
  split
  · rename_i hok
    have h1 := h.textsLen hok.1
    have h2 : (kept (fun s => inB s (S.sets (.got a b))) ((S.texts a).drop (min (S.known a b) (S.texts a).length))).length ≤ ((S.texts a).drop (min (S.known a b) (S.texts a).length)).length := by
      unfold kept; exact List.length_filter_le _ _
    rw [List.length_drop] at h2
    omega
  · simp
theorem Wf.viewInLen {S : NetS} (h : Wf S) (a : Nat) : ∀ b, (S.viewIn a b).length ≤ 1001 * b
  | 0 => by simp [NetS.viewIn]
  | b + 1 => by
    rw [NetS.viewIn_succ]
    have := h.viewInLen a b
    have := h.lacksLen a b
    simp only [List.length_append, List.length_cons, List.length_nil]
    omega
theorem Wf.viewToLen {S : NetS} (h : Wf S) : ∀ a, a ≤ S.n → (S.viewTo a).length ≤ 10000 * a
  | 0, _ => by simp [NetS.viewTo]
  | a + 1, ha => by
    rw [NetS.viewTo_succ]
    have := h.viewToLen a (by omega)
    have := h.textsLen (i := a) (by omega)
    have := h.viewInLen a S.n
    have := h.n8
    simp only [List.length_append, List.length_cons, List.length_nil]
    omega

set_option maxRecDepth 100000 in
set_option maxHeartbeats 4000000 in
theorem views_contract {w : World} {p : Nat} {L : Lay} {S : NetS} {k : Nat} (h : NetAt w p L S) (g : Good S k) :
    Calls Try.prog 30 #[ptr p, .int .i64 S.n] w fun e w' => ListPost w S.views e w' := by
  have n8 := g.wf.n8
  unfold ptr
  go_enter Try.func30, Try.ntmps30
  go_wp2_with fail
  go_loopw [5, 6] (fun u v W => ∃ a : Nat, v = .int .i64 a ∧ a ≤ S.n ∧ Own w W u (S.viewTo a)) (fun _ v _ => S.n - (intOf v).toNat)
  case atStart => exact ⟨0, rfl, Nat.zero_le _, Own.nil (Touch.refl _ w)⟩
  case round =>
    obtain ⟨a, rfl, ha, ho⟩ := hrel
    have hto := g.wf.viewToLen a ha
    by_cases hlt : a < S.n
    · have hel := Lib.hid (show S.hasL a = S.texts a from by unfold NetS.hasL; rw [if_pos hlt])
      have htx := g.wf.textsLen hlt
      have ho1 := ho.then (Ext.alloc wr (.cells #[.string sNode] 9))
      have hr1 := Row.new wr 9 [.string sNode] (by simp) (by simp)
      go_wp2_with (first
        | ((with_reducible change wpList _ _ _ (Oper.mk _ (Op.call (Call.mk (Callee.builtin Builtin.append) _ _)) _ _ _ _ :: _) _ _); refine BigFrame.wpList_want rfl (fun K hK => ?_); refine op_append_texts (ys := [sNode]) rfl rfl rfl ho1 hr1 (by simp; omega) ?_; intro v1 w1 o1 t1; refine hK _ _ ?_; clear hK K))
      have hl1 := Lib.hid (show (S.viewTo a ++ [sNode]).length ≤ 100000 from by simp; omega)
      ((first | go_at_call 22 | (go_wp2_with fail; go_at_call 22)); refine (has_is (h.ext o1.ext) g a (by omega) hel.out).mono ?_; rintro _ w2 ⟨v2, rfl, r2, x2, f2⟩)
      have o2 := o1.then x2
      go_wp2_with (first
        | ((with_reducible change wpList _ _ _ (Oper.mk _ (Op.call (Call.mk (Callee.builtin Builtin.append) _ _)) _ _ _ _ :: _) _ _); refine BigFrame.wpList_want rfl (fun K hK => ?_); refine op_append_texts (ys := S.texts a) rfl rfl rfl o2 r2 (by have := hl1.out; omega) ?_; intro v3 w3 o3 t3; refine hK _ _ ?_; clear hK K))
      have hl3 := Lib.hid (show (S.viewTo a ++ [sNode] ++ S.texts a).length ≤ 200000 from by have := hl1.out; rw [List.length_append]; omega)
      go_loopw [5, 7] (fun u v W => ∃ b : Nat, v = .int .i64 b ∧ b ≤ S.n ∧ Own w W u (S.viewTo a ++ [sNode] ++ S.texts a ++ S.viewIn a b)) (fun _ v _ => S.n - (intOf v).toNat)
      case atStart => exact ⟨0, rfl, Nat.zero_le _, by simpa [NetS.viewIn] using o3⟩
      case round =>
        obtain ⟨b, rfl, hb, hob⟩ := hrel
        have hin := g.wf.viewInLen a b
        by_cases hbl : b < S.n
        · have hlk := g.wf.lacksLen a b
          have hob1 := hob.then (Ext.alloc wr (.cells #[.string sLacks] 9))
          have hrb1 := Row.new wr 9 [.string sLacks] (by simp) (by simp)
          have hl5 := Lib.hid (show (S.viewTo a ++ [sNode] ++ S.texts a ++ S.viewIn a b).length + 1 ≤ 300000 from by have := hl3.out; rw [List.length_append]; omega)
          go_wp2_with (first
            | ((with_reducible change wpList _ _ _ (Oper.mk _ (Op.call (Call.mk (Callee.builtin Builtin.append) _ _)) _ _ _ _ :: _) _ _); refine BigFrame.wpList_want rfl (fun K hK => ?_); refine op_append_texts (ys := [sLacks]) rfl rfl rfl hob1 hrb1 (by have := hl5.out; simp only [List.length_cons, List.length_nil]; omega) ?_; intro v5 w5 o5 t5; refine hK _ _ ?_; clear hK K))
          ((first | go_at_call 24 | (go_wp2_with fail; go_at_call 24)); refine (lacks_is (h.ext o5.ext) g a b (by omega) (by omega) rfl).mono ?_; rintro _ w6 ⟨v6, rfl, r6, x6, f6⟩)
          have o6 := o5.then x6
          go_wp2_with (first
            | ((with_reducible change wpList _ _ _ (Oper.mk _ (Op.call (Call.mk (Callee.builtin Builtin.append) _ _)) _ _ _ _ :: _) _ _); refine BigFrame.wpList_want rfl (fun K hK => ?_); refine op_append_texts (ys := S.lacks a b) rfl rfl rfl o6 r6 (by have := hl5.out; rw [List.length_append, List.length_singleton]; omega) ?_; intro v7 w7 o7 t7; refine hK _ _ ?_; clear hK K))
          exact ⟨⟨b + 1, by go_num, hbl, by rw [NetS.viewIn_succ]; simpa [List.append_assoc] using o7⟩, by simp [intOf]; omega⟩
        · have e : b = S.n := by omega
          subst e
          go_wp2_with fail
          exact ⟨⟨a + 1, by go_num, hlt, by rw [NetS.viewTo_succ]; exact hob⟩, by simp [intOf]; omega⟩
    · have e : a = S.n := by omega
      subst e
      go_wp2_with fail
      go_ret
      exact ⟨_, rfl, ho.row, ho.ext, ho.new⟩
end Go.Proofs.Ytcipfpebjeakfaa
