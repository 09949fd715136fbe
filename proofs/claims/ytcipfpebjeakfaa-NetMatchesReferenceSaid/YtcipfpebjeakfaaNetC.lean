/-
  Contracts: IndexFunc at ints and at strings, ContainsFunc at ints; there, line.
-/
import Derived.Test.YtcipfpebjeakfaaNetB
import Derived.LoopTactic
namespace Go.Proofs.Ytcipfpebjeakfaa
open Go Go.RowKit
open Go.Maps (Keyed)

attribute [local irreducible] World.cell? World.frozen? isAggB _root_.Go.Program.underlying

theorem Try.szE3 : (Try.prog.info? 3).map (·.size) = some 1 := Try.sz3
theorem Try.szE9 : (Try.prog.info? 9).map (·.size) = some 1 := by kernel_rfl
theorem Try.szE56 : (Try.prog.info? 56).map (·.size) = some 1 := by kernel_rfl

def idxOf {α : Type} (p : α → Bool) : List α → Int
  | [] => -1
  | x :: xs => if p x then 0 else if idxOf p xs < 0 then -1 else idxOf p xs + 1

theorem idxOf_ge {α : Type} (p : α → Bool) : ∀ xs, -1 ≤ idxOf p xs
  | [] => by simp [idxOf]
  | x :: xs => by unfold idxOf; split <;> (try split) <;> omega
theorem idxOf_none {α : Type} (p : α → Bool) : ∀ xs, (∀ x ∈ xs, p x = false) → idxOf p xs = -1
  | [], _ => rfl
  | x :: xs, h => by
    unfold idxOf
    rw [if_neg (by rw [h x (by simp)]; simp), idxOf_none p xs (fun y hy => h y (by simp [hy]))]
    rfl
theorem idxOf_at {α : Type} (p : α → Bool) : ∀ (xs : List α) (k : Nat) (hk : k < xs.length), (∀ x ∈ xs.take k, p x = false) → p xs[k] = true → idxOf p xs = k
  | x :: xs, 0, _, _, h => by unfold idxOf; rw [if_pos (by simpa using h)]; rfl
  | x :: xs, k + 1, hk, hf, h => by
    unfold idxOf
    rw [if_neg (by rw [hf x (by simp)]; simp), idxOf_at p xs k (by simpa using hk) (fun y hy => hf y (by simp [hy])) (by simpa using h)]
    rw [if_neg (by omega)]
    omega
theorem idxOf_any {α : Type} (p : α → Bool) : ∀ xs, decide (0 ≤ idxOf p xs) = xs.any p
  | [] => rfl
  | x :: xs => by
    have h := idxOf_any p xs
    unfold idxOf
    by_cases hx : p x = true
    · rw [if_pos hx]; simp [hx]
    · have hx' : p x = false := by simpa using hx
      rw [if_neg hx]
      simp only [List.any_cons, hx', Bool.false_or, ← h]
      have := idxOf_ge p xs
      split
      · simp; omega
      · rename_i h2
        have a1 : 0 ≤ idxOf p xs := by omega
        have a2 : 0 ≤ idxOf p xs + 1 := by omega
        simp [a1, a2]

set_option maxRecDepth 100000 in
set_option maxHeartbeats 1000000 in
theorem index_int {α : Type} (enc : α → Value) (p : α → Bool) (xs : List α) (v c : Value) (fn : FuncId) (w : World) (hrow : Row w 3 1 v (xs.map enc)) (hn : xs.length ≤ 1000000)
    (hrun : ∀ (args : Array Value) (w : World), (callFunc fn args).run Try.prog w = .ok (.enter fn args) w) (hp : ∀ x ∈ xs, Calls Try.prog fn #[enc x, c] w fun e w' => e = .returned (.bool (p x)) ∧ w = w') :
    Calls Try.prog 44 #[v, .func (.func fn) #[] #[c]] w fun e w' => e = .returned (.int .i64 (idxOf p xs)) ∧ w = w' := by
  have hlen := Lib.hid (show (xs.map enc).length = xs.length * 1 from by simp)
  have hp' := Lib.hid hp
  clear hp
  go_enter Try.func44, Try.ntmps44
  go_wp2_with (first
    | ((with_reducible change wpList _ _ _ (Oper.mk _ (Op.call (Call.mk (Callee.builtin Builtin.len) _ _)) _ _ _ _ :: _) _ _); refine BigFrame.wpList_want rfl (fun K hK => ?_); refine op_len_row rfl rfl Try.underlying72 hrow (by omega) hlen.out ?_; refine hK _ _ ?_; clear hK K))
  go_loop [5, 8] (fun _ u => ∃ k : Nat, k ≤ xs.length ∧ u = .int .i64 k ∧ ∀ x ∈ xs.take k, p x = false) (fun _ u => xs.length - (intOf u).toNat)
  case atStart => exact ⟨0, Nat.zero_le _, rfl, by simp⟩
  case round =>
    obtain ⟨k, hk, rfl, hf⟩ := hrel
    have hf' := Lib.hid hf
    clear hf
    by_cases hlt : k < xs.length
    · have hm := Lib.hid (show xs[k] ∈ xs from List.getElem_mem hlt)
      have hb := Lib.hid (show (k + 1) * 1 ≤ (xs.map enc).length from by rw [hlen.out]; omega)
      have hx := Lib.hid (show (xs.map enc)[k * 1 + 0]? = some (enc xs[k]) from by simp [hlt])
      go_wp2_with (first
        | ((with_reducible change wpList _ _ _ (Oper.mk _ (Op.indexAddr _ _ _) _ _ _ _ :: _) _ _); refine BigFrame.wpList_want rfl (fun K hK => ?_); refine op_index_row (i := k) rfl rfl rfl Try.underlying72 Try.szE3 hrow hb.out (by omega) ?_; intro g j cs hel; refine hK _ _ ?_; clear hK K)
        | ((with_reducible change wpList _ _ _ (Oper.mk _ (Op.load _ _) _ _ _ _ :: _) _ _); refine BigFrame.wpList_want rfl (fun K hK => ?_); refine op_load1 rfl rfl Try.ag3 (hel.cell (j := 0) (by omega) hx.out) ?_; refine hK _ _ ?_; clear hK K)
        | ((with_reducible change wpList _ _ _ (Oper.mk _ (Op.call (Call.mk (Callee.value _) _ _)) _ _ _ _ :: _) _ _); refine BigFrame.wpList_want rfl (fun K hK => ?_); refine op_call_fn rfl rfl rfl hrun (hp'.out _ hm.out) ?_; refine hK _ _ ?_; clear hK K))
      · go_ret
        refine ⟨?_, rfl⟩
        have hpk : p xs[k] = true := by assumption
        rw [idxOf_at p xs k hlt hf'.out hpk]
        rfl
      · go_round
        case rel =>
          have hpk : p xs[k] = false := by assumption
          refine ⟨k + 1, by omega, by go_num, fun x hx => ?_⟩
          rw [List.take_succ_eq_append_getElem hlt, List.mem_append, List.mem_singleton] at hx
          rcases hx with hx | rfl
          · exact hf'.out x hx
          · exact hpk
        case measure => simp [intOf]; omega
    · go_wp2
      go_ret
      refine ⟨?_, rfl⟩
      have hk' : k = xs.length := by omega
      have h0 := hf'.out
      rw [hk', List.take_length] at h0
      rw [idxOf_none p xs h0]
      rfl

set_option maxRecDepth 100000 in
set_option maxHeartbeats 1000000 in
theorem index_str {α : Type} (enc : α → Value) (p : α → Bool) (xs : List α) (v c : Value) (fn : FuncId) (w : World) (hrow : Row w 9 1 v (xs.map enc)) (hn : xs.length ≤ 1000000)
    (hrun : ∀ (args : Array Value) (w : World), (callFunc fn args).run Try.prog w = .ok (.enter fn args) w) (hp : ∀ x ∈ xs, Calls Try.prog fn #[enc x, c] w fun e w' => e = .returned (.bool (p x)) ∧ w = w') :
    Calls Try.prog 43 #[v, .func (.func fn) #[] #[c]] w fun e w' => e = .returned (.int .i64 (idxOf p xs)) ∧ w = w' := by
  have hlen := Lib.hid (show (xs.map enc).length = xs.length * 1 from by simp)
  have hp' := Lib.hid hp
  clear hp
  go_enter Try.func43, Try.ntmps43
  go_wp2_with (first
    | ((with_reducible change wpList _ _ _ (Oper.mk _ (Op.call (Call.mk (Callee.builtin Builtin.len) _ _)) _ _ _ _ :: _) _ _); refine BigFrame.wpList_want rfl (fun K hK => ?_); refine op_len_row rfl rfl Try.underlying39 hrow (by omega) hlen.out ?_; refine hK _ _ ?_; clear hK K))
  go_loop [5, 8] (fun _ u => ∃ k : Nat, k ≤ xs.length ∧ u = .int .i64 k ∧ ∀ x ∈ xs.take k, p x = false) (fun _ u => xs.length - (intOf u).toNat)
  case atStart => exact ⟨0, Nat.zero_le _, rfl, by simp⟩
  case round =>
    obtain ⟨k, hk, rfl, hf⟩ := hrel
    have hf' := Lib.hid hf
    clear hf
    by_cases hlt : k < xs.length
    · have hm := Lib.hid (show xs[k] ∈ xs from List.getElem_mem hlt)
      have hb := Lib.hid (show (k + 1) * 1 ≤ (xs.map enc).length from by rw [hlen.out]; omega)
      have hx := Lib.hid (show (xs.map enc)[k * 1 + 0]? = some (enc xs[k]) from by simp [hlt])
      go_wp2_with (first
        | ((with_reducible change wpList _ _ _ (Oper.mk _ (Op.indexAddr _ _ _) _ _ _ _ :: _) _ _); refine BigFrame.wpList_want rfl (fun K hK => ?_); refine op_index_row (i := k) rfl rfl rfl Try.underlying39 Try.szE9 hrow hb.out (by omega) ?_; intro g j cs hel; refine hK _ _ ?_; clear hK K)
        | ((with_reducible change wpList _ _ _ (Oper.mk _ (Op.load _ _) _ _ _ _ :: _) _ _); refine BigFrame.wpList_want rfl (fun K hK => ?_); refine op_load1 rfl rfl Try.ag9 (hel.cell (j := 0) (by omega) hx.out) ?_; refine hK _ _ ?_; clear hK K)
        | ((with_reducible change wpList _ _ _ (Oper.mk _ (Op.call (Call.mk (Callee.value _) _ _)) _ _ _ _ :: _) _ _); refine BigFrame.wpList_want rfl (fun K hK => ?_); refine op_call_fn rfl rfl rfl hrun (hp'.out _ hm.out) ?_; refine hK _ _ ?_; clear hK K))
      · go_ret
        refine ⟨?_, rfl⟩
        have hpk : p xs[k] = true := by assumption
        rw [idxOf_at p xs k hlt hf'.out hpk]
        rfl
      · go_round
        case rel =>
          have hpk : p xs[k] = false := by assumption
          refine ⟨k + 1, by omega, by go_num, fun x hx => ?_⟩
          rw [List.take_succ_eq_append_getElem hlt, List.mem_append, List.mem_singleton] at hx
          rcases hx with hx | rfl
          · exact hf'.out x hx
          · exact hpk
        case measure => simp [intOf]; omega
    · go_wp2
      go_ret
      refine ⟨?_, rfl⟩
      have hk' : k = xs.length := by omega
      have h0 := hf'.out
      rw [hk', List.take_length] at h0
      rw [idxOf_none p xs h0]
      rfl

theorem run_fn42 (args : Array Value) (w : World) : (callFunc 42 args).run Try.prog w = .ok (.enter 42 args) w := by
  go_simp
theorem run_fn40 (args : Array Value) (w : World) : (callFunc 40 args).run Try.prog w = .ok (.enter 40 args) w := by
  go_simp

set_option maxRecDepth 100000 in
set_option maxHeartbeats 1000000 in
theorem contains_int {α : Type} (enc : α → Value) (p : α → Bool) (xs : List α) (v c : Value) (fn : FuncId) (w : World) (hrow : Row w 3 1 v (xs.map enc)) (hn : xs.length ≤ 1000000)
    (hrun : ∀ (args : Array Value) (w : World), (callFunc fn args).run Try.prog w = .ok (.enter fn args) w) (hp : ∀ x ∈ xs, Calls Try.prog fn #[enc x, c] w fun e w' => e = .returned (.bool (p x)) ∧ w = w') :
    Calls Try.prog 41 #[v, .func (.func fn) #[] #[c]] w fun e w' => e = .returned (.bool (xs.any p)) ∧ w = w' := by
  have hc := Lib.hid (index_int enc p xs v c fn w hrow hn hrun hp)
  clear hp hrun hrow
  have hany := Lib.hid (idxOf_any p xs)
  go_enter Try.func41, Try.ntmps41
  go_wp2_with (first
    | (go_at_call 44; refine hc.out.mono ?_; rintro _ _ ⟨rfl, rfl⟩))
  go_ret
  refine ⟨?_, rfl⟩
  rw [← hany.out]
  rfl

/-- The closure of 'there'. -/
def notIn (n : Nat) (i : Int) : Bool := decide (i < 0) || decide ((n : Int) ≤ i)

theorem there1_contract {w : World} {p : Nat} {L : Lay} {S : NetS} (h : NetAt w p L S) (i : Int) (c : Nat) (hc : w.cell? ⟨c, 0, none⟩ = some (ptr p)) :
    Calls Try.prog 42 #[.int .i64 i, ptr c] w fun e w' => e = .returned (.bool (notIn S.n i)) ∧ w = w' := by
  have hc' := Lib.hid hc
  clear hc
  have f0 := Lib.hid (show w.cell? ⟨p, 0, none⟩ = some L.nodes from h.net.cell (i := 0) rfl)
  have hrow := h.nodes
  have hl := Lib.hid (show ((List.range S.n).map fun i => ptr (L.node i)).length = S.n * 1 from by simp)
  have h8 : (S.n : Int) ≤ 8 := by have := h.n8; omega
  unfold ptr at hc' ⊢
  by_cases hi : i < 0
  · have hi' : decide (i < 0) = true := by simpa using hi
    go_enter Try.func42, Try.ntmps42
    go_wp2_with (first
      | ((with_reducible change wpList _ _ _ (Oper.mk _ (Op.load _ _) _ _ _ _ :: _) _ _); refine BigFrame.wpList_want rfl (fun K hK => ?_); refine op_load1 rfl rfl Try.ag25 hc'.out ?_; refine hK _ _ ?_; clear hK K)
      | ((with_reducible change wpList _ _ _ (Oper.mk _ (Op.load _ _) _ _ _ _ :: _) _ _); refine BigFrame.wpList_want rfl (fun K hK => ?_); refine op_load1 rfl rfl Try.ag53 f0.out ?_; refine hK _ _ ?_; clear hK K)
      | ((with_reducible change wpList _ _ _ (Oper.mk _ (Op.call (Call.mk (Callee.builtin Builtin.len) _ _)) _ _ _ _ :: _) _ _); refine BigFrame.wpList_want rfl (fun K hK => ?_); refine op_len_row rfl rfl Try.underlying53 hrow (by omega) hl.out ?_; refine hK _ _ ?_; clear hK K))
    go_ret
    refine ⟨?_, rfl⟩
    simp [notIn, hi]
  · have hi' : decide (i < 0) = false := by simpa using hi
    go_enter Try.func42, Try.ntmps42
    go_wp2_with (first
      | ((with_reducible change wpList _ _ _ (Oper.mk _ (Op.load _ _) _ _ _ _ :: _) _ _); refine BigFrame.wpList_want rfl (fun K hK => ?_); refine op_load1 rfl rfl Try.ag25 hc'.out ?_; refine hK _ _ ?_; clear hK K)
      | ((with_reducible change wpList _ _ _ (Oper.mk _ (Op.load _ _) _ _ _ _ :: _) _ _); refine BigFrame.wpList_want rfl (fun K hK => ?_); refine op_load1 rfl rfl Try.ag53 f0.out ?_; refine hK _ _ ?_; clear hK K)
      | ((with_reducible change wpList _ _ _ (Oper.mk _ (Op.call (Call.mk (Callee.builtin Builtin.len) _ _)) _ _ _ _ :: _) _ _); refine BigFrame.wpList_want rfl (fun K hK => ?_); refine op_len_row rfl rfl Try.underlying53 hrow (by omega) hl.out ?_; refine hK _ _ ?_; clear hK K))

    go_ret
    refine ⟨?_, rfl⟩
    simp [notIn]
    intro; omega

def ints (l : List Int) : List Value := l.map (.int .i64)
def thereB (n : Nat) (l : List Int) : Bool := !(l.any (notIn n))

set_option maxRecDepth 100000 in
set_option maxHeartbeats 1000000 in
theorem there_contract {w : World} {p : Nat} {L : Lay} {S : NetS} (h : NetAt w p L S) (l : List Int) (v : Value) (hl : l.length ≤ 1000000) (hv : Row w 3 1 v (ints l)) :
    Calls Try.prog 31 #[ptr p, v] w fun e w' => e = .returned (.bool (thereB S.n l)) ∧ Ext w w' := by
  have hcell := Lib.hid (show (w.alloc (.cells #[.pointer (some ⟨p, 0, none⟩)] 25)).cell? ⟨w.heap.size, 0, none⟩ = some (.pointer (some ⟨p, 0, none⟩)) from (show Blk (w.alloc (.cells #[.pointer (some ⟨p, 0, none⟩)] 25)) w.heap.size 25 #[.pointer (some ⟨p, 0, none⟩)] from obj_new w _).cell (i := 0) rfl)
  have hc := Lib.hid (contains_int (.int .i64) (notIn S.n) l v (ptr w.heap.size) 42 (w.alloc (.cells #[.pointer (some ⟨p, 0, none⟩)] 25)) (hv.alloc _) hl run_fn42
    (fun x _ => there1_contract (h.alloc _) x w.heap.size hcell.out))
  unfold ptr at hc ⊢
  go_enter Try.func31, Try.ntmps31
  go_wp2_with (first
    | ((with_reducible change wpList _ _ _ (Oper.mk _ (Op.load _ _) _ _ _ _ :: _) _ _); refine BigFrame.wpList_want rfl (fun K hK => ?_); refine op_load1 rfl rfl Try.ag25 hcell.out ?_; refine hK _ _ ?_; clear hK K)
    | (go_at_call 41; refine hc.out.mono ?_; rintro _ _ ⟨rfl, rfl⟩))

  go_ret
  exact ⟨rfl, Ext.alloc w _⟩

end Go.Proofs.Ytcipfpebjeakfaa
