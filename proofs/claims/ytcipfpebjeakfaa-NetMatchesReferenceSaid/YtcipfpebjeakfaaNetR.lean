/-
  The list of operations in memory (read only); contracts: short, size, do.
-/
import Derived.Test.YtcipfpebjeakfaaNetO
import Derived.Test.YtcipfpebjeakfaaNetP
import Derived.Test.YtcipfpebjeakfaaNetQ
namespace Go.Proofs.Ytcipfpebjeakfaa
open Go Go.RowKit Go.WideMaps

structure OpV where
  kind : Nat
  a : Nat
  b : Nat
  lost : Bool
  again : Bool
  text : ByteArray

def OpV.cells (o : OpV) : List Value := [.int .u8 o.kind, .int .u8 o.a, .int .u8 o.b, .bool o.lost, .bool o.again, .string o.text]
def OpV.ok (o : OpV) : Prop := o.kind < 256 ∧ o.a < 256 ∧ o.b < 256

/-- v is a slice of the operations l; its memory may only be read. -/
def ROps (w : World) (v : Value) (l : List OpV) : Prop :=
  ∃ (ad : Option Addr) (c : Nat), v = .slice ad l.length c ∧ l.length ≤ c ∧ c ≤ maxLen ∧ (0 < l.length → ad ≠ none) ∧
    ∀ a, ad = some a → ∀ (i : Nat) (o : OpV), l[i]? = some o → ∀ (j : Nat) (u : Value), o.cells[j]? = some u → w.cell? (a.add (i * 6 + j)) = some u

def opsBlock : Value → Option Nat
  | .slice (some a) _ _ => some a.block
  | _ => none

section
variable {P : Program} {a : Act} {w w' : World} {K : Act → World → Prop} {Q : Exit → Act → World → Prop} {o : Oper} {v : Value} {l : List OpV} {F : Nat → Prop} {t : TypeId}
theorem add_twice (a : Addr) (i j : Nat) : (a.add i).add j = a.add (i + j) := by
  unfold Addr.add
  by_cases hi : i = 0 <;> by_cases hj : j = 0 <;> simp [hi, hj, Nat.add_assoc]
theorem add_block (a : Addr) (k : Nat) : (a.add k).block = a.block := by unfold Addr.add; split <;> rfl
theorem ROps.keep (h : ROps w v l) (ht : Touch F w w') (hF : ∀ b, opsBlock v = some b → ¬ F b) : ROps w' v l := by
  obtain ⟨ad, c, rfl, h1, h2, h3, h4⟩ := h
  refine ⟨ad, c, rfl, h1, h2, h3, fun a ha i o hi j u hj => ht.cell (h4 a ha i o hi j u hj) ?_⟩
  rw [add_block]
  exact hF _ (by rw [ha]; rfl)

theorem op_len_ops {x : Operand} {E : TypeId} (ho : o.op = .call { callee := .builtin .len, args := #[x], argTypes := #[t] }) (hx : a.eval x = v) (ht : P.underlying t = some (.slice E)) (hl : ROps w v l)
    (h : K (a.put o.dst (.int .i64 l.length)) w) : o.wp P a w K Q := by
  obtain ⟨ad, c, rfl, _⟩ := hl
  refine op_run (Builtin.len_ #[t] o.type #[.slice ad l.length c]) _ w ?_ ?_ h
  · rw [execOp_builtin1 ho, ← hx]
    simp only [List.map_toArray, List.map_cons, List.map_nil]
    rfl
  · simp [Builtin.len_, run_underlying ht, goInt]

theorem op_index_ops {x y : Operand} {E : TypeId} {i : Nat} (ho : o.op = .indexAddr t x y) (hx : a.eval x = v) (hy : a.eval y = .int .i64 i) (ht : P.underlying t = some (.slice E)) (hs : (P.info? E).map (·.size) = some 6)
    (hl : ROps w v l) (hi : i < l.length)
    (h : ∀ p : Addr, (∀ (j : Nat) (u : Value), (l[i]'hi).cells[j]? = some u → w.cell? (p.add j) = some u) → (∀ b, p.block = b → opsBlock v = some b) → K (a.put o.dst (.pointer (some p))) w) : o.wp P a w K Q := by
  obtain ⟨ad, c, rfl, h1, h2, h3, h4⟩ := hl
  obtain ⟨a0, rfl⟩ := Option.ne_none_iff_exists'.1 (h3 (by omega))
  have haa : ∀ j, (a0.add (i * 6)).add j = a0.add (i * 6 + j) := fun j => add_twice a0 _ _
  refine op_run _ (.pointer (some (a0.add (i * 6)))) w (by rw [execOp_indexAddr ho, hx, hy]) ?_ (h (a0.add (i * 6)) (fun j u hj => by rw [haa]; exact h4 a0 rfl i _ (List.getElem?_eq_getElem hi) j u hj) (fun b hb => by rw [add_block] at hb; simp [opsBlock, hb]))
  cases hinfo : P.info? E with
  | none => rw [hinfo] at hs; cases hs
  | some ti =>
    rw [hinfo] at hs
    simp only [Option.map_some, Option.some.injEq] at hs
    have hb1 : (0 : Int) ≤ (i : Int) ∧ (i : Int) < (l.length : Int) := ⟨by omega, by omega⟩
    simp [Instr.indexAt, asIntOf, run_underlying ht, sizeOf, typeInfo, hinfo, hs, hb1, hi]
end

attribute [local irreducible] World.cell? World.frozen? isAggB _root_.Go.Program.underlying

theorem Try.szE33 : (Try.prog.info? 33).map (·.size) = some 6 := by kernel_rfl

def shortB (l : List OpV) (most : Nat) : Bool := decide (l.length ≤ most) && l.all fun o => decide (o.text.size ≤ 100)

set_option maxRecDepth 100000 in
set_option maxHeartbeats 1000000 in
theorem size_contract (w : World) (raw : Nat) (h : raw < 256) : Calls Try.prog 26 #[.int .u8 raw] w fun e w' => e = .returned (.int .i64 ((1 + raw % 8 : Nat) : Int)) ∧ w = w' := by
  go_enter Try.func26, Try.ntmps26
  go_wp2_with fail
  go_ret
  refine ⟨?_, rfl⟩
  congr 2

set_option maxRecDepth 100000 in
set_option maxHeartbeats 1000000 in
theorem short_contract {w : World} {v : Value} {l : List OpV} (most : Nat) (hl : ROps w v l) (hm : most ≤ 1000) :
    Calls Try.prog 10 #[v, .int .i64 most] w fun e w' => e = .returned (.bool (shortB l most)) ∧ w = w' := by
  have hlen6 : (l.length : Int) ≤ 9223372036854775807 := by obtain ⟨ad, c, _, h1, h2, _⟩ := hl; unfold maxLen at h2; omega
  go_enter Try.func10, Try.ntmps10
  go_wp2_with fail
  go_loop [5] (fun u => ∃ k : Nat, k ≤ l.length ∧ u = .int .i64 k ∧ (l.length ≤ most ∨ k = 0) ∧ ∀ o ∈ l.take k, o.text.size ≤ 100) (fun u => l.length - (intOf u).toNat)
  case atStart => exact ⟨0, Nat.zero_le _, rfl, .inr rfl, by simp⟩
  case round =>
    obtain ⟨k, hk, rfl, hc, hf⟩ := hrel
    have hf' := Lib.hid hf
    have hc' := Lib.hid hc
    clear hf hc
    by_cases hlt : k < l.length
    · by_cases hmo : l.length ≤ most
      · by_cases h100 : l[k].text.size ≤ 100
        · have h100' : ¬ (100 < (l[k].text.size : Int)) := by omega
          go_wp2_with (first
            | ((with_reducible change wpList _ _ _ (Oper.mk _ (Op.call (Call.mk (Callee.builtin Builtin.len) _ _)) _ _ _ _ :: _) _ _); refine BigFrame.wpList_want rfl (fun K hK => ?_); refine op_len_ops rfl rfl Try.underlying22 hl ?_; refine hK _ _ ?_; clear hK K)
            | ((with_reducible change wpList _ _ _ (Oper.mk _ (Op.indexAddr _ _ _) _ _ _ _ :: _) _ _); refine BigFrame.wpList_want rfl (fun K hK => ?_); refine op_index_ops (i := k) rfl rfl rfl Try.underlying22 Try.szE33 hl hlt ?_; intro pp hpp hbb; refine hK _ _ ?_; clear hK K)
            | ((with_reducible change wpList _ _ _ (Oper.mk _ (Op.load _ _) _ _ _ _ :: _) _ _); refine BigFrame.wpList_want rfl (fun K hK => ?_); refine op_load1 rfl rfl Try.ag9 (hpp 5 _ rfl) ?_; refine hK _ _ ?_; clear hK K))
          exact ⟨⟨k + 1, hlt, by go_num, .inl hmo, fun o ho => by
            rw [List.take_succ_eq_append_getElem hlt, List.mem_append, List.mem_singleton] at ho
            rcases ho with ho | rfl
            · exact hf'.out o ho
            · exact h100⟩, by simp [intOf]; omega⟩
        · have h100' : 100 < (l[k].text.size : Int) := by omega
          have hbad := Lib.hid (show shortB l most = false from by
            have : (l.all fun o => decide (o.text.size ≤ 100)) = false := by
              rw [List.all_eq_false]
              exact ⟨l[k], List.getElem_mem hlt, by simpa using h100⟩
            unfold shortB; rw [this, Bool.and_false])
          clear h100
          go_wp2_with (first
            | ((with_reducible change wpList _ _ _ (Oper.mk _ (Op.call (Call.mk (Callee.builtin Builtin.len) _ _)) _ _ _ _ :: _) _ _); refine BigFrame.wpList_want rfl (fun K hK => ?_); refine op_len_ops rfl rfl Try.underlying22 hl ?_; refine hK _ _ ?_; clear hK K)
            | ((with_reducible change wpList _ _ _ (Oper.mk _ (Op.indexAddr _ _ _) _ _ _ _ :: _) _ _); refine BigFrame.wpList_want rfl (fun K hK => ?_); refine op_index_ops (i := k) rfl rfl rfl Try.underlying22 Try.szE33 hl hlt ?_; intro pp hpp hbb; refine hK _ _ ?_; clear hK K)
            | ((with_reducible change wpList _ _ _ (Oper.mk _ (Op.load _ _) _ _ _ _ :: _) _ _); refine BigFrame.wpList_want rfl (fun K hK => ?_); refine op_load1 rfl rfl Try.ag9 (hpp 5 _ rfl) ?_; refine hK _ _ ?_; clear hK K))
          go_ret
          exact ⟨by rw [hbad.out]; rfl, rfl⟩
      · have hbad := Lib.hid (show shortB l most = false from by unfold shortB; rw [decide_eq_false hmo]; rfl)
        go_wp2_with (first
            | ((with_reducible change wpList _ _ _ (Oper.mk _ (Op.call (Call.mk (Callee.builtin Builtin.len) _ _)) _ _ _ _ :: _) _ _); refine BigFrame.wpList_want rfl (fun K hK => ?_); refine op_len_ops rfl rfl Try.underlying22 hl ?_; refine hK _ _ ?_; clear hK K)
            | ((with_reducible change wpList _ _ _ (Oper.mk _ (Op.indexAddr _ _ _) _ _ _ _ :: _) _ _); refine BigFrame.wpList_want rfl (fun K hK => ?_); refine op_index_ops (i := k) rfl rfl rfl Try.underlying22 Try.szE33 hl hlt ?_; intro pp hpp hbb; refine hK _ _ ?_; clear hK K)
            | ((with_reducible change wpList _ _ _ (Oper.mk _ (Op.load _ _) _ _ _ _ :: _) _ _); refine BigFrame.wpList_want rfl (fun K hK => ?_); refine op_load1 rfl rfl Try.ag9 (hpp 5 _ rfl) ?_; refine hK _ _ ?_; clear hK K))
        go_ret
        refine ⟨?_, rfl⟩
        rw [hbad.out]
        have : ¬ ((l.length : Int) ≤ (most : Int)) := by omega
        simp
    · have hke : k = l.length := by omega
      have h0 := hf'.out
      rw [hke, List.take_length] at h0
      have hall := Lib.hid (show shortB l most = decide (l.length ≤ most) from by
        have : (l.all fun o => decide (o.text.size ≤ 100)) = true := List.all_eq_true.2 fun o ho => decide_eq_true (h0 o ho)
        unfold shortB; rw [this, Bool.and_true])
      clear h0
      go_wp2_with (first
            | ((with_reducible change wpList _ _ _ (Oper.mk _ (Op.call (Call.mk (Callee.builtin Builtin.len) _ _)) _ _ _ _ :: _) _ _); refine BigFrame.wpList_want rfl (fun K hK => ?_); refine op_len_ops rfl rfl Try.underlying22 hl ?_; refine hK _ _ ?_; clear hK K)
            | ((with_reducible change wpList _ _ _ (Oper.mk _ (Op.indexAddr _ _ _) _ _ _ _ :: _) _ _); refine BigFrame.wpList_want rfl (fun K hK => ?_); refine op_index_ops (i := k) rfl rfl rfl Try.underlying22 Try.szE33 hl hlt ?_; intro pp hpp hbb; refine hK _ _ ?_; clear hK K)
            | ((with_reducible change wpList _ _ _ (Oper.mk _ (Op.load _ _) _ _ _ _ :: _) _ _); refine BigFrame.wpList_want rfl (fun K hK => ?_); refine op_load1 rfl rfl Try.ag9 (hpp 5 _ rfl) ?_; refine hK _ _ ?_; clear hK K))
      go_ret
      refine ⟨?_, rfl⟩
      rw [hall.out]
      simp
end Go.Proofs.Ytcipfpebjeakfaa
