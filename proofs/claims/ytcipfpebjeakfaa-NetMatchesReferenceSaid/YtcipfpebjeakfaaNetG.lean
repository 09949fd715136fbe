/-
  Contracts: Put, Cut; and Put and Has at nil.
-/
import Derived.Test.YtcipfpebjeakfaaNetF
namespace Go.Proofs.Ytcipfpebjeakfaa
open Go Go.RowKit
open Go.Maps (Keyed)

attribute [local irreducible] World.cell? World.frozen? isAggB _root_.Go.Program.underlying

theorem LayTo.same {B : Nat} {w w' : World} {L : Lay} {F : Nat → Prop} (hB : B ≤ w.heap.size) (ht : Touch F w w') (hF : ∀ b, b < w.heap.size → F b → B ≤ b ∨ (L.tag b ≠ .oth ∧ L.tag b ≠ .msg)) : LayTo B w w' L L :=
  ⟨rfl, rfl, rfl, rfl, rfl, rfl, hB, fun _ _ h => h, fun _ h => h, ht.mono hF⟩
theorem AddPost.ext {B : Nat} {w w' w'' : World} {p : Nat} {L : Lay} {S : NetS} (h : AddPost B w p L S w') (hE : Ext w' w'') : AddPost B w p L S w'' := by
  obtain ⟨L', h1, h2⟩ := h
  exact ⟨L', h1.ext hE, h2.ext hE⟩
theorem AddPost.of_ext {w w' : World} {p : Nat} {L : Lay} {S : NetS} (h : NetAt w p L S) (hE : Ext w w') : AddPost w.heap.size w p L S w' := ⟨L, h.ext hE, LayTo.same (Nat.le_refl _) hE fun _ _ h => h.elim⟩
theorem AddPost.after {B B' : Nat} {w w' w'' : World} {p : Nat} {L L' : Lay} {S : NetS} (h : LayTo B w w' L L') (h' : AddPost B' w' p L' S w'') (hB : B ≤ B') : AddPost B w p L S w'' := by
  obtain ⟨L'', h1, h2⟩ := h'
  exact ⟨L'', h1, h.trans (h2.less hB)⟩

theorem updS_self (f : SetId → List ByteArray) (i : SetId) : updS f i (f i) = f := by
  funext j
  unfold updS
  split
  · rename_i h; rw [h]
  · rfl
def NetS.know (S : NetS) (s : ByteArray) : NetS := if s ∈ S.sets .all then S else { S with sets := updS S.sets .all (S.sets .all ++ [s]) }
def NetS.put (S : NetS) (i : Nat) (s : ByteArray) : NetS := if i < S.n then (S.know s).add i s else S
def NetS.okI (S : NetS) (i : Nat) : Int := if i < S.n then 0 else 1

theorem NetS.know_n (S : NetS) (s : ByteArray) : (S.know s).n = S.n := by unfold NetS.know; split <;> rfl
theorem NetS.know_texts (S : NetS) (s : ByteArray) : (S.know s).texts = S.texts := by unfold NetS.know; split <;> rfl

set_option maxRecDepth 100000 in
set_option maxHeartbeats 1000000 in
theorem put_contract {w : World} {p : Nat} {L : Lay} {S : NetS} (h : NetAt w p L S) (wf : Wf S) (i : Nat) (s : ByteArray) (_hi6 : i ≤ 1000) (hs : s.size ≤ 20000) (hall : (S.sets .all).length ≤ 900) :
    Calls Try.prog 13 #[ptr p, .int .i64 i, .string s] w fun e w' => e = .returned (.int .i64 (S.okI i)) ∧ AddPost w.heap.size w p L (S.put i s) w' := by
  have hth := Lib.hid (there_contract (h.alloc (.cells #[.int .i64 i] 3)) [(i : Int)] (.slice (some ⟨w.heap.size, 0, none⟩) 1 1) (by simp) (Row.new w 3 [.int .i64 i] (by simp) (by simp)))
  rw [there1_iff] at hth
  by_cases hi : i < S.n
  · rw [decide_eq_true hi] at hth
    have hi' := Lib.hid hi
    have f0 := Lib.hid (show w.cell? ⟨p, 0, none⟩ = some L.nodes from h.net.cell (i := 0) rfl)
    have f3 := Lib.hid (show w.cell? ⟨p, 3, none⟩ = some (.map (some (L.sets .all))) from h.net.cell (i := 3) rfl)
    have hlen := Lib.hid (show (i + 1) * 1 ≤ ((List.range S.n).map fun i => ptr (L.node i)).length from by simp; omega)
    have hel0 := Lib.hid (node_at L hi)
    have htl := Lib.hid (wf.textsLen hi)
    have hm := h.sets .all trivial
    have hpa := Lib.hid (show ¬ (p = L.sets .all) from fun e => by have := h.tnet; rw [e, h.tset .all trivial] at this; cases this)
    have hno : ∀ b, rowBlock L.nodes = some b → ¬ (b = L.sets .all) := fun b hb e => by have := h.tnodes b hb; rw [e, h.tset .all trivial] at this; cases this
    have hno' := Lib.hid hno
    have hta := Lib.hid (show L.tag (L.sets .all) ≠ .oth ∧ L.tag (L.sets .all) ≠ .msg from by rw [h.tset .all trivial]; simp)
    have hcode : S.okI i = 0 := by unfold NetS.okI; rw [if_pos hi]
    have hput : S.put i s = (S.know s).add i s := by unfold NetS.put; rw [if_pos hi]
    rw [hcode, hput]
    clear hi hno hcode hput
    by_cases hin : s ∈ S.sets .all
    · have hin' := Lib.hid hin
      have hk : S.know s = S := by unfold NetS.know; rw [if_pos hin]
      rw [hk]
      clear hk hin
      unfold ptr at hth hel0 ⊢
      go_enter Try.func13, Try.ntmps13
      go_wp2_with (first
        | (go_at_call 31; refine hth.out.mono ?_; rintro _ w1 ⟨rfl, hE1⟩; have hE := (Ext.alloc w (.cells #[.int .i64 i] 3)).then_ext hE1; have h1 := h.ext hE)
        | ((with_reducible change wpList _ _ _ (Oper.mk _ (Op.load _ _) _ _ _ _ :: _) _ _); refine BigFrame.wpList_want rfl (fun K hK => ?_); refine op_load1 rfl rfl Try.ag44 (hE.cell f3.out (fun h => h)) ?_; refine hK _ _ ?_; clear hK K)
        | ((with_reducible change wpList _ _ _ (Oper.mk _ (Op.lookup _ _ _ _) _ _ _ _ :: _) _ _); refine BigFrame.wpList_want rfl (fun K hK => ?_); refine op_lookup_hit rfl rfl rfl Try.k9 Try.underlying44 (h1.sets .all trivial) (key9 hs) (strs_in hin'.out) ?_; refine hK _ _ ?_; clear hK K)
        | ((with_reducible change wpList _ _ _ (Oper.mk _ (Op.mapUpdate _ _ _ _) _ _ _ _ :: _) _ _); refine BigFrame.wpList_want rfl (fun K hK => ?_); refine op_update_hit (k := .string s) (v := .bool true) rfl rfl rfl rfl Try.k9 Try.underlying44 (h1.sets .all trivial) (key9 hs) (strs_in_keys hin'.out) ?_; intro w2 hm2 ht2 hz2; refine hK _ _ ?_; clear hK K; rw [strs_again] at hm2; have hset := h1.setSet (s := .all) trivial (S.sets .all) ht2 hm2; rw [updS_self] at hset; have hadd := add_contract hset hi'.out hs htl.out)
        | ((with_reducible change wpList _ _ _ (Oper.mk _ (Op.load _ _) _ _ _ _ :: _) _ _); refine BigFrame.wpList_want rfl (fun K hK => ?_); refine op_load1 rfl rfl Try.ag53 (ht2.cell (hE.cell f0.out (fun h => h)) hpa.out) ?_; refine hK _ _ ?_; clear hK K)
        | ((with_reducible change wpList _ _ _ (Oper.mk _ (Op.indexAddr _ _ _) _ _ _ _ :: _) _ _); refine BigFrame.wpList_want rfl (fun K hK => ?_); refine op_index_row (i := i) rfl rfl rfl Try.underlying53 Try.szE56 (h1.nodes.keep ht2 hno'.out) hlen.out (by omega) ?_; intro g k cs hel; refine hK _ _ ?_; clear hK K)
        | ((with_reducible change wpList _ _ _ (Oper.mk _ (Op.load _ _) _ _ _ _ :: _) _ _); refine BigFrame.wpList_want rfl (fun K hK => ?_); refine op_load1 rfl rfl Try.ag56 (hel.cell (j := 0) (by omega) hel0.out) ?_; refine hK _ _ ?_; clear hK K)
        | (go_at_call 32; refine hadd.mono ?_; rintro _ w3 ⟨rfl, hpost⟩))
      go_ret
      refine ⟨rfl, AddPost.after (B := w.heap.size) (LayTo.same (F := fun b => b = L.sets .all) (Nat.le_refl _) ((Touch.of_ext hE).trans ht2 fun _ _ h => h) fun b _ e => .inr ?_) hpost (Nat.le_trans hE.size ht2.size)⟩
      subst e; exact hta.out
    · have hin' := Lib.hid hin
      have hk : S.know s = { S with sets := updS S.sets .all (S.sets .all ++ [s]) } := by unfold NetS.know; rw [if_neg hin]
      rw [hk]
      have h900 : (strs (S.sets .all)).length ≤ 900 := by unfold strs; simpa using hall
      clear hk hin
      unfold ptr at hth hel0 ⊢
      go_enter Try.func13, Try.ntmps13
      go_wp2_with (first
        | (go_at_call 31; refine hth.out.mono ?_; rintro _ w1 ⟨rfl, hE1⟩; have hE := (Ext.alloc w (.cells #[.int .i64 i] 3)).then_ext hE1; have h1 := h.ext hE)
        | ((with_reducible change wpList _ _ _ (Oper.mk _ (Op.load _ _) _ _ _ _ :: _) _ _); refine BigFrame.wpList_want rfl (fun K hK => ?_); refine op_load1 rfl rfl Try.ag44 (hE.cell f3.out (fun h => h)) ?_; refine hK _ _ ?_; clear hK K)
        | ((with_reducible change wpList _ _ _ (Oper.mk _ (Op.lookup _ _ _ _) _ _ _ _ :: _) _ _); refine BigFrame.wpList_want rfl (fun K hK => ?_); refine op_lookup_miss rfl rfl rfl Try.k9 Try.underlying44 (h1.sets .all trivial) Try.z4 (key9 hs) (strs_out hin'.out) ?_; refine hK _ _ ?_; clear hK K)
        | ((with_reducible change wpList _ _ _ (Oper.mk _ (Op.call (Call.mk (Callee.builtin Builtin.len) _ _)) _ _ _ _ :: _) _ _); refine BigFrame.wpList_want rfl (fun K hK => ?_); refine op_len_map rfl rfl Try.underlying44 (h1.sets .all trivial) ?_; refine hK _ _ ?_; clear hK K)
        | ((with_reducible change wpList _ _ _ (Oper.mk _ (Op.mapUpdate _ _ _ _) _ _ _ _ :: _) _ _); refine BigFrame.wpList_want rfl (fun K hK => ?_); refine op_update_miss (k := .string s) (v := .bool true) rfl rfl rfl rfl Try.k9 Try.underlying44 (h1.sets .all trivial) (key9 hs) (strs_out hin'.out) ?_; intro w2 hm2 ht2 hz2; refine hK _ _ ?_; clear hK K; rw [strs_app] at hm2; have hset := h1.setSet (s := .all) trivial (S.sets .all ++ [s]) ht2 hm2; have hadd := add_contract hset hi'.out hs htl.out)
        | ((with_reducible change wpList _ _ _ (Oper.mk _ (Op.load _ _) _ _ _ _ :: _) _ _); refine BigFrame.wpList_want rfl (fun K hK => ?_); refine op_load1 rfl rfl Try.ag53 (ht2.cell (hE.cell f0.out (fun h => h)) hpa.out) ?_; refine hK _ _ ?_; clear hK K)
        | ((with_reducible change wpList _ _ _ (Oper.mk _ (Op.indexAddr _ _ _) _ _ _ _ :: _) _ _); refine BigFrame.wpList_want rfl (fun K hK => ?_); refine op_index_row (i := i) rfl rfl rfl Try.underlying53 Try.szE56 (h1.nodes.keep ht2 hno'.out) hlen.out (by omega) ?_; intro g k cs hel; refine hK _ _ ?_; clear hK K)
        | ((with_reducible change wpList _ _ _ (Oper.mk _ (Op.load _ _) _ _ _ _ :: _) _ _); refine BigFrame.wpList_want rfl (fun K hK => ?_); refine op_load1 rfl rfl Try.ag56 (hel.cell (j := 0) (by omega) hel0.out) ?_; refine hK _ _ ?_; clear hK K)
        | (go_at_call 32; refine hadd.mono ?_; rintro _ w3 ⟨rfl, hpost⟩))
      go_ret
      refine ⟨rfl, AddPost.after (B := w.heap.size) (LayTo.same (F := fun b => b = L.sets .all) (Nat.le_refl _) ((Touch.of_ext hE).trans ht2 fun _ _ h => h) fun b _ e => .inr ?_) hpost (Nat.le_trans hE.size ht2.size)⟩
      subst e; exact hta.out
  · rw [decide_eq_false hi] at hth
    have hi' := Lib.hid hi
    have hcode : S.okI i = 1 := by unfold NetS.okI; rw [if_neg hi]
    have hput : S.put i s = S := by unfold NetS.put; rw [if_neg hi]
    rw [hcode, hput]
    clear hi hcode hput
    unfold ptr at hth ⊢
    go_enter Try.func13, Try.ntmps13
    go_wp2_with (first
      | (go_at_call 31; refine hth.out.mono ?_; rintro _ w1 ⟨rfl, hE1⟩))
    go_ret
    exact ⟨rfl, AddPost.of_ext h ((Ext.alloc w _).then_ext hE1)⟩
end Go.Proofs.Ytcipfpebjeakfaa
