/-
  Contract: head (the examples of the chapter).
-/
import Derived.Test.YtcipfpebjeakfaaNetS
import Derived.Test.YtcipfpebjeakfaaNetN
namespace Go.Proofs.Ytcipfpebjeakfaa
open Go Go.RowKit Go.WideMaps

attribute [local irreducible] World.cell? World.frozen? isAggB _root_.Go.Program.underlying

abbrev sA : ByteArray := ⟨#[97]⟩
abbrev sB : ByteArray := ⟨#[98]⟩

def Hd0 : NetS := NetS.fresh 2
def Hd1 : NetS := Hd0.put 0 sA
def Hd2 : NetS := Hd1.put 0 sB
def Hd3 : NetS := Hd2.put 0 sA
def Hd4 : NetS := Hd3.put 2 sA
def Hd5 : NetS := Hd4.send 0 1
def Hd6 : NetS := Hd5.deliver 0 1 false false
def Hd7 : NetS := Hd6.deliver 0 1 false false
def Hd8 : NetS := Hd7.send 1 0
def Hd9 : NetS := Hd8.deliver 1 0 false false
def HdA : NetS := Hd9.cutTo 0 1 true
def HdB : NetS := HdA.send 0 1

structure Good (S : NetS) (k : Nat) : Prop where
  wf : Wf S
  cap : Cap S k
theorem Good.put {S : NetS} {k : Nat} (h : Good S k) (hk : k ≤ 98) (i : Nat) {s : ByteArray} (hs : s.size ≤ 20000) : Good (S.put i s) (k + 1) := ⟨h.wf.put hs (by have := h.cap.all; omega), h.cap.put i s⟩
theorem Good.send {S : NetS} {k : Nat} (h : Good S k) (hk : k ≤ 98) (a b : Nat) : Good (S.send a b) (k + 1) := ⟨h.wf.send fun i j => by have := h.cap.q i j; omega, h.cap.send a b⟩
theorem Good.deliver {S : NetS} {k : Nat} (h : Good S k) (a b : Nat) (lost again : Bool) : Good (S.deliver a b lost again) k := ⟨h.wf.deliver a b lost again, h.cap.deliver a b lost again⟩
theorem Good.cutTo {S : NetS} {k : Nat} (h : Good S k) (a b : Nat) (v : Bool) : Good (S.cutTo a b v) k := ⟨h.wf.cutTo a b v, h.cap.cutTo a b v⟩
theorem Good.more {S : NetS} {k k' : Nat} (h : Good S k) (hk : k ≤ k') : Good S k' := ⟨h.wf, h.cap.more hk⟩

theorem good0 : Good Hd0 0 := ⟨Wf.fresh (by omega) (by omega), Cap.fresh 2⟩
theorem good1 : Good Hd1 1 := good0.put (by omega) 0 (by decide)
theorem good2 : Good Hd2 2 := good1.put (by omega) 0 (by decide)
theorem good3 : Good Hd3 3 := good2.put (by omega) 0 (by decide)
theorem good4 : Good Hd4 4 := good3.put (by omega) 2 (by decide)
theorem good5 : Good Hd5 5 := good4.send (by omega) 0 1
theorem good6 : Good Hd6 5 := good5.deliver 0 1 false false
theorem good7 : Good Hd7 5 := good6.deliver 0 1 false false
theorem good8 : Good Hd8 6 := good7.send (by omega) 1 0
theorem good9 : Good Hd9 6 := good8.deliver 1 0 false false
theorem goodA : Good HdA 6 := good9.cutTo 0 1 true

section
variable {w : World} {p : Nat} {L : Lay} {S S' : NetS} {k : Nat}
theorem put_is (h : NetAt w p L S) (g : Good S k) (hk : k ≤ 98) (i : Nat) (s : ByteArray) {r : Int} (hi : i ≤ 1000) (hs : s.size ≤ 20000) (hr : S.okI i = r) (hS : S.put i s = S') :
    Calls Try.prog 13 #[ptr p, .int .i64 i, .string s] w fun e w' => e = .returned (.int .i64 r) ∧ AddPost w.heap.size w p L S' w' := by
  subst hr; subst hS
  exact put_contract h g.wf i s hi hs (by have := g.cap.all; omega)
theorem send_is (h : NetAt w p L S) (g : Good S k) (hk : k ≤ 98) (a b : Nat) {r : Int} (ha : a ≤ 1000) (hb : b ≤ 1000) (hr : S.sendC a b = r) (hS : S.send a b = S') :
    Calls Try.prog 15 #[ptr p, .int .i64 a, .int .i64 b] w fun e w' => e = .returned (.int .i64 r) ∧ AddPost w.heap.size w p L S' w' := by
  subst hr; subst hS
  exact send_contract h g.wf a b ha hb fun i j _ _ => by have := g.cap.q i j; omega
theorem deliver_is (h : NetAt w p L S) (g : Good S k) (a b : Nat) (lost again : Bool) {r : Bool} (ha : a ≤ 1000) (hb : b ≤ 1000) (hr : S.deliverC a b = r) (hS : S.deliver a b lost again = S') :
    Calls Try.prog 17 #[ptr p, .int .i64 a, .int .i64 b, .bool lost, .bool again] w fun e w' => e = .returned (.bool r) ∧ AddPost w.heap.size w p L S' w' := by
  subst hr; subst hS
  exact deliver_contract h g.wf a b lost again ha hb
theorem cut_is (h : NetAt w p L S) (a b : Nat) (v : Bool) {r : Int} (ha : a ≤ 1000) (hb : b ≤ 1000) (hr : S.codeB a b = r) (hS : S.cutTo a b v = S') :
    Calls Try.prog 19 #[ptr p, .int .i64 a, .int .i64 b, .bool v] w fun e w' => e = .returned (.int .i64 r) ∧ AddPost w.heap.size w p L S' w' := by
  subst hr; subst hS
  exact cut_contract h a b v ha hb
theorem has_is (h : NetAt w p L S) (g : Good S k) (i : Nat) {xs : List ByteArray} (hi : i ≤ 1000) (hx : S.hasL i = xs) :
    Calls Try.prog 22 #[ptr p, .int .i64 i] w fun e w' => ListPost w xs e w' := by
  subst hx
  exact has_contract h i (fun j hj => g.wf.textsLen hj) hi
theorem lacks_is (h : NetAt w p L S) (g : Good S k) (a b : Nat) {xs : List ByteArray} (ha : a ≤ 1000) (hb : b ≤ 1000) (hx : S.lacks a b = xs) :
    Calls Try.prog 24 #[ptr p, .int .i64 a, .int .i64 b] w fun e w' => ListPost w xs e w' := by
  subst hx
  exact lacks_contract h g.wf a b ha hb

/-- The network of a law: made behind the law's start. -/
structure LawAt (w0 w : World) (p : Nat) (L : Lay) (S : NetS) : Prop where
  net : NetAt w p L S
  ext : Ext w0 w
  old : ∀ b, b < w0.heap.size → L.tag b = .oth
theorem LawAt.then {w0 : World} (h : LawAt w0 w p L S) {w' : World} (hE : Ext w w') : LawAt w0 w' p L S := ⟨h.net.ext hE, h.ext.then_ext hE, h.old⟩
theorem LawAt.step {w0 : World} (h : LawAt w0 w p L S) {w' : World} {L' : Lay} (hn : NetAt w' p L' S') (ht : LayTo w.heap.size w w' L L') : LawAt w0 w' p L' S' :=
  ⟨hn, h.ext.trans ht.touch fun b hb hf => by
    have := h.ext.size
    rcases hf with hf | hf
    · omega
    · exact hf.1 (h.old b hb), fun b hb => ht.tag b (by have := h.ext.size; omega) (h.old b hb)⟩
end

set_option maxRecDepth 100000 in
set_option maxHeartbeats 4000000 in
theorem head_contract (w : World) : Calls Try.prog 9 #[] w fun e w' => e = .returned (.bool true) ∧ Ext w w' := by
  go_enter Try.func9, Try.ntmps9
  ((first | go_at_call 11 | (go_wp2_with fail; go_at_call 11)); refine (new_good (w := w) 2 (by omega) (by omega)).mono ?_; rintro _ w1 ⟨p, L1, rfl, h1, hE1, ho1⟩)
  have l1 : LawAt w w1 p L1 Hd0 := ⟨h1, hE1, ho1⟩
  clear h1 hE1 ho1
  ((first | go_at_call 11 | (go_wp2_with fail; go_at_call 11)); refine (new_bad (w := w1) 9 (by omega) (by omega) (by omega)).mono ?_; rintro _ _ ⟨rfl, rfl⟩)
  ((first | go_at_call 13 | (go_wp2_with fail; go_at_call 13)); refine (put_is (S' := Hd1) (r := 0) l1.net good0 (by omega) 0 sA (by omega) (by decide) (by decide +kernel) rfl).mono ?_; rintro _ w2 ⟨rfl, L2, h2, t2⟩)
  replace l1 := l1.step h2 t2
  clear h2 t2
  ((first | go_at_call 13 | (go_wp2_with fail; go_at_call 13)); refine (put_is (S' := Hd2) (r := 0) l1.net good1 (by omega) 0 sB (by omega) (by decide) (by decide +kernel) rfl).mono ?_; rintro _ w3 ⟨rfl, L3, h3, t3⟩)
  replace l1 := l1.step h3 t3
  clear h3 t3
  ((first | go_at_call 13 | (go_wp2_with fail; go_at_call 13)); refine (put_is (S' := Hd3) (r := 0) l1.net good2 (by omega) 0 sA (by omega) (by decide) (by decide +kernel) rfl).mono ?_; rintro _ w4 ⟨rfl, L4, h4, t4⟩)
  replace l1 := l1.step h4 t4
  clear h4 t4
  ((first | go_at_call 13 | (go_wp2_with fail; go_at_call 13)); refine (put_is (S' := Hd4) (r := 1) l1.net good3 (by omega) 2 sA (by omega) (by decide) (by decide +kernel) rfl).mono ?_; rintro _ w5 ⟨rfl, L5, h5, t5⟩)
  replace l1 := l1.step h5 t5
  clear h5 t5
  ((first | go_at_call 15 | (go_wp2_with fail; go_at_call 15)); refine (send_is (S' := Hd5) (r := 0) l1.net good4 (by omega) 0 1 (by omega) (by omega) (by decide +kernel) rfl).mono ?_; rintro _ w6 ⟨rfl, L6, h6, t6⟩)
  replace l1 := l1.step h6 t6
  clear h6 t6
  ((first | go_at_call 17 | (go_wp2_with fail; go_at_call 17)); refine (deliver_is (S' := Hd6) (r := true) l1.net good5 0 1 false false (by omega) (by omega) (by decide +kernel) rfl).mono ?_; rintro _ w7 ⟨rfl, L7, h7, t7⟩)
  replace l1 := l1.step h7 t7
  clear h7 t7
  ((first | go_at_call 17 | (go_wp2_with fail; go_at_call 17)); refine (deliver_is (S' := Hd7) (r := false) l1.net good6 0 1 false false (by omega) (by omega) (by decide +kernel) rfl).mono ?_; rintro _ w8 ⟨rfl, L8, h8, t8⟩)
  replace l1 := l1.step h8 t8
  clear h8 t8
  ((first | go_at_call 22 | (go_wp2_with fail; go_at_call 22)); refine (has_is (xs := [sA, sB]) l1.net good7 1 (by omega) (by decide +kernel)).mono ?_; rintro _ w9 ⟨v9, rfl, r9, x9, f9⟩)
  replace l1 := l1.then x9
  have r9a := (r9.alloc (.cells #[.string sA, .string sB] 9))
  have r9b := Row.new w9 9 [.string sA, .string sB] (by simp) (by simp)
  ((first | go_at_call 21 | (go_wp2_with fail; go_at_call 21)); refine (same_contract (xs := [sA, sB]) (ys := [sA, sB]) r9a r9b (by decide) (by decide)).mono ?_; rintro _ w10 ⟨rfl, x10⟩)
  replace l1 := l1.then ((Ext.alloc w9 _).then_ext x10)
  ((first | go_at_call 24 | (go_wp2_with fail; go_at_call 24)); refine (lacks_is (xs := [sA, sB]) l1.net good7 0 1 (by omega) (by omega) (by decide +kernel)).mono ?_; rintro _ w11 ⟨v11, rfl, r11, x11, f11⟩)
  replace l1 := l1.then x11
  have r11a := (r11.alloc (.cells #[.string sA, .string sB] 9))
  have r11b := Row.new w11 9 [.string sA, .string sB] (by simp) (by simp)
  ((first | go_at_call 21 | (go_wp2_with fail; go_at_call 21)); refine (same_contract (xs := [sA, sB]) (ys := [sA, sB]) r11a r11b (by decide) (by decide)).mono ?_; rintro _ w12 ⟨rfl, x12⟩)
  replace l1 := l1.then ((Ext.alloc w11 _).then_ext x12)
  ((first | go_at_call 24 | (go_wp2_with fail; go_at_call 24)); refine (lacks_is (xs := []) l1.net good7 1 0 (by omega) (by omega) (by decide +kernel)).mono ?_; rintro _ w13 ⟨v13, rfl, r13, x13, f13⟩)
  replace l1 := l1.then x13
  ((first | go_at_call 15 | (go_wp2_with (first | ((with_reducible change wpList _ _ _ (Oper.mk _ (Op.call (Call.mk (Callee.builtin Builtin.len) _ _)) _ _ _ _ :: _) _ _); refine BigFrame.wpList_want rfl (fun K hK => ?_); refine op_len_row (n := 0) rfl rfl Try.underlying39 r13 (by omega) rfl ?_; refine hK _ _ ?_; clear hK K)); go_at_call 15)); refine (send_is (S' := Hd8) (r := 0) l1.net good7 (by omega) 1 0 (by omega) (by omega) (by decide +kernel) rfl).mono ?_; rintro _ w14 ⟨rfl, L14, h14, t14⟩)
  replace l1 := l1.step h14 t14
  clear h14 t14
  ((first | go_at_call 17 | (go_wp2_with fail; go_at_call 17)); refine (deliver_is (S' := Hd9) (r := true) l1.net good8 1 0 false false (by omega) (by omega) (by decide +kernel) rfl).mono ?_; rintro _ w15 ⟨rfl, L15, h15, t15⟩)
  replace l1 := l1.step h15 t15
  clear h15 t15
  ((first | go_at_call 24 | (go_wp2_with fail; go_at_call 24)); refine (lacks_is (xs := []) l1.net good9 0 1 (by omega) (by omega) (by decide +kernel)).mono ?_; rintro _ w16 ⟨v16, rfl, r16, x16, f16⟩)
  replace l1 := l1.then x16
  ((first | go_at_call 19 | (go_wp2_with (first | ((with_reducible change wpList _ _ _ (Oper.mk _ (Op.call (Call.mk (Callee.builtin Builtin.len) _ _)) _ _ _ _ :: _) _ _); refine BigFrame.wpList_want rfl (fun K hK => ?_); refine op_len_row (n := 0) rfl rfl Try.underlying39 r16 (by omega) rfl ?_; refine hK _ _ ?_; clear hK K)); go_at_call 19)); refine (cut_is (S' := HdA) (r := 0) l1.net 0 1 true (by omega) (by omega) (by decide +kernel) rfl).mono ?_; rintro _ w17 ⟨rfl, L17, h17, t17⟩)
  replace l1 := l1.step h17 t17
  clear h17 t17
  ((first | go_at_call 15 | (go_wp2_with fail; go_at_call 15)); refine (send_is (S' := HdB) (r := 28) l1.net goodA (by omega) 0 1 (by omega) (by omega) (by decide +kernel) rfl).mono ?_; rintro _ w18 ⟨rfl, L18, h18, t18⟩)
  replace l1 := l1.step h18 t18
  clear h18 t18
  ((first | go_at_call 13 | (go_wp2_with fail; go_at_call 13)); refine (put_nil _ 0 sA).mono ?_; rintro _ w19 ⟨rfl, x19⟩)
  replace l1 := l1.then x19
  ((first | go_at_call 22 | (go_wp2_with fail; go_at_call 22)); refine (has_nil _ 0).mono ?_; rintro _ w20 ⟨rfl, x20⟩)
  replace l1 := l1.then x20
  go_wp2_with fail
  go_ret
  exact ⟨rfl, l1.ext⟩
end Go.Proofs.Ytcipfpebjeakfaa
