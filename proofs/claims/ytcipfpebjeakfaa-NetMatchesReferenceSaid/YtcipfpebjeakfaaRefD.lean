/-
  Contracts of the reference: Cut, Send.
-/
import Derived.Test.YtcipfpebjeakfaaRefC
namespace Go.Proofs.Ytcipfpebjeakfaa
open Go Go.RowKit Go.WideMaps

section
variable {w W W' : World} {E : TypeId} {size : Nat} {v : Value} {xs : List Value}
/-- A row in memory that is not older than w. -/
structure OwnR (w W : World) (E : TypeId) (size : Nat) (v : Value) (xs : List Value) : Prop where
  row : Row W E size v xs
  new : ∀ b, rowBlock v = some b → w.heap.size ≤ b
  ext : Ext w W
theorem OwnR.then (h : OwnR w W E size v xs) (hE : Ext W W') : OwnR w W' E size v xs := ⟨h.row.keep hE fun _ _ h => h, h.new, h.ext.then_ext hE⟩

theorem op_append_own {o : Oper} {a : Act} {K : Act → World → Prop} {Q : Exit → Act → World → Prop} {x y : Operand} {t : TypeId} {i : TypeInfo} {z sv : Value} {bytes : Nat} {ys : List Value}
    (ho : o.op = .call { callee := .builtin .append, args := #[x, y], argTypes := #[t, t] }) (hx : a.eval x = v) (hy : a.eval y = sv) (ht : Try.prog.underlying t = some (.slice E)) (hi : Try.prog.info? E = some i) (hz : i.zero = some z)
    (hsize : i.size = size) (hby : i.bytes = bytes) (hzs : z.cells.size = size) (hsz : 0 < size) (hb : bytes ≤ 1000)
    (hv : OwnR w W E size v xs) (hs : Row W E size sv ys) (h1 : ∀ u ∈ ys, u.oneCell' = true) (hl : xs.length + ys.length ≤ 1000000)
    (h : ∀ v' W', OwnR w W' E size v' (xs ++ ys) → Touch (fun b => rowBlock v = some b) W W' → K (a.put o.dst v') W') : o.wp Try.prog a W K Q := by
  obtain ⟨A, m, c, hsv, hm, hn, hA⟩ := hs.news
  refine op_append ho hx hy ht hi hz hsize hby hzs hsz hv.row hsv hm hn hA h1 ?_ ?_ ?_
  · exact Nat.le_trans (Nat.mul_le_mul hl hb) (by omega)
  · unfold maxLen; omega
  · intro v' W' hr ht' hb'
    refine h v' W' ⟨hr, ?_, ?_⟩ ht'
    · intro b he
      rcases hb' with ⟨h1, _⟩ | ⟨h1, _⟩
      · exact hv.new b (by rw [← h1]; exact he)
      · rw [h1] at he
        injection he with he
        subst he
        exact hv.ext.size
    · exact hv.ext.trans ht' fun b hb he => by have := hv.new b he; omega
end

theorem cutOff_eq {off : Nat → Nat → Bool} {a b : Nat} (v : Bool) : cutOff off a b v = upd2 (upd2 off a b v) b a v := by
  funext i j
  unfold cutOff upd2
  by_cases h1 : i = a ∧ j = b <;> by_cases h2 : i = b ∧ j = a <;> simp [h1, h2]

attribute [local irreducible] World.cell? World.frozen? isAggB _root_.Go.Program.underlying

theorem RefPost.off {w w' : World} {q : Nat} {R : RLay} {S : NetS} (h : RefAt w q R S) {i j : Nat} {x : Bool} (hi : i < S.n) (ht : Touch (fun b => rowBlock (R.val (.orow i)) = some b) w w')
    (hn : RowN w' 4 1 (R.val (.orow i)) S.n (upd2 (fun j _ => .bool (S.off i j)) j 0 (.bool x))) : RefAt w' q R { S with off := upd2 S.off i j x } ∧ RTo w.heap.size w w' R R :=
  ⟨h.setOff hi ht hn, Nat.le_refl _, fun _ _ => rfl, ht.mono fun b _ hb => .inr (.inr ⟨.orow i, h.tag (.orow i) hi b hb⟩)⟩

set_option maxRecDepth 100000 in
set_option maxHeartbeats 4000000 in
theorem cut_ref {w : World} {q : Nat} {R : RLay} {S : NetS} (h : RefAt w q R S) (a b : Nat) (v : Bool) (ha6 : a ≤ 1000) (hb6 : b ≤ 1000) :
    Calls Try.prog 20 #[ptr q, .int .i64 a, .int .i64 b, .bool v] w fun e w' => e = .returned (.int .i64 (S.codeB a b)) ∧ RefPost w.heap.size w q R (S.cutTo a b v) w' := by
  have c1 := pair_ref h a b ha6 hb6
  cases hok : S.okB a b with
  | false =>
    have hcode : S.codeB a b = 1 := by unfold NetS.codeB; rw [hok]; rfl
    have hcut : S.cutTo a b v = S := by unfold NetS.cutTo; rw [hok]; rfl
    rw [hok] at c1
    rw [hcode, hcut]
    clear hok hcode hcut
    go_enter Try.func20, Try.ntmps20
    ((first | go_at_call 36 | (go_wp2_with fail; go_at_call 36)); refine (c1).mono ?_; rintro _ _ ⟨rfl, rfl⟩)
    go_wp2_with fail
    go_ret
    exact ⟨rfl, RefPost.of_ext h (Touch.refl _ w)⟩
  | true =>
    have hcode : S.codeB a b = 0 := by unfold NetS.codeB; rw [hok]; rfl
    have hcut := Lib.hid (show S.cutTo a b v = { S with off := upd2 (upd2 S.off a b v) b a v } from by unfold NetS.cutTo; rw [if_pos hok, cutOff_eq])
    obtain ⟨ha, hb, hne⟩ := NetS.okB_iff.1 hok
    rw [hok] at c1
    rw [hcode]
    have f2 := Lib.hid h.f2
    have rO : RowN w 76 1 (R.val .off) S.n (fun i _ => R.val (.orow i)) := h.row .off trivial
    obtain ⟨ga, ka, hea⟩ := rO.elem ha (by omega)
    obtain ⟨gb, kb, heb⟩ := rO.elem hb (by omega)
    have hca := Lib.hid (RowN.one rO hea ha)
    have hcb := Lib.hid (RowN.one rO heb hb)
    have rA : RowN w 4 1 (R.val (.orow a)) S.n (fun j _ => .bool (S.off a j)) := h.row (.orow a) ha
    have rB : RowN w 4 1 (R.val (.orow b)) S.n (fun j _ => .bool (S.off b j)) := h.row (.orow b) hb
    obtain ⟨gx, kx, hex⟩ := rA.elem hb (by omega)
    obtain ⟨gy, ky, hey⟩ := rB.elem ha (by omega)
    have hea' := Lib.hid hea
    have heb' := Lib.hid heb
    have hex' := Lib.hid hex
    have hey' := Lib.hid hey
    have hne' := Lib.hid hne
    have ha' := Lib.hid ha
    have hb' := Lib.hid hb
    have hoff : ∀ x, rowBlock (R.val (.orow a)) = some x → ¬ x = q := fun x hx e => by have := h.tag (.orow a) ha x hx; rw [e, h.tnet] at this; cases this
    have nq := Lib.hid (show ¬ rowBlock (R.val (.orow a)) = some q from fun e => hoff q e rfl)
    have ng := Lib.hid (show ¬ rowBlock (R.val (.orow a)) = some gb from fun e => by
      have h1 := h.tag (.orow a) ha gb e
      have h2 := h.tag .off trivial gb heb.block
      rw [h1] at h2
      simp [RowId.tagOf] at h2)
    have nb := Lib.hid (show ∀ x, rowBlock (R.val (.orow b)) = some x → ¬ rowBlock (R.val (.orow a)) = some x from fun x hx e => by
      have h1 := h.tag (.orow a) ha x e
      have h2 := h.tag (.orow b) hb x hx
      rw [h1] at h2
      simp [RowId.tagOf] at h2
      exact hne h2)
    clear hok hcode hea heb hex hey hoff ha hb hne
    go_enter Try.func20, Try.ntmps20
    ((first | go_at_call 36 | (go_wp2_with fail; go_at_call 36)); refine (c1).mono ?_; rintro _ _ ⟨rfl, rfl⟩)
    clear c1
    unfold ptr
    go_wp2_with (first
      | ((with_reducible change wpList _ _ _ (Oper.mk _ (Op.load _ _) _ _ _ _ :: _) _ _); refine BigFrame.wpList_want rfl (fun K hK => ?_); refine op_load1 rfl rfl Try.ag69 f2.out ?_; refine hK _ _ ?_; clear hK K)
      | ((with_reducible change wpList _ _ _ (Oper.mk _ (Op.indexAddr _ _ _) _ _ _ _ :: _) _ _); refine BigFrame.wpList_want rfl (fun K hK => ?_); refine op_elem rfl rfl rfl Try.underlying69 Try.szE76 hea'.out ?_; refine hK _ _ ?_; clear hK K)
      | ((with_reducible change wpList _ _ _ (Oper.mk _ (Op.load _ _) _ _ _ _ :: _) _ _); refine BigFrame.wpList_want rfl (fun K hK => ?_); refine op_load1 rfl rfl Try.ag76 hca.out ?_; refine hK _ _ ?_; clear hK K)
      | ((with_reducible change wpList _ _ _ (Oper.mk _ (Op.indexAddr _ _ _) _ _ _ _ :: _) _ _); refine BigFrame.wpList_want rfl (fun K hK => ?_); refine op_elem rfl rfl rfl Try.underlying76 Try.szE4 hex'.out ?_; refine hK _ _ ?_; clear hK K)
      | ((with_reducible change wpList _ _ _ (Oper.mk _ (Op.store _ _ _) _ _ _ _ :: _) _ _); refine BigFrame.wpList_want rfl (fun K hK => ?_); refine op_store_rowN (d := 0) (u := .bool v) rfl rfl rfl Try.szE4 rfl rA hex'.out hb'.out (by omega) ?_; intro w2 h2 t2; refine hK _ _ ?_; clear hK K)
      | ((with_reducible change wpList _ _ _ (Oper.mk _ (Op.load _ _) _ _ _ _ :: _) _ _); refine BigFrame.wpList_want rfl (fun K hK => ?_); refine op_load1 rfl rfl Try.ag69 (t2.cell f2.out nq.out) ?_; refine hK _ _ ?_; clear hK K)
      | ((with_reducible change wpList _ _ _ (Oper.mk _ (Op.indexAddr _ _ _) _ _ _ _ :: _) _ _); refine BigFrame.wpList_want rfl (fun K hK => ?_); refine op_elem rfl rfl rfl Try.underlying69 Try.szE76 heb'.out ?_; refine hK _ _ ?_; clear hK K)
      | ((with_reducible change wpList _ _ _ (Oper.mk _ (Op.load _ _) _ _ _ _ :: _) _ _); refine BigFrame.wpList_want rfl (fun K hK => ?_); refine op_load1 rfl rfl Try.ag76 (t2.cell hcb.out ng.out) ?_; refine hK _ _ ?_; clear hK K)
      | ((with_reducible change wpList _ _ _ (Oper.mk _ (Op.indexAddr _ _ _) _ _ _ _ :: _) _ _); refine BigFrame.wpList_want rfl (fun K hK => ?_); refine op_elem rfl rfl rfl Try.underlying76 Try.szE4 hey'.out ?_; refine hK _ _ ?_; clear hK K)
      | ((with_reducible change wpList _ _ _ (Oper.mk _ (Op.store _ _ _) _ _ _ _ :: _) _ _); refine BigFrame.wpList_want rfl (fun K hK => ?_); refine op_store_rowN (d := 0) (u := .bool v) rfl rfl rfl Try.szE4 rfl (rB.keep t2 nb.out) hey'.out ha'.out (by omega) ?_; intro w3 h3 t3; refine hK _ _ ?_; clear hK K))
    go_ret
    obtain ⟨r2, s2⟩ := RefPost.off h ha'.out t2 h2
    have h3' : RowN w3 4 1 (R.val (.orow b)) S.n (upd2 (fun j _ => .bool (upd2 S.off a b v b j)) a 0 (.bool v)) := h3.congr fun i j hi hj => by
      have hj0 : j = 0 := by omega
      subst hj0
      by_cases e : i = a
      · subst e; simp [upd2]
      · have : ¬ (b = a) := fun e => hne'.out e.symm
        simp [upd2, e, this]
    obtain ⟨r3, s3⟩ := RefPost.off r2 hb'.out t3 h3'
    refine ⟨rfl, R, ?_, s2.trans (s3.less t2.size)⟩
    rw [hcut.out]
    exact r3
end Go.Proofs.Ytcipfpebjeakfaa
