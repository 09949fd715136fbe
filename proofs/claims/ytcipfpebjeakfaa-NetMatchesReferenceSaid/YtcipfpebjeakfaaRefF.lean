/-
  The reference's Deliver: what its loop keeps.
-/
import Derived.Test.YtcipfpebjeakfaaRefE
import Derived.Test.YtcipfpebjeakfaaNetR1
namespace Go.Proofs.Ytcipfpebjeakfaa
open Go Go.RowKit

/-- The reference while a message is taken in: the lists of the receiver (xs in a copy, ys in place). -/
structure DelR (w W : World) (q : Nat) (R R1 : RLay) (S1 : NetS) (b a : Nat) (m : Msg) (gm gx : Nat) (mv vx : Value) (xs ys : List ByteArray) : Prop where
  ref : RefAt W q R1 { S1 with sets := updS S1.sets (.got b a) ys }
  rto : RTo w.heap.size w W R R1
  bm : Blk W gm 87 #[mv, .int .i64 m.length, .int .i64 m.heard]
  tm : R1.tag gm = .oth
  rm : Row W 9 1 mv (m.texts.map .string)
  dm : ∀ x, rowBlock mv = some x → R1.tag x = .data
  bx : Blk W gx 74 #[vx, R1.val (.heard b), R1.val (.known b), R1.val (.got b)]
  tx : R1.tag gx = .oth
  rx : Row W 9 1 vx (xs.map .string)
  dx : ∀ x, rowBlock vx = some x → R1.tag x = .oth ∨ R1.tag x = .data
  gw : w.heap.size ≤ gm
  gw2 : w.heap.size ≤ gx
  nx : ∀ x, rowBlock vx = some x → R1.tag x = .oth → w.heap.size ≤ x

theorem blk_unlike {W : World} {g : Nat} {t t' : TypeId} {cs cs' : Array Value} (h : Blk W g t cs) (h' : Blk W g t' cs') : t = t' := by
  have h1 : W.heap[g]? = _ := h
  have h2 : W.heap[g]? = _ := h'
  rw [h1] at h2
  injection h2 with h2
  injection h2 with _ h3 _
theorem Row.not {W : World} {E t : TypeId} {size g : Nat} {v : Value} {xs : List Value} {cs : Array Value} (h : Row W E size v xs) (h' : Blk W g t cs) (hne : E ≠ t) {x : Nat} (hx : rowBlock v = some x) : ¬ x = g := by
  intro e
  subst e
  obtain ⟨cs', hc⟩ := h.blk hx
  exact hne (blk_unlike hc h')

section
variable {w W W' : World} {q : Nat} {R R1 : RLay} {S1 : NetS} {b a : Nat} {m : Msg} {gm gx : Nat} {mv vx : Value} {xs ys : List ByteArray}
theorem DelR.ext (h : DelR w W q R R1 S1 b a m gm gx mv vx xs ys) (hE : Ext W W') : DelR w W' q R R1 S1 b a m gm gx mv vx xs ys :=
  ⟨h.ref.ext hE, h.rto.ext hE, hE.obj h.bm (fun h => h), h.tm, h.rm.keep hE (fun _ _ h => h), h.dm, hE.obj h.bx (fun h => h), h.tx, h.rx.keep hE (fun _ _ h => h), h.dx, h.gw, h.gw2, h.nx⟩
/-- The copy has another list of texts. -/
theorem DelR.text (h : DelR w W q R R1 S1 b a m gm gx mv vx xs ys) {W2 : World} {v : Value} {zs : List ByteArray} (ho : Own W W2 v zs) (ht : Touch (· = gx) W2 W') (hb : Blk W' gx 74 #[v, R1.val (.heard b), R1.val (.known b), R1.val (.got b)]) :
    DelR w W' q R R1 S1 b a m gm gx mv v zs ys := by
  have h2 := h.ext ho.ext
  exact {
    ref := h2.ref.keep ht fun x e => by subst e; exact h.tx
    rto := ⟨h2.rto.base, h2.rto.tag, h2.rto.touch.trans ht fun x _ e => .inl (by subst e; exact h.gw2)⟩
    bm := ht.obj h2.bm fun e => by subst e; exact absurd (blk_unlike h2.bm h2.bx) (by decide)
    tm := h.tm
    rm := h2.rm.keep ht fun x hx => h2.rm.not h2.bx (by decide) hx
    dm := h.dm
    bx := hb
    tx := h.tx
    rx := ho.row.keep ht fun x hx => ho.row.not h2.bx (by decide) hx
    dx := fun x hx => .inl (h.ref.fresh x (ho.new x hx))
    gw := h.gw
    gw2 := h.gw2
    nx := fun x hx _ => Nat.le_trans h.rto.touch.size (ho.new x hx) }
theorem updS_twice (f : SetId → List ByteArray) (i : SetId) (x y : List ByteArray) : updS (updS f i x) i y = updS f i y := by
  funext j
  unfold updS
  split <;> rfl
/-- What it got has turned. -/
theorem DelR.gotOne (h : DelR w W q R R1 S1 b a m gm gx mv vx xs ys) (hbn : b < S1.n) {W2 : World} {v : Value} {zs : List ByteArray} (ho : Own W W2 v zs) (ht : Touch (fun x => rowBlock (R1.val (.got b)) = some x) W2 W')
    (hn : RowN W' 39 1 (R1.val (.got b)) S1.n (upd2 (fun j _ => R1.val (.gotT b j)) a 0 v)) : ∃ R2, DelR w W' q R R2 S1 b a m gm gx mv vx xs zs := by
  have h2 := h.ext ho.ext
  have ap : ∀ x, rowBlock v = some x → R1.tag x = .oth := fun x hx => h.ref.fresh x (ho.new x hx)
  have gtag : ∀ x, rowBlock (R1.val (.got b)) = some x → R1.tag x = .row (.got b) := fun x hx => h.ref.tag (.got b) hbn x hx
  have ng : ∀ x, (R1.tag x = .oth ∨ R1.tag x = .data) → ¬ rowBlock (R1.val (.got b)) = some x := fun x hx e => by
    rw [gtag x e] at hx; rcases hx with hx | hx <;> cases hx
  have hr := ho.row.keep ht fun x hx => ng x (.inl (ap x hx))
  have href := (h2.ref.setGot (i := b) (j := a) hbn ht hn hr fun x hx => .inl (ap x hx)).like (S1 := { S1 with sets := updS S1.sets (.got b a) zs }) ⟨rfl, rfl, by simp [updS], fun i j => by simp [updS_twice], rfl, rfl, rfl, rfl⟩
  have vals : ∀ r, r ≠ .gotT b a → updR R1.val (.gotT b a) v r = R1.val r := fun r hr => updR_ne _ _ hr
  have hvl : ∀ x, rowBlock v = some x → W.heap.size ≤ x := ho.new
  refine ⟨_, {
    ref := href
    rto := ⟨h2.rto.base, fun x hx => ?_, h2.rto.touch.trans ht fun x _ e => ?_⟩
    bm := ht.obj h2.bm (ng gm (.inl h.tm))
    tm := ?_
    rm := h2.rm.keep ht fun x hx => ng x (.inr (h.dm x hx))
    dm := fun x hx => tagNew_keep (fun x hx => .inl (ap x hx)) (h.dm x hx) (by simp)
    bx := ?_
    tx := ?_
    rx := h2.rx.keep ht fun x hx => ng x (h.dx x hx)
    dx := fun x hx => ?_
    gw := h.gw
    gw2 := h.gw2
    nx := fun x hx ho' => ?_ }⟩
  · show tagNew v R1.tag x = R.tag x
    have hsz := h.rto.touch.size
    rw [tagNew_old fun e => by have := hvl x e; omega]
    exact h.rto.tag x hx
  · rcases Nat.lt_or_ge x w.heap.size with hx | hx
    · have h1 := gtag x e
      rw [h.rto.tag x hx] at h1
      exact .inr (.inr ⟨_, h1⟩)
    · exact .inl hx
  · show tagNew v R1.tag gm = .oth
    rw [tagNew_old fun e => ?_]
    · exact h.tm
    · exact absurd rfl (ho.row.not h2.bm (by decide) e)
  · show Blk W' gx 74 #[vx, updR R1.val (.gotT b a) v (.heard b), updR R1.val (.gotT b a) v (.known b), updR R1.val (.gotT b a) v (.got b)]
    rw [vals _ (by simp), vals _ (by simp), vals _ (by simp)]
    exact ht.obj h2.bx (ng gx (.inl h.tx))
  · show tagNew v R1.tag gx = .oth
    rw [tagNew_old fun e => ?_]
    · exact h.tx
    · exact absurd rfl (ho.row.not h2.bx (by decide) e)
  · show tagNew v R1.tag x = .oth ∨ tagNew v R1.tag x = .data
    by_cases e : rowBlock v = some x
    · exact .inr (tagNew_new e)
    · rw [tagNew_old e]; exact h.dx x hx
  · have ho2 : tagNew v R1.tag x = .oth := ho'
    by_cases e : rowBlock v = some x
    · rw [tagNew_new e] at ho2; cases ho2
    · rw [tagNew_old e] at ho2; exact h.nx x hx ho2
end

/-! ### the texts of a message, one after the other -/
theorem NetS.recv1_has (S : NetS) (tt fr : Nat) (s : ByteArray) (h : S.sets (.has tt) = S.texts tt) : (S.recv1 tt fr s).sets (.has tt) = (S.recv1 tt fr s).texts tt := by
  obtain ⟨h1, h2⟩ := S.add_text tt s h
  have h3 : (S.recv1 tt fr s).texts = (S.add tt s).texts := NetS.ins_texts _ _ _
  rw [h3, ← h2]
  unfold NetS.recv1 NetS.ins
  split
  · rfl
  · simp [updS]
theorem NetS.recvs_has (tt fr : Nat) : ∀ (l : List ByteArray) (S : NetS), S.sets (.has tt) = S.texts tt → (S.recvs tt fr l).sets (.has tt) = (S.recvs tt fr l).texts tt
  | [], _, h => h
  | s :: l, S, h => NetS.recvs_has tt fr l (S.recv1 tt fr s) (S.recv1_has tt fr s h)
theorem NetS.recvs_step (S : NetS) (tt fr : Nat) {l : List ByteArray} {k : Nat} (h : k < l.length) : S.recvs tt fr (l.take (k + 1)) = (S.recvs tt fr (l.take k)).recv1 tt fr l[k] := by
  unfold NetS.recvs
  rw [List.take_succ_eq_append_getElem h, List.foldl_append]
  rfl
theorem NetS.recv1_texts (S : NetS) (tt fr : Nat) (s : ByteArray) (h : S.sets (.has tt) = S.texts tt) : (S.recv1 tt fr s).texts tt = if s ∈ S.texts tt then S.texts tt else S.texts tt ++ [s] := by
  have h3 : (S.recv1 tt fr s).texts = (S.add tt s).texts := NetS.ins_texts _ _ _
  rw [h3]
  unfold NetS.add
  rw [h]
  split
  · rfl
  · simp [upd]
theorem NetS.recv1_got (S : NetS) (tt fr : Nat) (s : ByteArray) : (S.recv1 tt fr s).sets (.got tt fr) = if s ∈ S.sets (.got tt fr) then S.sets (.got tt fr) else S.sets (.got tt fr) ++ [s] := by
  unfold NetS.recv1 NetS.ins
  have hg := (S.add_rest tt s).2.2 tt fr
  rw [hg]
  split
  · rw [hg]
  · simp [updS]
theorem NetS.recvs_sets (tt fr : Nat) : ∀ (l : List ByteArray) (S : NetS) (i j : Nat), ¬ (i = tt ∧ j = fr) → (S.recvs tt fr l).sets (.got i j) = S.sets (.got i j)
  | [], _, _, _, _ => rfl
  | s :: l, S, i, j, h => by
    show ((S.recv1 tt fr s).recvs tt fr l).sets (.got i j) = _
    rw [NetS.recvs_sets tt fr l _ i j h]
    unfold NetS.recv1 NetS.ins
    split
    · exact (S.add_rest tt s).2.2 i j
    · have : ¬ (SetId.got i j = SetId.got tt fr) := fun e => by injection e with e1 e2; exact h ⟨e1, e2⟩
      simp only [updS, if_neg this]
      exact (S.add_rest tt s).2.2 i j

/-- The whole message taken in, put together. -/
theorem alike_recv (S : NetS) (fr tt : Nat) (m : Msg) :
    Alike { S with sets := updS S.sets (.got tt fr) ((S.recvs tt fr m.texts).sets (.got tt fr)), heard := upd2 S.heard tt fr (max (S.heard tt fr) m.length), known := upd2 S.known tt fr (max (S.known tt fr) m.heard), texts := upd S.texts tt ((S.recvs tt fr m.texts).texts tt) } (S.recv fr tt m) where
  n := S.recv_n fr tt m
  texts := by
    funext k
    show (S.recvs tt fr m.texts).texts k = upd S.texts tt ((S.recvs tt fr m.texts).texts tt) k
    unfold upd
    split
    · rename_i e; rw [e]
    · rename_i e; exact NetS.recvs_other tt fr e m.texts S
  all := by rw [S.recv_all]; simp [updS]
  got := fun i j => by
    show (S.recvs tt fr m.texts).sets (.got i j) = updS S.sets (.got tt fr) ((S.recvs tt fr m.texts).sets (.got tt fr)) (.got i j)
    by_cases e : i = tt ∧ j = fr
    · obtain ⟨rfl, rfl⟩ := e; simp [updS]
    · rw [NetS.recvs_sets tt fr m.texts S i j e]
      have : ¬ (SetId.got i j = SetId.got tt fr) := fun h => by injection h with e1 e2; exact e ⟨e1, e2⟩
      simp [updS, e]
  heard := by
    show upd2 (S.recvs tt fr m.texts).heard tt fr (max ((S.recvs tt fr m.texts).heard tt fr) m.length) = _
    rw [(NetS.recvs_rest tt fr m.texts S).2]
  known := by
    show upd2 (S.recvs tt fr m.texts).known tt fr (max ((S.recvs tt fr m.texts).known tt fr) m.heard) = _
    rw [(NetS.recvs_rest tt fr m.texts S).1]
  queues := S.recv_queues fr tt m
  off := S.recv_off fr tt m
end Go.Proofs.Ytcipfpebjeakfaa
