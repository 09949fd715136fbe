/-
  The plain law: what nodes know of each other holds.
-/
import Derived.Test.YtcipfpebjeakfaaNetX
namespace Go.Proofs.Ytcipfpebjeakfaa
open Go

structure MsgTold (ta tb : List ByteArray) (m : Msg) : Prop where
  sub : ∀ s ∈ m.texts, s ∈ ta
  len : m.length ≤ ta.length
  told : ∀ s ∈ ta.take m.length, s ∈ tb ∨ s ∈ m.texts
  hlen : m.heard ≤ tb.length
  heard : ∀ s ∈ tb.take m.heard, s ∈ ta

structure Told (S : NetS) : Prop where
  klen : ∀ a b, S.known a b ≤ (S.texts a).length
  known : ∀ a b, ∀ s ∈ (S.texts a).take (S.known a b), s ∈ S.texts b
  hlen : ∀ a b, S.heard a b ≤ (S.texts b).length
  heard : ∀ a b, ∀ s ∈ (S.texts b).take (S.heard a b), s ∈ S.texts a
  got : ∀ a b, ∀ s ∈ S.sets (.got a b), s ∈ S.texts b
  msg : ∀ a b, ∀ m ∈ S.queues a b, MsgTold (S.texts a) (S.texts b) m

theorem take_more {xs ys zs : List ByteArray} (h : zs = xs ++ ys) {n : Nat} (hn : n ≤ xs.length) : zs.take n = xs.take n := by
  subst h; rw [List.take_append_of_le_length hn]
theorem mem_more {xs ys zs : List ByteArray} (h : zs = xs ++ ys) {s : ByteArray} (hs : s ∈ xs) : s ∈ zs := by
  subst h; simp [hs]
theorem MsgTold.grow {ta tb ta' tb' ya yb : List ByteArray} {m : Msg} (h : MsgTold ta tb m) (ha : ta' = ta ++ ya) (hb : tb' = tb ++ yb) : MsgTold ta' tb' m where
  sub := fun s hs => mem_more ha (h.sub s hs)
  len := by subst ha; have := h.len; simp; omega
  told := fun s hs => by
    rw [take_more ha h.len] at hs
    exact (h.told s hs).imp (mem_more hb) id
  hlen := by subst hb; have := h.hlen; simp; omega
  heard := fun s hs => by
    rw [take_more hb h.hlen] at hs
    exact mem_more ha (h.heard s hs)

theorem Told.grow {S S' : NetS} (h : Told S) (ht : ∀ k, ∃ ys, S'.texts k = S.texts k ++ ys) (hk : S'.known = S.known) (hh : S'.heard = S.heard) (hq : ∀ a b, ∀ m ∈ S'.queues a b, m ∈ S.queues a b)
    (hg : ∀ a b, ∀ s ∈ S'.sets (.got a b), s ∈ S.sets (.got a b)) : Told S' where
  klen := fun a b => by
    obtain ⟨ys, e⟩ := ht a
    rw [hk, e]; have := h.klen a b; simp; omega
  known := fun a b s hs => by
    obtain ⟨ys, e⟩ := ht a
    obtain ⟨zs, e2⟩ := ht b
    rw [hk, take_more e (h.klen a b)] at hs
    exact mem_more e2 (h.known a b s hs)
  hlen := fun a b => by
    obtain ⟨ys, e⟩ := ht b
    rw [hh, e]; have := h.hlen a b; simp; omega
  heard := fun a b s hs => by
    obtain ⟨ys, e⟩ := ht b
    obtain ⟨zs, e2⟩ := ht a
    rw [hh, take_more e (h.hlen a b)] at hs
    exact mem_more e2 (h.heard a b s hs)
  got := fun a b s hs => by
    obtain ⟨zs, e2⟩ := ht b
    exact mem_more e2 (h.got a b s (hg a b s hs))
  msg := fun a b m hm => by
    obtain ⟨ys, e⟩ := ht a
    obtain ⟨zs, e2⟩ := ht b
    exact (h.msg a b m (hq a b m hm)).grow e e2

theorem NetS.know_rest (S : NetS) (s : ByteArray) : (S.know s).known = S.known ∧ (S.know s).heard = S.heard ∧ ∀ a b, (S.know s).sets (.got a b) = S.sets (.got a b) := by
  unfold NetS.know
  split
  · exact ⟨rfl, rfl, fun _ _ => rfl⟩
  · exact ⟨rfl, rfl, fun a b => by simp [updS]⟩
theorem NetS.add_rest (S : NetS) (i : Nat) (s : ByteArray) : (S.add i s).known = S.known ∧ (S.add i s).heard = S.heard ∧ ∀ a b, (S.add i s).sets (.got a b) = S.sets (.got a b) := by
  unfold NetS.add
  split
  · exact ⟨rfl, rfl, fun _ _ => rfl⟩
  · exact ⟨rfl, rfl, fun a b => by simp [updS]⟩
theorem Told.put {S : NetS} (h : Told S) (i : Nat) (s : ByteArray) : Told (S.put i s) := by
  refine h.grow (S.put_pre i s) ?_ ?_ ?_ ?_
  all_goals unfold NetS.put
  · split
    · rw [((S.know s).add_rest i s).1, (S.know_rest s).1]
    · rfl
  · split
    · rw [((S.know s).add_rest i s).2.1, (S.know_rest s).2.1]
    · rfl
  · split
    · intro a b m hm; rw [NetS.add_queues, NetS.know_queues] at hm; exact hm
    · intro a b m hm; exact hm
  · split
    · intro a b t ht; rw [((S.know s).add_rest i s).2.2, (S.know_rest s).2.2] at ht; exact ht
    · intro a b t ht; exact ht

/-- What b lacks, as far as a knows; and what it does not lack, it has. -/
theorem Told.lacks {S : NetS} (h : Told S) {a b : Nat} (ha : a < S.n) (hb : b < S.n) (hne : a ≠ b) {s : ByteArray} (hs : s ∈ S.texts a) : s ∈ S.lacks a b ∨ s ∈ S.texts b := by
  by_cases hl : s ∈ S.lacks a b
  · exact .inl hl
  · right
    unfold NetS.lacks at hl
    rw [if_pos ⟨ha, hb, hne⟩, Nat.min_eq_left (h.klen a b)] at hl
    rw [← List.take_append_drop (S.known a b) (S.texts a), List.mem_append] at hs
    rcases hs with hs | hs
    · exact h.known a b s hs
    · refine h.got a b s ?_
      cases hg : inB s (S.sets (.got a b)) with
      | false =>
        refine absurd (List.mem_filter.2 ⟨hs, ?_⟩) hl
        simp [hg]
      | true =>
        by_cases hin : s ∈ S.sets (.got a b)
        · exact hin
        · rw [inB_false hin] at hg; cases hg

theorem Told.send {S : NetS} (h : Told S) (a b : Nat) : Told (S.send a b) := by
  unfold NetS.send
  split
  · rename_i hok
    obtain ⟨ha, hb, hne⟩ := NetS.okB_iff.1 hok
    split
    · exact h
    · refine { h with msg := fun i j m hm => ?_ }
      have hm' : m ∈ upd2 S.queues a b (S.queues a b ++ [S.msg a b]) i j := hm
      unfold upd2 at hm'
      split at hm'
      · rename_i e
        rw [List.mem_append, List.mem_singleton] at hm'
        rcases hm' with hm' | rfl
        · rw [e.1, e.2]; exact h.msg a b m hm'
        · rw [e.1, e.2]
          exact ⟨fun s hs => (NetS.lacks_sub hs).2.2, Nat.le_refl _, fun s hs => (h.lacks ha hb hne (List.mem_of_mem_take hs)).symm, h.hlen a b, h.heard a b⟩
      · exact h.msg i j m hm'
  · exact h

theorem Told.cutTo {S : NetS} (h : Told S) (a b : Nat) (v : Bool) : Told (S.cutTo a b v) := by
  unfold NetS.cutTo
  split
  · exact { h with }
  · exact h
theorem Told.pop {S : NetS} (h : Told S) (a b : Nat) : Told (S.pop a b) :=
  h.grow (fun k => ⟨[], by simp [NetS.pop]⟩) rfl rfl (fun i j m hm => by
    have hm' : m ∈ upd2 S.queues a b (S.queues a b).tail i j := hm
    unfold upd2 at hm'
    split at hm'
    · rename_i e; rw [e.1, e.2]; exact List.mem_of_mem_tail hm'
    · exact hm') fun _ _ _ h => h

theorem NetS.ins_rest (S : NetS) (i : SetId) (s : ByteArray) : (S.ins i s).known = S.known ∧ (S.ins i s).heard = S.heard := by unfold NetS.ins; split <;> exact ⟨rfl, rfl⟩
theorem NetS.recv1_rest (S : NetS) (to fr : Nat) (s : ByteArray) : (S.recv1 to fr s).known = S.known ∧ (S.recv1 to fr s).heard = S.heard := by
  unfold NetS.recv1
  exact ⟨by rw [(NetS.ins_rest _ _ _).1, (NetS.add_rest _ _ _).1], by rw [(NetS.ins_rest _ _ _).2, (NetS.add_rest _ _ _).2.1]⟩
theorem NetS.recvs_rest (to fr : Nat) : ∀ (l : List ByteArray) (S : NetS), (S.recvs to fr l).known = S.known ∧ (S.recvs to fr l).heard = S.heard
  | [], _ => ⟨rfl, rfl⟩
  | s :: l, S => by
    have h := NetS.recvs_rest to fr l (S.recv1 to fr s)
    rw [(S.recv1_rest to fr s).1, (S.recv1_rest to fr s).2] at h
    exact h
theorem NetS.ins_got (S : NetS) (to fr : Nat) (s : ByteArray) {a b : Nat} {t : ByteArray} (h : t ∈ (S.ins (.got to fr) s).sets (.got a b)) : t ∈ S.sets (.got a b) ∨ (a = to ∧ b = fr ∧ t = s) := by
  unfold NetS.ins at h
  split at h
  · exact .inl h
  · by_cases e : SetId.got a b = SetId.got to fr
    · simp only [updS, if_pos e, List.mem_append, List.mem_singleton] at h
      injection e with e1 e2
      rcases h with h | h
      · exact .inl (by rw [e1, e2]; exact h)
      · exact .inr ⟨e1, e2, h⟩
    · simp only [updS, if_neg e] at h
      exact .inl h
theorem NetS.recvs_got (to fr : Nat) : ∀ (l : List ByteArray) (S : NetS) {a b : Nat} {t : ByteArray}, t ∈ (S.recvs to fr l).sets (.got a b) → t ∈ S.sets (.got a b) ∨ (a = to ∧ b = fr ∧ t ∈ l)
  | [], _, _, _, _, h => .inl h
  | s :: l, S, a, b, t, h => by
    rcases NetS.recvs_got to fr l (S.recv1 to fr s) h with h | ⟨h1, h2, h3⟩
    · rcases (S.add to s).ins_got to fr s h with h | ⟨h1, h2, h3⟩
      · rw [(S.add_rest to s).2.2] at h
        exact .inl h
      · exact .inr ⟨h1, h2, by simp [h3]⟩
    · exact .inr ⟨h1, h2, by simp [h3]⟩
theorem NetS.add_text (S : NetS) (i : Nat) (s : ByteArray) (h : S.sets (.has i) = S.texts i) : s ∈ (S.add i s).texts i ∧ (S.add i s).sets (.has i) = (S.add i s).texts i := by
  unfold NetS.add
  split
  · rename_i hin; exact ⟨by rw [← h]; exact hin, h⟩
  · exact ⟨by simp [upd], by simp [upd, updS, h]⟩
theorem NetS.recvs_text (to fr : Nat) : ∀ (l : List ByteArray) (S : NetS), S.sets (.has to) = S.texts to → ∀ s ∈ l, s ∈ (S.recvs to fr l).texts to
  | [], _, _, _, h => by cases h
  | s :: l, S, he, t, ht => by
    obtain ⟨h1, h2⟩ := S.add_text to s he
    have h3 : (S.recv1 to fr s).texts = (S.add to s).texts := NetS.ins_texts _ _ _
    have h4 : (S.recv1 to fr s).sets (.has to) = (S.recv1 to fr s).texts to := by
      rw [h3, ← h2]
      unfold NetS.recv1 NetS.ins
      split
      · rfl
      · simp [updS]
    rcases List.mem_cons.1 ht with rfl | ht
    · obtain ⟨ys, hp⟩ := NetS.recvs_pre to fr to l (S.recv1 to fr t)
      show t ∈ ((S.recv1 to fr t).recvs to fr l).texts to
      rw [hp, h3]
      simp [h1]
    · exact NetS.recvs_text to fr l _ h4 t ht

theorem Told.recv {S : NetS} (h : Told S) {fr to : Nat} {m : Msg} (hm : MsgTold (S.texts fr) (S.texts to) m) (he : S.sets (.has to) = S.texts to) : Told (S.recv fr to m) := by
  have hpre := fun k => NetS.recvs_pre to fr k m.texts S
  have hin := NetS.recvs_text to fr m.texts S he
  obtain ⟨ya, ea⟩ := hpre fr
  obtain ⟨yb, eb⟩ := hpre to
  have hm' := hm.grow ea eb
  have hk : (S.recv fr to m).known = upd2 S.known to fr (max (S.known to fr) m.heard) := by
    show upd2 (S.recvs to fr m.texts).known to fr (max ((S.recvs to fr m.texts).known to fr) m.heard) = _
    rw [(NetS.recvs_rest to fr m.texts S).1]
  have hh : (S.recv fr to m).heard = upd2 S.heard to fr (max (S.heard to fr) m.length) := by
    show upd2 (S.recvs to fr m.texts).heard to fr (max ((S.recvs to fr m.texts).heard to fr) m.length) = _
    rw [(NetS.recvs_rest to fr m.texts S).2]
  have htx : (S.recv fr to m).texts = (S.recvs to fr m.texts).texts := rfl
  have max_take : ∀ (l : List ByteArray) (i j : Nat) (s : ByteArray), s ∈ l.take (max i j) → s ∈ l.take i ∨ s ∈ l.take j := by
    intro l i j s hs
    rcases Nat.le_total i j with hij | hij
    · rw [Nat.max_eq_right hij] at hs; exact .inr hs
    · rw [Nat.max_eq_left hij] at hs; exact .inl hs
  exact {
    klen := fun a b => by
      rw [hk, htx]
      obtain ⟨ys, e⟩ := hpre a
      have h1 := h.klen a b
      unfold upd2
      split
      · rename_i e2
        rw [e2.1]
        have h2 := hm'.hlen
        have h3 := h.klen to fr
        rw [eb] at h2 ⊢
        simp only [List.length_append] at h2 ⊢
        omega
      · rw [e]; simp only [List.length_append]; omega
    known := fun a b s hs => by
      rw [hk, htx] at hs
      rw [htx]
      unfold upd2 at hs
      obtain ⟨ys, e⟩ := hpre a
      obtain ⟨zs, e2⟩ := hpre b
      split at hs
      · rename_i e3
        rcases max_take _ _ _ _ hs with hs | hs
        · rw [e3.1, take_more eb (h.klen to fr)] at hs
          rw [e3.2]
          exact mem_more ea (h.known to fr s hs)
        · rw [e3.1] at hs
          rw [e3.2]
          exact hm'.heard s hs
      · rw [take_more e (h.klen a b)] at hs
        exact mem_more e2 (h.known a b s hs)
    hlen := fun a b => by
      rw [hh, htx]
      obtain ⟨ys, e⟩ := hpre b
      have h1 := h.hlen a b
      unfold upd2
      split
      · rename_i e2
        rw [e2.2]
        have h2 := hm'.len
        have h3 := h.hlen to fr
        rw [ea] at h2 ⊢
        simp only [List.length_append] at h2 ⊢
        omega
      · rw [e]; simp only [List.length_append]; omega
    heard := fun a b s hs => by
      rw [hh, htx] at hs
      rw [htx]
      unfold upd2 at hs
      obtain ⟨ys, e⟩ := hpre a
      obtain ⟨zs, e2⟩ := hpre b
      split at hs
      · rename_i e3
        rcases max_take _ _ _ _ hs with hs | hs
        · rw [e3.2, take_more ea (h.hlen to fr)] at hs
          rw [e3.1]
          exact mem_more eb (h.heard to fr s hs)
        · rw [e3.2] at hs
          rw [e3.1]
          rcases hm'.told s hs with h5 | h5
          · exact h5
          · exact hin s h5
      · rw [take_more e2 (h.hlen a b)] at hs
        exact mem_more e (h.heard a b s hs)
    got := fun a b s hs => by
      rw [htx]
      obtain ⟨zs, e2⟩ := hpre b
      rcases NetS.recvs_got to fr m.texts S hs with hs | ⟨h1, h2, h3⟩
      · exact mem_more e2 (h.got a b s hs)
      · rw [h2]; exact hm'.sub s h3
    msg := fun a b m2 hm2 => by
      rw [htx]
      obtain ⟨ys, e⟩ := hpre a
      obtain ⟨zs, e2⟩ := hpre b
      rw [NetS.recv_queues] at hm2
      exact (h.msg a b m2 hm2).grow e e2 }

theorem Told.deliver {S : NetS} (h : Told S) (wf : Wf S) (fr to : Nat) (lost again : Bool) : Told (S.deliver fr to lost again) := by
  unfold NetS.deliver
  split
  · rename_i hok
    obtain ⟨ha, hb, hne⟩ := NetS.okB_iff.1 hok
    split
    · exact h
    · split
      · exact h
      · rename_i m ms hq
        have hm := h.msg fr to m (by rw [hq]; simp)
        split
        · exact h.pop fr to
        · split
          · exact h.recv hm (wf.has to hb)
          · exact (h.pop fr to).recv hm (wf.has to hb)
  · exact h
theorem Told.step {S : NetS} (h : Told S) (wf : Wf S) (o : OpV) : Told (S.step o) := by
  unfold NetS.step
  split
  · exact h.put _ _
  · split
    · exact h.send _ _
    · split
      · exact h.deliver wf _ _ _ _
      · exact h.cutTo _ _ _
theorem Told.fresh (n : Nat) : Told (NetS.fresh n) where
  klen := fun _ _ => Nat.le_refl _
  known := fun _ _ s hs => by simp [NetS.fresh] at hs
  hlen := fun _ _ => Nat.le_refl _
  heard := fun _ _ s hs => by simp [NetS.fresh] at hs
  got := fun _ _ s hs => by cases hs
  msg := fun _ _ m hm => by cases hm
theorem Told.run {S : NetS} (h : Told S) (g : Good S 0) {l : List OpV} (hl : ∀ o ∈ l, o.text.size ≤ 100) : ∀ k, k ≤ l.length → k ≤ 98 → Told (S.run (l.take k))
  | 0, _, _ => by simpa [NetS.run] using h
  | k + 1, hk, hm => by
    rw [NetS.run_take S (by omega)]
    exact (h.run g hl k (by omega) (by omega)).step (g.run hl k (by omega) (by omega)).wf _

/-! ### lists that are named one after the other -/
theorem filter_sub {xs ys : List ByteArray} (hn : xs.Nodup) (hs : List.Sublist ys xs) : xs.filter (fun x => decide (x ∈ ys)) = ys := by
  induction hs with
  | slnil => rfl
  | cons a h ih =>
    have hn' := List.nodup_cons.1 hn
    rw [List.filter_cons, if_neg (by
      simp only [decide_eq_true_eq]
      exact fun hm => hn'.1 (h.subset hm)), ih hn'.2]
  | cons_cons a h ih =>
    rename_i l1 l2
    have hn' := List.nodup_cons.1 hn
    rw [List.filter_cons, if_pos (by simp)]
    congr 1
    conv => rhs; rw [← ih hn'.2]
    refine List.filter_congr fun x hx => ?_
    have hxa : x ≠ a := fun e => hn'.1 (e ▸ hx)
    simp [hxa]
/-- So many of the first m elements are named. -/
def namedTo (xs ys : List ByteArray) (m : Nat) : Nat := ((xs.take m).filter (fun x => decide (x ∈ ys))).length
theorem namedTo_zero (xs ys : List ByteArray) : namedTo xs ys 0 = 0 := by simp [namedTo]
theorem namedTo_all {xs ys : List ByteArray} (hn : xs.Nodup) (hs : List.Sublist ys xs) : namedTo xs ys xs.length = ys.length := by
  unfold namedTo; rw [List.take_length, filter_sub hn hs]
theorem namedTo_succ (xs ys : List ByteArray) {m : Nat} (h : m < xs.length) : namedTo xs ys (m + 1) = if xs[m] ∈ ys then namedTo xs ys m + 1 else namedTo xs ys m := by
  unfold namedTo
  rw [List.take_succ_eq_append_getElem h, List.filter_append, List.length_append]
  by_cases e : xs[m] ∈ ys
  · rw [if_pos e]; simp [e]
  · rw [if_neg e]; simp [e]
theorem namedTo_in {xs ys : List ByteArray} (hn : xs.Nodup) (hs : List.Sublist ys xs) {m : Nat} (h : m < xs.length) (hin : xs[m] ∈ ys) : ys[namedTo xs ys m]? = some xs[m] := by
  have e : ys = (xs.take m).filter (fun x => decide (x ∈ ys)) ++ (xs.drop m).filter (fun x => decide (x ∈ ys)) := by
    rw [← List.filter_append, List.take_append_drop, filter_sub hn hs]
  have e2 : (xs.drop m).filter (fun x => decide (x ∈ ys)) = xs[m] :: (xs.drop (m + 1)).filter (fun x => decide (x ∈ ys)) := by
    rw [List.drop_eq_getElem_cons h, List.filter_cons, if_pos (by simpa using hin)]
  rw [e2] at e
  have : ys[namedTo xs ys m]? = ((xs.take m).filter (fun x => decide (x ∈ ys)) ++ xs[m] :: (xs.drop (m + 1)).filter (fun x => decide (x ∈ ys)))[namedTo xs ys m]? := by rw [← e]
  rw [this]
  unfold namedTo
  rw [List.getElem?_append_right (Nat.le_refl _)]
  simp
theorem Wf.lacksSub {S : NetS} (_h : Wf S) (a b : Nat) : List.Sublist (S.lacks a b) (S.texts a) := by
  unfold NetS.lacks
  split
  · unfold kept; exact List.Sublist.trans List.filter_sublist (List.drop_sublist _ _)
  · exact List.nil_sublist _
end Go.Proofs.Ytcipfpebjeakfaa
