/-
  The plain law: messages in turn over whole lines.
-/
import Derived.Test.YtcipfpebjeakfaaNetY
namespace Go.Proofs.Ytcipfpebjeakfaa
open Go

/-! ### one message that arrives at once -/
theorem NetS.pass_eq {S : NetS} {a b : Nat} (hok : S.okB a b = true) (hoff : S.off a b = false) (hq : S.queues a b = []) :
    S.sendC a b = 0 ∧ (S.send a b).deliverC a b = true ∧ (S.send a b).deliver a b false false = S.recv a b (S.msg a b) := by
  have h1 : S.send a b = S.push a b (S.msg a b) := by unfold NetS.send; rw [if_pos hok, if_neg (by rw [hoff]; simp)]
  have h2 : (S.push a b (S.msg a b)).queues a b = [S.msg a b] := by
    show upd2 S.queues a b (S.queues a b ++ [S.msg a b]) a b = _
    rw [upd2_same, hq]; rfl
  have hok2 : (S.push a b (S.msg a b)).okB a b = true := hok
  have hoff2 : (S.push a b (S.msg a b)).off a b = false := hoff
  have hpop : (S.push a b (S.msg a b)).pop a b = S := by
    have : upd2 (upd2 S.queues a b (S.queues a b ++ [S.msg a b])) a b ((S.push a b (S.msg a b)).queues a b).tail = S.queues := by
      funext i j
      unfold upd2
      split
      · rename_i e; rw [h2, e.1, e.2, hq]; rfl
      · rfl
    show { S with queues := upd2 (upd2 S.queues a b (S.queues a b ++ [S.msg a b])) a b ((S.push a b (S.msg a b)).queues a b).tail } = S
    rw [this]
  refine ⟨by unfold NetS.sendC; rw [if_pos hok, hoff]; rfl, ?_, ?_⟩
  · rw [h1]; unfold NetS.deliverC; rw [hok2, hoff2, h2]; rfl
  · rw [h1]
    unfold NetS.deliver
    rw [if_pos hok2, if_neg (by rw [hoff2]; simp), h2]
    show ((S.push a b (S.msg a b)).pop a b).recv a b (S.msg a b) = _
    rw [hpop]

/-- Lines are whole, nothing is under way (where 'done' says so). -/
structure Calm (S : NetS) (done : Nat → Nat → Prop) : Prop where
  wf : Wf S
  told : Told S
  len : ∀ i j, (S.queues i j).length ≤ 90
  quiet : ∀ i j, done i j → i < S.n → j < S.n → i ≠ j → S.off i j = false ∧ S.queues i j = []

theorem NetS.recv_off (S : NetS) (fr to : Nat) (m : Msg) : (S.recv fr to m).off = S.off := NetS.recvs_off to fr m.texts S
theorem NetS.recv_in {S : NetS} {fr to : Nat} (m : Msg) (he : S.sets (.has to) = S.texts to) : ∀ s ∈ m.texts, s ∈ (S.recv fr to m).texts to := NetS.recvs_text to fr m.texts S he

structure Passed (S : NetS) (a b : Nat) (done : Nat → Nat → Prop) : Prop where
  code : S.sendC a b = 0
  wf1 : Wf (S.send a b)
  ok : (S.send a b).deliverC a b = true
  eq : (S.send a b).deliver a b false false = S.recv a b (S.msg a b)
  calm : Calm (S.recv a b (S.msg a b)) done
  all : (S.recv a b (S.msg a b)).sets .all = S.sets .all
  n : (S.recv a b (S.msg a b)).n = S.n
  pre : ∀ k, ∃ ys, (S.recv a b (S.msg a b)).texts k = S.texts k ++ ys
  full : ∀ s ∈ S.texts a, s ∈ (S.recv a b (S.msg a b)).texts b
  len : ∀ i j, (S.queues i j).length ≤ 99

theorem Calm.pass {S : NetS} {done : Nat → Nat → Prop} (h : Calm S done) {a b : Nat} (ha : a < S.n) (hb : b < S.n) (hne : a ≠ b) (hd : done a b) : Passed S a b done := by
  have hok : S.okB a b = true := NetS.okB_iff.2 ⟨ha, hb, hne⟩
  obtain ⟨hoff, hq⟩ := h.quiet a b hd ha hb hne
  obtain ⟨h1, h2, h3⟩ := NetS.pass_eq hok hoff hq
  have hm := S.msg a b
  have hmt : MsgTold (S.texts a) (S.texts b) (S.msg a b) :=
    ⟨fun s hs => (NetS.lacks_sub hs).2.2, Nat.le_refl _, fun s hs => (h.told.lacks ha hb hne (List.mem_of_mem_take hs)).symm, h.told.hlen a b, h.told.heard a b⟩
  refine ⟨h1, h.wf.send fun i j => by have := h.len i j; omega, h2, h3, ⟨?_, ?_, ?_, ?_⟩, S.recv_all a b _, S.recv_n a b _, S.recv_pre a b _, ?_, fun i j => by have := h.len i j; omega⟩
  · exact h.wf.recv ha hb ⟨h.wf.lacksN a b, fun s hs => h.wf.texts a ha s (NetS.lacks_sub hs).2.2, h.wf.textsLen ha, h.wf.heard a b ha hb⟩
  · exact h.told.recv hmt (h.wf.has b hb)
  · intro i j; rw [NetS.recv_queues]; exact h.len i j
  · intro i j hij hi hj hne'
    rw [NetS.recv_queues, NetS.recv_off]
    rw [NetS.recv_n] at hi hj
    exact h.quiet i j hij hi hj hne'
  · intro s hs
    rcases h.told.lacks ha hb hne hs with hs | hs
    · exact NetS.recv_in (S.msg a b) (h.wf.has b hb) s hs
    · obtain ⟨ys, e⟩ := S.recv_pre a b (S.msg a b) b
      exact mem_more e hs

/-! ### every text is at some node -/
def Placed (S : NetS) : Prop := ∀ s ∈ S.sets .all, ∃ i, i < S.n ∧ s ∈ S.texts i
theorem Placed.grow {S S' : NetS} (h : Placed S) (hn : S'.n = S.n) (ha : S'.sets .all = S.sets .all) (ht : ∀ k, ∃ ys, S'.texts k = S.texts k ++ ys) : Placed S' := by
  intro s hs
  rw [ha] at hs
  obtain ⟨i, hi, hm⟩ := h s hs
  obtain ⟨ys, e⟩ := ht i
  exact ⟨i, by rw [hn]; exact hi, mem_more e hm⟩
theorem Placed.step {S : NetS} (h : Placed S) (wf : Wf S) (o : OpV) : Placed (S.step o) := by
  have hn := wf.n1
  by_cases hk : o.kind % 4 = 0
  · intro s hs
    rw [S.step_all o (by omega), if_pos hk] at hs
    have hi : o.a % S.n < S.n := Nat.mod_lt _ hn
    by_cases he : s = o.text
    · subst he
      refine ⟨o.a % S.n, by rw [NetS.step_n]; exact hi, ?_⟩
      have hst : S.step o = (S.know o.text).add (o.a % S.n) o.text := by
        unfold NetS.step NetS.put
        rw [if_pos hk, if_pos hi]
      rw [hst]
      refine (NetS.add_text _ _ _ ?_).1
      rw [NetS.know_texts]
      unfold NetS.know
      split
      · exact wf.has _ hi
      · simpa [updS] using wf.has _ hi
    · have hs' : s ∈ S.sets .all := by
        unfold addB at hs
        split at hs
        · exact hs
        · rcases List.mem_append.1 hs with hs | hs
          · exact hs
          · exact absurd (List.mem_singleton.1 hs) he
      obtain ⟨i, hi2, hm⟩ := h s hs'
      obtain ⟨ys, e⟩ := S.step_pre o i
      exact ⟨i, by rw [NetS.step_n]; exact hi2, mem_more e hm⟩
  · exact h.grow (S.step_n o) (by rw [S.step_all o (by omega), if_neg hk]) (S.step_pre o)
theorem Placed.fresh (n : Nat) : Placed (NetS.fresh n) := fun s hs => by cases hs
theorem Placed.run {S : NetS} (h : Placed S) (g : Good S 0) {l : List OpV} (hl : ∀ o ∈ l, o.text.size ≤ 100) : ∀ k, k ≤ l.length → k ≤ 98 → Placed (S.run (l.take k))
  | 0, _, _ => by simpa [NetS.run] using h
  | k + 1, hk, hm => by
    rw [NetS.run_take S (by omega)]
    exact (h.run g hl k (by omega) (by omega)).step (g.run hl k (by omega) (by omega)).wf _

/-! ### lines made whole, messages lost -/
theorem NetS.cutTo_queues (S : NetS) (a b : Nat) (v : Bool) : (S.cutTo a b v).queues = S.queues := by unfold NetS.cutTo; split <;> rfl
theorem NetS.cutTo_off (S : NetS) {a b : Nat} : (∀ i j, S.off i j = false → (S.cutTo a b false).off i j = false) ∧ (S.okB a b = true → (S.cutTo a b false).off a b = false) := by
  refine ⟨fun i j h => ?_, fun h => ?_⟩
  · unfold NetS.cutTo
    split
    · show cutOff S.off a b false i j = false
      unfold cutOff
      split
      · rfl
      · exact h
    · exact h
  · unfold NetS.cutTo
    rw [if_pos h]
    show cutOff S.off a b false a b = false
    unfold cutOff
    rw [if_pos (.inl ⟨rfl, rfl⟩)]
theorem Calm.cutTo {S : NetS} {done : Nat → Nat → Prop} (h : Calm S done) (a b : Nat) : Calm (S.cutTo a b false) done := by
  refine ⟨h.wf.cutTo a b false, h.told.cutTo a b false, fun i j => by rw [NetS.cutTo_queues]; exact h.len i j, fun i j hd hi hj hne => ?_⟩
  rw [NetS.cutTo_n] at hi hj
  obtain ⟨h1, h2⟩ := h.quiet i j hd hi hj hne
  exact ⟨(S.cutTo_off).1 i j h1, by rw [NetS.cutTo_queues]; exact h2⟩
theorem Calm.pop {S : NetS} {done : Nat → Nat → Prop} (h : Calm S done) (a b : Nat) : Calm (S.pop a b) done := by
  refine ⟨h.wf.pop a b, h.told.pop a b, fun i j => Nat.le_trans (S.pop_len a b i j) (h.len i j), fun i j hd hi hj hne => ?_⟩
  obtain ⟨h1, h2⟩ := h.quiet i j hd hi hj hne
  refine ⟨h1, ?_⟩
  have := S.pop_len a b i j
  rw [h2] at this
  exact List.eq_nil_of_length_eq_zero (by simpa using this)
theorem NetS.pop_same (S : NetS) {a b : Nat} {m : Msg} {ms : List Msg} (h : S.queues a b = m :: ms) : ((S.pop a b).queues a b).length + 1 = (S.queues a b).length := by
  show (upd2 S.queues a b (S.queues a b).tail a b).length + 1 = _
  rw [upd2_same, h]; rfl
theorem NetS.deliver_none {S : NetS} {a b : Nat} (h : S.deliverC a b = false) (lost again : Bool) : S.deliver a b lost again = S := by
  unfold NetS.deliver
  split
  · rename_i h1
    split
    · rfl
    · rename_i h2
      cases hq : S.queues a b with
      | nil => rfl
      | cons m ms =>
        exfalso
        unfold NetS.deliverC at h
        rw [h1, hq] at h
        have h2' : S.off a b = false := by simpa using h2
        rw [h2'] at h
        simp at h
  · rfl
theorem NetS.deliverC_none {S : NetS} {a b : Nat} (h : S.deliverC a b = false) (hok : S.okB a b = true) (hoff : S.off a b = false) : S.queues a b = [] := by
  unfold NetS.deliverC at h
  rw [hok, hoff] at h
  simpa using h

/-! ### all have all -/
theorem full_length {S : NetS} (wf : Wf S) {i : Nat} (hi : i < S.n) (h : ∀ s ∈ S.sets .all, s ∈ S.texts i) : (S.texts i).length = (S.sets .all).length :=
  Nat.le_antisymm (nodup_length _ _ (wf.textsN i hi) (wf.texts i hi)) (nodup_length _ _ wf.allN h)

/-- The state inside round r, where nodes 0 .. a have exchanged in turn. -/
structure Sweep (S : NetS) (n : Nat) (A : List ByteArray) (r a : Nat) : Prop where
  calm : Calm S (fun _ _ => True)
  nn : S.n = n
  all : S.sets .all = A
  up : ∀ s ∈ A, ∃ i, a ≤ i ∧ i < n ∧ s ∈ S.texts i
  full : ∀ i, i < n → (n ≤ i + r ∨ (i < a ∧ n ≤ i + r + 1 ∧ 1 ≤ r)) → ∀ s ∈ A, s ∈ S.texts i

theorem Sweep.both {S : NetS} {n : Nat} {A : List ByteArray} {r a : Nat} (h : Sweep S n A r a) (ha : a + 1 < n) :
    Passed S a (a + 1) (fun _ _ => True) ∧ Passed (S.recv a (a + 1) (S.msg a (a + 1))) (a + 1) a (fun _ _ => True) ∧
      Sweep ((S.recv a (a + 1) (S.msg a (a + 1))).recv (a + 1) a ((S.recv a (a + 1) (S.msg a (a + 1))).msg (a + 1) a)) n A r (a + 1) := by
  have p1 := h.calm.pass (a := a) (b := a + 1) (by rw [h.nn]; omega) (by rw [h.nn]; omega) (by omega) trivial
  have p2 := p1.calm.pass (a := a + 1) (b := a) (by rw [p1.n, h.nn]; omega) (by rw [p1.n, h.nn]; omega) (by omega) trivial
  refine ⟨p1, p2, p2.calm, by rw [p2.n, p1.n, h.nn], by rw [p2.all, p1.all, h.all], fun s hs => ?_, fun i hi hc s hs => ?_⟩
  · obtain ⟨i, h1, h2, h3⟩ := h.up s hs
    by_cases e : i = a
    · subst e
      obtain ⟨ys, e2⟩ := p2.pre (i + 1)
      exact ⟨i + 1, Nat.le_refl _, ha, mem_more e2 (p1.full s h3)⟩
    · obtain ⟨ys, e2⟩ := p2.pre i
      obtain ⟨zs, e3⟩ := p1.pre i
      exact ⟨i, by omega, h2, mem_more e2 (mem_more e3 h3)⟩
  · obtain ⟨ys, e2⟩ := p2.pre i
    obtain ⟨zs, e3⟩ := p1.pre i
    have old : (n ≤ i + r ∨ (i < a ∧ n ≤ i + r + 1 ∧ 1 ≤ r)) → s ∈ ((S.recv a (a + 1) (S.msg a (a + 1))).recv (a + 1) a ((S.recv a (a + 1) (S.msg a (a + 1))).msg (a + 1) a)).texts i :=
      fun hc => mem_more e2 (mem_more e3 (h.full i hi hc s hs))
    rcases hc with hc | ⟨hc1, hc2, hc3⟩
    · exact old (.inl hc)
    · by_cases e : i = a
      · subst e
        refine p2.full s ?_
        obtain ⟨us, e4⟩ := p1.pre (i + 1)
        exact mem_more e4 (h.full (i + 1) (by omega) (.inl (by omega)) s hs)
      · exact old (.inr ⟨by omega, hc2, hc3⟩)
theorem Sweep.next {S : NetS} {n : Nat} {A : List ByteArray} {r a : Nat} (h : Sweep S n A r a) (ha : a + 1 = n) : Sweep S n A (r + 1) 0 := by
  refine ⟨h.calm, h.nn, h.all, fun s hs => ?_, fun i hi hc s hs => ?_⟩
  · obtain ⟨i, h1, h2, h3⟩ := h.up s hs
    exact ⟨i, Nat.zero_le _, h2, h3⟩
  · have hc : n ≤ i + (r + 1) := by omega
    by_cases h1 : n ≤ i + r
    · exact h.full i hi (.inl h1) s hs
    · by_cases h2 : 1 ≤ r
      · exact h.full i hi (.inr ⟨by omega, by omega, h2⟩) s hs
      · obtain ⟨j, h3, h4, h5⟩ := h.up s hs
        have e : j = i := by omega
        rw [← e]; exact h5
theorem Sweep.start {S : NetS} (hc : Calm S (fun _ _ => True)) (hp : Placed S) : Sweep S S.n (S.sets .all) 0 0 :=
  ⟨hc, rfl, rfl, fun s hs => by
    obtain ⟨i, h1, h2⟩ := hp s hs
    exact ⟨i, Nat.zero_le _, h1, h2⟩, fun i hi h => by omega⟩
end Go.Proofs.Ytcipfpebjeakfaa
