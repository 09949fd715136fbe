/-
  The plain law: the state stays within its limits.
-/
import Derived.Test.YtcipfpebjeakfaaNetM
namespace Go.Proofs.Ytcipfpebjeakfaa
open Go

/-- So many texts and messages at most. -/
structure Cap (S : NetS) (k : Nat) : Prop where
  all : (S.sets .all).length ≤ k
  q : ∀ i j, (S.queues i j).length ≤ k

theorem NetS.know_queues (S : NetS) (s : ByteArray) : (S.know s).queues = S.queues := by unfold NetS.know; split <;> rfl
theorem NetS.add_queues (S : NetS) (i : Nat) (s : ByteArray) : (S.add i s).queues = S.queues := by unfold NetS.add; split <;> rfl
theorem NetS.ins_queues (S : NetS) (i : SetId) (s : ByteArray) : (S.ins i s).queues = S.queues := by unfold NetS.ins; split <;> rfl
theorem NetS.recvs_queues (to fr : Nat) : ∀ (l : List ByteArray) (S : NetS), (S.recvs to fr l).queues = S.queues
  | [], _ => rfl
  | s :: l, S => by
    have := NetS.recvs_queues to fr l (S.recv1 to fr s)
    rw [show (S.recv1 to fr s).queues = S.queues by unfold NetS.recv1; rw [NetS.ins_queues, NetS.add_queues]] at this
    exact this
theorem NetS.know_in (S : NetS) (s : ByteArray) : s ∈ (S.know s).sets .all := by
  unfold NetS.know
  split
  · assumption
  · simp [updS]
theorem NetS.know_sub (S : NetS) (s : ByteArray) {t : ByteArray} (h : t ∈ S.sets .all) : t ∈ (S.know s).sets .all := by
  unfold NetS.know
  split
  · exact h
  · simp [updS, h]

theorem Wf.know {S : NetS} (h : Wf S) {s : ByteArray} (hs : s.size ≤ 20000) (hall : (S.sets .all).length < 1000) : Wf (S.know s) := by
  unfold NetS.know
  split
  · exact h
  · rename_i hin
    have up : ∀ t, t ∈ S.sets .all → t ∈ updS S.sets .all (S.sets .all ++ [s]) .all := fun t ht => by simp [updS, ht]
    exact { h with
      allN := by
        simp only [updS, if_true]
        rw [List.nodup_append]
        refine ⟨h.allN, by simp, fun x hx y hy => ?_⟩
        simp only [List.mem_singleton] at hy
        subst hy
        intro e; subst e; exact hin hx
      all := by simp [updS]; omega
      size := fun t ht => by
        simp only [updS, if_true, List.mem_append, List.mem_singleton] at ht
        rcases ht with ht | rfl
        · exact h.size t ht
        · exact hs
      texts := fun i hi t ht => up t (h.texts i hi t ht)
      has := fun i hi => by simpa [updS] using h.has i hi
      gotN := fun i j hi hj => by simpa [updS] using h.gotN i j hi hj
      got := fun i j hi hj t ht => up t (h.got i j hi hj t (by simpa [updS] using ht))
      msg := fun i j hi hj m hm => ⟨(h.msg i j hi hj m hm).1, fun t ht => up t ((h.msg i j hi hj m hm).2.1 t ht), (h.msg i j hi hj m hm).2.2⟩ }
theorem Wf.put {S : NetS} (h : Wf S) {i : Nat} {s : ByteArray} (hs : s.size ≤ 20000) (hall : (S.sets .all).length < 1000) : Wf (S.put i s) := by
  unfold NetS.put
  split
  · exact (h.know hs hall).addOne (S.know_in s)
  · exact h

theorem kept_sub {p : ByteArray → Bool} {xs : List ByteArray} {t : ByteArray} (h : t ∈ kept p xs) : t ∈ xs := (List.mem_filter.1 h).1
theorem NetS.lacks_sub {S : NetS} {a b : Nat} {t : ByteArray} (h : t ∈ S.lacks a b) : a < S.n ∧ b < S.n ∧ t ∈ S.texts a := by
  unfold NetS.lacks at h
  split at h
  · rename_i hok
    exact ⟨hok.1, hok.2.1, List.mem_of_mem_drop (kept_sub h)⟩
  · cases h
theorem Wf.lacksN {S : NetS} (h : Wf S) (a b : Nat) : (S.lacks a b).Nodup := by
  unfold NetS.lacks
  split
  · rename_i hok
    unfold kept
    exact List.Nodup.sublist (List.Sublist.trans List.filter_sublist (List.drop_sublist _ _)) (h.textsN a hok.1)
  · exact List.nodup_nil

theorem NetS.okB_iff {S : NetS} {a b : Nat} : S.okB a b = true ↔ a < S.n ∧ b < S.n ∧ a ≠ b := by
  unfold NetS.okB
  simp [and_assoc]

theorem Wf.send {S : NetS} (h : Wf S) {a b : Nat} (hq : ∀ i j, (S.queues i j).length < 100) : Wf (S.send a b) := by
  unfold NetS.send
  split
  · rename_i hok
    obtain ⟨ha, hb, hne⟩ := NetS.okB_iff.1 hok
    split
    · exact h
    · refine { h with
        qlen := fun i j hi hj => ?_
        msg := fun i j hi hj m hm => ?_ }
      · show (upd2 S.queues a b (S.queues a b ++ [S.msg a b]) i j).length ≤ 100
        unfold upd2
        split
        · have := hq a b; simp; omega
        · have := hq i j; omega
      · have hm' : m ∈ upd2 S.queues a b (S.queues a b ++ [S.msg a b]) i j := hm
        have : m ∈ S.queues i j ∨ m = S.msg a b := by
          unfold upd2 at hm'
          split at hm'
          · rename_i e
            rw [e.1, e.2]
            simpa using hm'
          · exact .inl hm'
        rcases this with hm | rfl
        · exact h.msg i j hi hj m hm
        · exact ⟨h.lacksN a b, fun s hs => h.texts a ha s (NetS.lacks_sub hs).2.2, h.textsLen ha, h.heard a b ha hb⟩
  · exact h

theorem Wf.cutTo {S : NetS} (h : Wf S) (a b : Nat) (v : Bool) : Wf (S.cutTo a b v) := by
  unfold NetS.cutTo
  split
  · refine { h with sym := fun i j => ?_ }
    show cutOff S.off a b v i j = cutOff S.off a b v j i
    unfold cutOff
    have : ((i = a ∧ j = b) ∨ (i = b ∧ j = a)) ↔ ((j = a ∧ i = b) ∨ (j = b ∧ i = a)) := by omega
    by_cases e : (i = a ∧ j = b) ∨ (i = b ∧ j = a)
    · rw [if_pos e, if_pos (this.1 e)]
    · rw [if_neg e, if_neg (fun h => e (this.2 h)), h.sym]
  · exact h

theorem Wf.peer {S : NetS} (h : Wf S) (i j x y : Nat) (hx : x ≤ 1000) (hy : y ≤ 1000) : Wf { S with heard := upd2 S.heard i j x, known := upd2 S.known i j y } := by
  refine { h with
    heard := fun a b ha hb => ?_
    known := fun a b ha hb => ?_ }
  · show upd2 S.heard i j x a b ≤ 1000
    unfold upd2; split
    · exact hx
    · exact h.heard a b ha hb
  · show upd2 S.known i j y a b ≤ 1000
    unfold upd2; split
    · exact hy
    · exact h.known a b ha hb

theorem Wf.recv {S : NetS} (h : Wf S) {fr to : Nat} (hfr : fr < S.n) (hto : to < S.n) {m : Msg} (hm : m.texts.Nodup ∧ (∀ s ∈ m.texts, s ∈ S.sets .all) ∧ m.length ≤ 1000 ∧ m.heard ≤ 1000) : Wf (S.recv fr to m) := by
  have h1 := (h.recvs (to := to) (fr := fr) m.texts hm.2.1).1
  have hn := NetS.recvs_n to fr m.texts S
  refine h1.peer to fr _ _ ?_ ?_
  · exact Nat.max_le.2 ⟨h1.heard to fr (by rw [hn]; exact hto) (by rw [hn]; exact hfr), hm.2.2.1⟩
  · exact Nat.max_le.2 ⟨h1.known to fr (by rw [hn]; exact hto) (by rw [hn]; exact hfr), hm.2.2.2⟩

theorem Wf.deliver {S : NetS} (h : Wf S) (fr to : Nat) (lost again : Bool) : Wf (S.deliver fr to lost again) := by
  unfold NetS.deliver
  split
  · rename_i hok
    obtain ⟨ha, hb, hne⟩ := NetS.okB_iff.1 hok
    split
    · exact h
    · split
      · exact h
      · rename_i m ms hq
        have hm := h.msg fr to ha hb m (by rw [hq]; simp)
        split
        · exact h.pop fr to
        · split
          · exact h.recv ha hb hm
          · exact (h.pop fr to).recv ha hb hm
  · exact h

theorem Cap.more {S : NetS} {k k' : Nat} (h : Cap S k) (hk : k ≤ k') : Cap S k' := ⟨Nat.le_trans h.all hk, fun i j => Nat.le_trans (h.q i j) hk⟩
theorem Cap.put {S : NetS} {k : Nat} (h : Cap S k) (i : Nat) (s : ByteArray) : Cap (S.put i s) (k + 1) := by
  unfold NetS.put
  split
  · refine ⟨?_, fun a b => ?_⟩
    · rw [NetS.add_all]
      unfold NetS.know
      split
      · have := h.all; omega
      · have := h.all; simp [updS]; omega
    · rw [NetS.add_queues, NetS.know_queues]; have := h.q a b; omega
  · exact h.more (by omega)
theorem NetS.send_all (S : NetS) (a b : Nat) : (S.send a b).sets .all = S.sets .all := by
  unfold NetS.send
  split
  · split <;> rfl
  · rfl
theorem Cap.send {S : NetS} {k : Nat} (h : Cap S k) (a b : Nat) : Cap (S.send a b) (k + 1) := by
  refine ⟨by rw [NetS.send_all]; have := h.all; omega, fun i j => ?_⟩
  unfold NetS.send
  split
  · split
    · have := h.q i j; omega
    · show (upd2 S.queues a b (S.queues a b ++ [S.msg a b]) i j).length ≤ k + 1
      unfold upd2
      split
      · have := h.q a b; simp; omega
      · have := h.q i j; omega
  · have := h.q i j; omega
theorem NetS.pop_len (S : NetS) (a b i j : Nat) : ((S.pop a b).queues i j).length ≤ (S.queues i j).length := by
  show (upd2 S.queues a b (S.queues a b).tail i j).length ≤ _
  unfold upd2
  split
  · rename_i e; rw [e.1, e.2, List.length_tail]; omega
  · exact Nat.le_refl _
theorem NetS.recvs_all (to fr : Nat) : ∀ (l : List ByteArray) (S : NetS), (S.recvs to fr l).sets .all = S.sets .all
  | [], _ => rfl
  | s :: l, S => by
    have := NetS.recvs_all to fr l (S.recv1 to fr s)
    rw [show (S.recv1 to fr s).sets .all = S.sets .all by unfold NetS.recv1; rw [NetS.insGot_all, NetS.add_all]] at this
    exact this
theorem NetS.recv_all (S : NetS) (fr to : Nat) (m : Msg) : (S.recv fr to m).sets .all = S.sets .all := NetS.recvs_all to fr m.texts S
theorem NetS.recv_queues (S : NetS) (fr to : Nat) (m : Msg) : (S.recv fr to m).queues = S.queues := NetS.recvs_queues to fr m.texts S
theorem Cap.deliver {S : NetS} {k : Nat} (h : Cap S k) (fr to : Nat) (lost again : Bool) : Cap (S.deliver fr to lost again) k := by
  have hp : Cap (S.pop fr to) k := ⟨h.all, fun i j => Nat.le_trans (S.pop_len fr to i j) (h.q i j)⟩
  have hr : ∀ {S : NetS} (m : Msg), Cap S k → Cap (S.recv fr to m) k := fun m h => ⟨by rw [NetS.recv_all]; exact h.all, fun i j => by rw [NetS.recv_queues]; exact h.q i j⟩
  unfold NetS.deliver
  split
  · split
    · exact h
    · split
      · exact h
      · split
        · exact hp
        · split
          · exact hr _ h
          · exact hr _ hp
  · exact h
theorem Cap.cutTo {S : NetS} {k : Nat} (h : Cap S k) (a b : Nat) (v : Bool) : Cap (S.cutTo a b v) k := by
  unfold NetS.cutTo
  split
  · exact ⟨h.all, h.q⟩
  · exact h
theorem Wf.fresh {n : Nat} (h1 : 1 ≤ n) (h8 : n ≤ 8) : Wf (NetS.fresh n) where
  n1 := h1
  n8 := h8
  allN := List.nodup_nil
  all := by simp [NetS.fresh]
  size := fun s hs => by cases hs
  textsN := fun i hi => List.nodup_nil
  texts := fun i hi s hs => by cases hs
  has := fun i hi => rfl
  gotN := fun i j hi hj => List.nodup_nil
  got := fun i j hi hj s hs => by cases hs
  heard := fun i j hi hj => Nat.zero_le _
  known := fun i j hi hj => Nat.zero_le _
  qlen := fun i j hi hj => by simp [NetS.fresh]
  msg := fun i j hi hj m hm => by cases hm
  sym := fun i j => rfl
theorem Cap.fresh (n : Nat) : Cap (NetS.fresh n) 0 := ⟨by simp [NetS.fresh], fun i j => by simp [NetS.fresh]⟩
end Go.Proofs.Ytcipfpebjeakfaa
