/-
  The plain law: three messages in turn, and two more.
-/
import Derived.Test.YtcipfpebjeakfaaNetZ
namespace Go.Proofs.Ytcipfpebjeakfaa
open Go

theorem NetS.recvs_other (to fr : Nat) {k : Nat} (hk : k ≠ to) : ∀ (l : List ByteArray) (S : NetS), (S.recvs to fr l).texts k = S.texts k
  | [], _ => rfl
  | s :: l, S => by
    show ((S.recv1 to fr s).recvs to fr l).texts k = _
    rw [NetS.recvs_other to fr hk l]
    unfold NetS.recv1
    rw [NetS.ins_texts]
    unfold NetS.add
    split
    · rfl
    · simp [upd, hk]
theorem NetS.recvs_new (to fr : Nat) : ∀ (l : List ByteArray) (S : NetS), ∃ ys, (S.recvs to fr l).texts to = S.texts to ++ ys ∧ ∀ s ∈ ys, s ∈ l
  | [], S => ⟨[], by simp [NetS.recvs], by simp⟩
  | s :: l, S => by
    obtain ⟨ys, h1, h2⟩ := NetS.recvs_new to fr l (S.recv1 to fr s)
    have h3 : ∃ zs, (S.recv1 to fr s).texts to = S.texts to ++ zs ∧ ∀ t ∈ zs, t = s := by
      unfold NetS.recv1
      rw [NetS.ins_texts]
      unfold NetS.add
      split
      · exact ⟨[], by simp, by simp⟩
      · exact ⟨[s], by simp [upd], by simp⟩
    obtain ⟨zs, h4, h5⟩ := h3
    refine ⟨zs ++ ys, ?_, fun t ht => ?_⟩
    · show ((S.recv1 to fr s).recvs to fr l).texts to = _
      rw [h1, h4, List.append_assoc]
    · rcases List.mem_append.1 ht with ht | ht
      · rw [h5 t ht]; simp
      · simp [h2 t ht]

/-- x is the one that sends next. -/
def Stage (S : NetS) (x y : Nat) : Nat → Prop
  | 0 => True
  | 1 => (∀ s ∈ S.texts y, s ∈ S.texts x) ∧ S.heard x y = (S.texts y).length
  | 2 => (∀ s ∈ S.texts x, s ∈ S.texts y) ∧ (∀ s ∈ S.texts y, s ∈ S.texts x) ∧ S.lacks x y = [] ∧ S.heard x y = (S.texts y).length
  | _ => (∀ s ∈ S.texts x, s ∈ S.texts y) ∧ (∀ s ∈ S.texts y, s ∈ S.texts x) ∧ S.lacks x y = [] ∧ S.lacks y x = []

theorem kept_nil {p : ByteArray → Bool} {xs : List ByteArray} (h : ∀ s ∈ xs, p s = true) : kept p xs = [] := by
  unfold kept
  rw [List.filter_eq_nil_iff]
  intro s hs
  simp [h s hs]
theorem NetS.recv_heard (S : NetS) (fr to : Nat) (m : Msg) : (S.recv fr to m).heard to fr = max (S.heard to fr) m.length := by
  show upd2 (S.recvs to fr m.texts).heard to fr (max ((S.recvs to fr m.texts).heard to fr) m.length) to fr = _
  rw [upd2_same, (NetS.recvs_rest to fr m.texts S).2]
theorem NetS.recv_known (S : NetS) (fr to : Nat) (m : Msg) : (S.recv fr to m).known to fr = max (S.known to fr) m.heard := by
  show upd2 (S.recvs to fr m.texts).known to fr (max ((S.recvs to fr m.texts).known to fr) m.heard) to fr = _
  rw [upd2_same, (NetS.recvs_rest to fr m.texts S).1]

/-- A message without texts. -/
theorem NetS.recv_none (S : NetS) (fr to : Nat) {m : Msg} (h : m.texts = []) :
    S.recv fr to m = { S with heard := upd2 S.heard to fr (max (S.heard to fr) m.length), known := upd2 S.known to fr (max (S.known to fr) m.heard) } :=
  NetS.recv_of (R := S) (by rw [h]; rfl)
theorem NetS.lacks_less {S S' : NetS} {a b : Nat} (hn : S'.n = S.n) (ht : S'.texts a = S.texts a) (hg : S'.sets (.got a b) = S.sets (.got a b)) (hk : S.known a b ≤ S'.known a b) (h : S.lacks a b = []) : S'.lacks a b = [] := by
  unfold NetS.lacks at *
  rw [hn, ht, hg]
  split
  · rename_i hok
    rw [if_pos hok] at h
    unfold kept at *
    rw [List.filter_eq_nil_iff] at *
    intro s hs
    refine h s ?_
    have : ∃ d, min (S'.known a b) (S.texts a).length = min (S.known a b) (S.texts a).length + d := ⟨min (S'.known a b) (S.texts a).length - min (S.known a b) (S.texts a).length, by omega⟩
    obtain ⟨d, e⟩ := this
    rw [e, ← List.drop_drop] at hs
    exact List.mem_of_mem_drop hs
  · rfl
theorem NetS.lacks_same {S S' : NetS} {a b : Nat} (hn : S'.n = S.n) (ht : S'.texts a = S.texts a) (hg : S'.sets (.got a b) = S.sets (.got a b)) (hk : S'.known a b = S.known a b) : S'.lacks a b = S.lacks a b := by
  unfold NetS.lacks
  rw [hn, ht, hg, hk]

theorem Stage.next {S : NetS} {done : Nat → Nat → Prop} {x y t : Nat} (h : Calm S done) (st : Stage S x y t) (hx : x < S.n) (hy : y < S.n) (hne : x ≠ y) (hd : done x y) (ht : t ≤ 3) :
    Stage (S.recv x y (S.msg x y)) y x (min 3 (t + 1)) ∧ (t = 3 → (S.recv x y (S.msg x y)).views = S.views) := by
  have p := h.pass hx hy hne hd
  have hxt : (S.recv x y (S.msg x y)).texts x = S.texts x := NetS.recvs_other y x hne (S.msg x y).texts S
  obtain ⟨new, hyt, hnew⟩ := NetS.recvs_new y x (S.msg x y).texts S
  have hyt : (S.recv x y (S.msg x y)).texts y = S.texts y ++ new := hyt
  have hsub : ∀ s ∈ (S.msg x y).texts, s ∈ S.texts x := fun s hs => (NetS.lacks_sub hs).2.2
  have hheard : (S.recv x y (S.msg x y)).heard y x = ((S.recv x y (S.msg x y)).texts x).length := by
    refine Nat.le_antisymm (p.calm.told.hlen y x) ?_
    rw [NetS.recv_heard, hxt]
    exact Nat.le_max_right _ _
  have hfull : ∀ s ∈ (S.recv x y (S.msg x y)).texts x, s ∈ (S.recv x y (S.msg x y)).texts y := fun s hs => p.full s (by rw [hxt] at hs; exact hs)
  have hn' := p.n
  match t, ht, st with
  | 0, _, _ => exact ⟨⟨hfull, hheard⟩, fun h => by cases h⟩
  | 1, _, ⟨s1, s2⟩ =>
    refine ⟨⟨fun s hs => ?_, hfull, ?_, hheard⟩, fun h => by cases h⟩
    · rw [hyt, List.mem_append] at hs
      rw [hxt]
      rcases hs with hs | hs
      · exact s1 s hs
      · exact hsub s (hnew s hs)
    · unfold NetS.lacks
      rw [if_pos ⟨by omega, by omega, fun e => hne e.symm⟩]
      refine kept_nil fun s hs => inB_true ?_
      refine (NetS.recvs_in y x (S.msg x y).texts S s (hnew s ?_)).2
      have hk : (S.texts y).length ≤ (S.recv x y (S.msg x y)).known y x := by
        rw [NetS.recv_known]
        have : (S.msg x y).heard = (S.texts y).length := s2
        omega
      rw [hyt] at hs
      have hle : (S.texts y).length ≤ min ((S.recv x y (S.msg x y)).known y x) (S.texts y ++ new).length := by rw [List.length_append]; omega
      rw [List.drop_append, List.drop_eq_nil_of_le hle, List.nil_append] at hs
      exact List.mem_of_mem_drop hs
  | 2, _, ⟨s1, s2, s3, s4⟩ =>
    have hmt : (S.msg x y).texts = [] := s3
    have he := S.recv_none x y hmt
    have hk : (S.recv x y (S.msg x y)).known y x = max (S.known y x) (S.texts y).length := by
      rw [NetS.recv_known]
      have : (S.msg x y).heard = (S.texts y).length := s4
      rw [this]
    have hty : (S.recv x y (S.msg x y)).texts y = S.texts y := by rw [he]
    refine ⟨⟨fun s hs => by rw [hxt]; rw [hty] at hs; exact s2 s hs, hfull, ?_, ?_⟩, fun h => by cases h⟩
    · unfold NetS.lacks
      rw [if_pos ⟨by omega, by omega, fun e => hne e.symm⟩, hk, hty, List.drop_eq_nil_of_le (by omega)]
      rfl
    · refine (NetS.lacks_same hn' hxt (by rw [he]) ?_).trans s3
      rw [he]
      show upd2 S.known y x _ x y = _
      exact upd2_ne _ _ (fun e => hne e.1)
  | 3, _, ⟨s1, s2, s3, s4⟩ =>
    have hmt : (S.msg x y).texts = [] := s3
    have he := S.recv_none x y hmt
    have htx : (S.recv x y (S.msg x y)).texts = S.texts := by rw [he]
    have hl : ∀ i j, (S.recv x y (S.msg x y)).lacks i j = S.lacks i j := by
      intro i j
      by_cases e : i = y ∧ j = x
      · obtain ⟨rfl, rfl⟩ := e
        rw [s4]
        refine NetS.lacks_less hn' (by rw [htx]) (by rw [he]) ?_ s4
        rw [NetS.recv_known]
        exact Nat.le_max_left _ _
      · refine NetS.lacks_same hn' (by rw [htx]) (by rw [he]) ?_
        rw [he]
        show upd2 S.known y x _ i j = _
        exact upd2_ne _ _ e
    refine ⟨⟨fun s hs => by rw [htx] at hs ⊢; exact s2 s hs, fun s hs => by rw [htx] at hs ⊢; exact s1 s hs, by rw [hl]; exact s4, by rw [hl]; exact s3⟩, fun _ => ?_⟩
    unfold NetS.views NetS.viewTo NetS.viewIn
    rw [hn', htx]
    simp only [hl]

theorem NetS.cutTo_off' (S : NetS) {a b : Nat} (h : S.okB a b = true) : (S.cutTo a b false).off b a = false := by
  unfold NetS.cutTo
  rw [if_pos h]
  show cutOff S.off a b false b a = false
  unfold cutOff
  rw [if_pos (.inr ⟨rfl, rfl⟩)]
theorem Stage.lengths {S : NetS} (wf : Wf S) {x y : Nat} (hx : x < S.n) (hy : y < S.n) (st : Stage S x y 3) : (S.texts x).length = (S.texts y).length :=
  Nat.le_antisymm (nodup_length _ _ (wf.textsN x hx) st.1) (nodup_length _ _ (wf.textsN y hy) st.2.1)
theorem Calm.good {S : NetS} {done : Nat → Nat → Prop} (h : Calm S done) : Good S 1000 := ⟨h.wf, ⟨h.wf.all, fun i j => by have := h.len i j; omega⟩⟩
theorem Wf.recvsAt {S : NetS} (h : Wf S) {b a : Nat} (l : List ByteArray) (hl : ∀ s ∈ l, s ∈ S.sets .all) : Wf (S.recvs b a l) := (h.recvs (to := b) (fr := a) l hl).1
/-- The line between two nodes. -/
def Pair (a b : Nat) : Nat → Nat → Prop := fun i j => (i = a ∧ j = b) ∨ (i = b ∧ j = a)
end Go.Proofs.Ytcipfpebjeakfaa
