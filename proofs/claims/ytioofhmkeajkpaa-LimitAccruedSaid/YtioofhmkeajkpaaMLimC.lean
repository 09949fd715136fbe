/-
  What a clock's stops are: the paused days; the n-th day that is not paused.
-/
import Derived.Test.YtioofhmkeajkpaaMLimB
namespace Go.Proofs.Ytioofhmkeajkpaa
open Go Go.RowKit PLimitMatchesReference Go.Proofs.YtioofhmkeajkpaaW.PrintWords

theorem inB_iff {d : Int} {s : S31} : inB d s = true ↔ s.f0 ≤ d ∧ d < s.f1 := by simp [inB]
theorem clip_paused (fr : Int) (ss : Stops) (d : Int) : (clip fr ss).any (inB d) = pausedB fr ss d := by
  rw [Bool.eq_iff_iff, List.any_eq_true]
  unfold pausedB
  rw [Bool.and_eq_true, decide_eq_true_iff, List.any_eq_true]
  constructor
  · rintro ⟨s, hs, hd⟩
    obtain ⟨t, ht, rfl, h2⟩ := clip_mem hs
    rw [inB_iff] at hd
    unfold clipS at hd
    dsimp only at hd
    exact ⟨by omega, t, ht, inB_iff.2 ⟨by omega, hd.2⟩⟩
  · rintro ⟨h, t, ht, hd⟩
    rw [inB_iff] at hd
    refine ⟨clipS fr t, ?_, inB_iff.2 ⟨by unfold clipS; dsimp only; omega, hd.2⟩⟩
    unfold clip
    rw [List.mem_filter]
    refine ⟨List.mem_map.2 ⟨t, ht, rfl⟩, ?_⟩
    unfold clipS
    dsimp only
    exact decide_eq_true (by omega)

/-- Disjoint stops in order, behind a day. -/
structure Disj (fr : Int) (cs : Stops) : Prop where
  order : cs.Pairwise (fun a b => a.f1 < b.f0)
  ok : ∀ s ∈ cs, fr < s.f0 ∧ s.f0 < s.f1 ∧ s.f1 ≤ 1000000

structure JoinOk (fr : Int) (pre cs : Stops) : Prop where
  disj : Disj fr cs
  same : ∀ d, cs.any (inB d) = pre.any (inB d)
  from_ : ∀ c ∈ cs, ∃ x ∈ pre, c.f0 = x.f0

theorem any_append_one (l : Stops) (s : S31) (d : Int) : (l ++ [s]).any (inB d) = (l.any (inB d) || inB d s) := by simp

theorem JoinOk.step {fr : Int} {pre cs : Stops} (h : JoinOk fr pre cs) (s : S31) (hs : fr < s.f0 ∧ s.f0 < s.f1 ∧ s.f1 ≤ 1000000) (hle : ∀ x ∈ pre, x.f0 ≤ s.f0) : JoinOk fr (pre ++ [s]) (joinS cs s) := by
  rcases List.eq_nil_or_concat cs with rfl | ⟨init, t, rfl⟩
  · rw [joinS_nil]
    refine ⟨⟨by simp, fun x hx => by simp at hx; subst hx; exact hs⟩, fun d => ?_, fun c hc => ⟨s, by simp, by simp at hc; rw [hc]⟩⟩
    rw [any_append_one, any_append_one, h.same]
  · rw [List.concat_eq_append] at *
    have hdo := h.disj.order
    rw [List.pairwise_append] at hdo
    obtain ⟨hd1, -, hd3⟩ := hdo
    have ht := h.disj.ok t (by simp)
    obtain ⟨x0, hx0, hx1⟩ := h.from_ t (by simp)
    have hts : t.f0 ≤ s.f0 := by rw [hx1]; exact hle x0 hx0
    by_cases hj : s.f0 ≤ t.f1
    · rw [joinS_in hj]
      refine ⟨⟨?_, fun x hx => ?_⟩, fun d => ?_, fun c hc => ?_⟩
      · rw [List.pairwise_append]
        refine ⟨hd1, by simp, fun a ha b hb => ?_⟩
        simp only [List.mem_singleton] at hb
        subst hb
        exact hd3 a ha t (by simp)
      · simp only [List.mem_append, List.mem_singleton] at hx
        rcases hx with hx | rfl
        · exact h.disj.ok x (by simp [hx])
        · dsimp only; omega
      · have := h.same d
        rw [any_append_one] at this
        rw [any_append_one, any_append_one, ← this, Bool.or_assoc]
        congr 1
        rw [Bool.eq_iff_iff, Bool.or_eq_true, inB_iff, inB_iff, inB_iff]
        dsimp only
        omega
      · simp only [List.mem_append, List.mem_singleton] at hc
        rcases hc with hc | rfl
        · obtain ⟨x, h1, h2⟩ := h.from_ c (by simp [hc])
          exact ⟨x, by simp [h1], h2⟩
        · exact ⟨x0, by simp [hx0], hx1⟩
    · rw [joinS_out hj]
      refine ⟨⟨?_, fun x hx => ?_⟩, fun d => ?_, fun c hc => ?_⟩
      · rw [List.pairwise_append]
        refine ⟨h.disj.order, by simp, fun a ha b hb => ?_⟩
        simp only [List.mem_singleton] at hb
        subst hb
        simp only [List.mem_append, List.mem_singleton] at ha
        rcases ha with ha | rfl
        · have := hd3 a ha t (by simp); omega
        · omega
      · rw [List.mem_append, List.mem_singleton] at hx
        rcases hx with hx | rfl
        · exact h.disj.ok x hx
        · exact hs
      · rw [any_append_one (init ++ [t]) s d, any_append_one pre s d, h.same]
      · rw [List.mem_append, List.mem_singleton] at hc
        rcases hc with hc | rfl
        · obtain ⟨x, h1, h2⟩ := h.from_ c hc
          exact ⟨x, by simp [h1], h2⟩
        · exact ⟨_, by simp, rfl⟩
theorem joinOk_all {fr : Int} : ∀ (l pre cs : Stops), JoinOk fr pre cs → (∀ s ∈ l, fr < s.f0 ∧ s.f0 < s.f1 ∧ s.f1 ≤ 1000000) → (∀ x ∈ pre, ∀ s ∈ l, x.f0 ≤ s.f0) → l.Pairwise (fun x y => x.f0 ≤ y.f0) → JoinOk fr (pre ++ l) (l.foldl joinS cs)
  | [], pre, cs, h, _, _, _ => by simpa using h
  | s :: l, pre, cs, h, h1, h2, h3 => by
    rw [List.pairwise_cons] at h3
    have := joinOk_all l (pre ++ [s]) (joinS cs s) (h.step s (h1 s (by simp)) (fun x hx => h2 x hx s (by simp))) (fun x hx => h1 x (by simp [hx])) (fun x hx y hy => by
      rw [List.mem_append, List.mem_singleton] at hx
      rcases hx with hx | rfl
      · exact h2 x hx y (by simp [hy])
      · exact h3.1 y hy) h3.2
    simpa using this

theorem ClockOf.is {fr : Int} {ss cs : Stops} (h : ClockOf fr ss cs) (hok : ∀ s ∈ ss, 0 ≤ s.f0 ∧ s.f0 ≤ s.f1 ∧ s.f1 ≤ 1000000) : Disj fr cs ∧ ∀ d, cs.any (inB d) = pausedB fr ss d := by
  obtain ⟨l, hp, hs, rfl⟩ := h
  have hl : ∀ s ∈ l, fr < s.f0 ∧ s.f0 < s.f1 ∧ s.f1 ≤ 1000000 := fun s h => by
    obtain ⟨t, ht, rfl, h2⟩ := clip_mem (hp.mem_iff.1 h)
    have := hok t ht
    unfold clipS at *
    dsimp only at *
    omega
  have hJ := joinOk_all l [] [] ⟨⟨by simp, by simp⟩, fun _ => rfl, by simp⟩ hl (by simp) hs
  refine ⟨hJ.disj, fun d => ?_⟩
  rw [hJ.same, List.nil_append, hp.any_eq, clip_paused]

/-! ### the n-th day -/
theorem cntF_add (p : Int → Bool) (a : Int) (j : Nat) : ∀ k, cntF p a (j + k) = cntF p a j + cntF p (a + j) k
  | 0 => by simp [cntF]
  | k + 1 => by
    rw [← Nat.add_assoc, cntF, cntF_add p a j k, cntF, Nat.add_assoc]
    congr 2
    rw [show a + ((j + k : Nat) + 1 : Int) = a + j + (k + 1) by push_cast; omega]
theorem cntF_all {p : Int → Bool} {a : Int} : ∀ {k : Nat}, (∀ x, a < x → x ≤ a + k → p x = true) → cntF p a k = k
  | 0, _ => rfl
  | k + 1, h => by
    rw [cntF, cntF_all (fun x h1 h2 => h x h1 (by push_cast; omega)), if_pos (h _ (by omega) (by push_cast; omega))]
theorem cntF_none {p : Int → Bool} {a : Int} : ∀ {k : Nat}, (∀ x, a < x → x ≤ a + k → p x = false) → cntF p a k = 0
  | 0, _ => rfl
  | k + 1, h => by
    rw [cntF, cntF_none (fun x h1 h2 => h x h1 (by push_cast; omega)), h _ (by omega) (by push_cast; omega)]
    rfl
theorem cntF_congr {p q : Int → Bool} {a : Int} : ∀ {k : Nat}, (∀ x, a < x → x ≤ a + k → p x = q x) → cntF p a k = cntF q a k
  | 0, _ => rfl
  | k + 1, h => by
    rw [cntF, cntF, cntF_congr (fun x h1 h2 => h x h1 (by push_cast; omega)), h _ (by omega) (by push_cast; omega)]
theorem NthIs.congr {p q : Int → Bool} {a : Int} {n : Nat} {D : Int} (h : NthIs p a n D) (e : ∀ x, p x = q x) : NthIs q a n D := by
  have : p = q := funext e
  rw [← this]; exact h

theorem afterL_skip {n : Int} : ∀ {cs : Stops} {d : Int}, (∀ s ∈ cs, d < s.f0) → afterL n d cs = d
  | [], d, _ => rfl
  | s :: cs, d, h => by
    have h1 := h s (by simp)
    have e : afterS n d s = d := by unfold afterS; rw [if_neg (by omega)]
    show afterL n (afterS n d s) cs = d
    rw [e]
    exact afterL_skip fun s hs => h s (by simp [hs])
theorem afterL_pos {n m : Int} (hn : 0 < n) (hm : 0 < m) (cs : Stops) (d : Int) : afterL n d cs = afterL m d cs := by
  unfold afterL
  congr 1
  funext d s
  unfold afterS
  by_cases h : s.f0 ≤ d
  · rw [if_pos ⟨h, hn⟩, if_pos ⟨h, hm⟩]
  · rw [if_neg (fun x => h x.1), if_neg (fun x => h x.1)]
theorem afterL_nth : ∀ (cs : Stops) (a : Int) (m : Nat), 0 < m → cs.Pairwise (fun a b => a.f1 < b.f0) → (∀ s ∈ cs, a < s.f0 ∧ s.f0 < s.f1) → NthIs (fun d => !(cs.any (inB d))) a m (afterL m (a + m) cs)
  | [], a, m, hm, _, _ => ⟨m, rfl, cntF_all (fun _ _ _ => rfl), fun _ => rfl⟩
  | s :: cs, a, m, hm, hp, hok => by
    rw [List.pairwise_cons] at hp
    have hs := hok s (by simp)
    by_cases hle : s.f0 ≤ a + m
    · obtain ⟨j, hj⟩ : ∃ j : Nat, s.f0 - 1 - a = j := ⟨(s.f0 - 1 - a).toNat, by omega⟩
      obtain ⟨ln, hln⟩ : ∃ ln : Nat, s.f1 - s.f0 = ln := ⟨(s.f1 - s.f0).toNat, by omega⟩
      have hjm : j < m := by omega
      have ih := afterL_nth cs (s.f1 - 1) (m - j) (by omega) hp.2 (fun x hx => by have := hp.1 x hx; have := hok x (by simp [hx]); omega)
      have e : afterL m (a + m) (s :: cs) = afterL ((m - j : Nat) : Int) (s.f1 - 1 + ((m - j : Nat) : Int)) cs := by
        show afterL m (afterS m (a + m) s) cs = _
        unfold afterS
        rw [if_pos ⟨hle, by omega⟩, afterL_pos (n := m) (m := ((m - j : Nat) : Int)) (by omega) (by omega)]
        congr 1
        omega
      rw [e]
      obtain ⟨k, hk1, hk2, hk3⟩ := ih
      have hpo : ∀ x, s.f1 ≤ x → (!((s :: cs).any (inB x))) = !(cs.any (inB x)) := fun x hx => by
        rw [List.any_cons, show inB x s = false from by unfold inB; rw [decide_eq_false (p := x < s.f1) (by omega)]; simp]
        rfl
      refine ⟨j + ln + k, by rw [hk1]; push_cast; omega, ?_, fun _ => ?_⟩
      · rw [cntF_add, cntF_add, cntF_all, cntF_none, cntF_congr (q := fun d => !(cs.any (inB d))), show a + ((j + ln : Nat) : Int) = s.f1 - 1 by push_cast; omega, hk2]
        · omega
        · intro x h1 h2
          exact hpo x (by push_cast at h1; omega)
        · intro x h1 h2
          rw [List.any_cons, inB_iff.2 ⟨by omega, by omega⟩]; rfl
        · intro x h1 h2
          rw [Bool.not_eq_true', List.any_eq_false]
          intro t ht h3
          rw [inB_iff] at h3
          simp only [List.mem_cons] at ht
          rcases ht with rfl | ht
          · omega
          · have := hp.1 t ht; omega
      · have hk0 : k ≠ 0 := fun h0 => by
          subst h0
          simp only [cntF] at hk2
          omega
        have := hpo _ (show s.f1 ≤ afterL ((m - j : Nat) : Int) (s.f1 - 1 + ((m - j : Nat) : Int)) cs from by rw [hk1]; omega)
        exact this.trans (hk3 hk0)
    · have e : afterL m (a + m) (s :: cs) = a + m := afterL_skip fun t ht => by
        simp only [List.mem_cons] at ht
        rcases ht with rfl | ht
        · omega
        · have := hp.1 t ht; omega
      rw [e]
      have hno : ∀ x, a < x → x ≤ a + m → (!((s :: cs).any (inB x))) = true := fun x h1 h2 => by
        rw [Bool.not_eq_true', List.any_eq_false]
        intro t ht h3
        rw [inB_iff] at h3
        simp only [List.mem_cons] at ht
        rcases ht with rfl | ht
        · omega
        · have := hp.1 t ht; omega
      exact ⟨m, rfl, cntF_all hno, fun _ => hno _ (by omega) (by omega)⟩
theorem after_nth {fr : Int} {cs : Stops} (h : Disj fr cs) (n : Nat) : NthIs (fun d => !(cs.any (inB d))) fr n (afterL n (fr + n) cs) := by
  by_cases h0 : n = 0
  · subst h0
    have : afterL ((0 : Nat) : Int) (fr + ((0 : Nat) : Int)) cs = fr := by
      unfold afterL
      rw [show (fr + ((0 : Nat) : Int)) = fr by omega]
      clear h
      induction cs with
      | nil => rfl
      | cons s cs ih =>
        rw [List.foldl_cons, show afterS ((0 : Nat) : Int) fr s = fr from by unfold afterS; rw [if_neg (by omega)]]
        exact ih
    rw [this]
    exact ⟨0, by simp, rfl, fun h => absurd rfl h⟩
  · exact afterL_nth cs fr n (by omega) h.order fun s hs => ⟨(h.ok s hs).1, (h.ok s hs).2.1⟩
theorem firstF_congr {p q : Int → Bool} (e : ∀ x, p x = q x) (n : Nat) (d : Int) : firstF p n d = firstF q n d := by
  have : p = q := funext e
  rw [this]
end Go.Proofs.Ytioofhmkeajkpaa

/-
  Terms do not end before they begin; contract of package limit: Due.
-/
namespace Go.Proofs.Ytioofhmkeajkpaa
open Go Go.RowKit PLimitMatchesReference Go.Proofs.YtioofhmkeajkpaaW.PrintWords

attribute [local irreducible] World.cell? World.frozen? isAggB _root_.Go.Program.underlying

/-! ### terms -/
/-- The first day of a month, by its number. -/
def firstD (t : Int) : Int := yearD (t / 12) + cumD (t / 12) (t % 12 + 1).toNat
def lenD (t : Int) : Int := monD (t / 12) (t % 12 + 1)
theorem lenD_le (t : Int) : 28 ≤ lenD t ∧ lenD t ≤ 31 := monD_le _ _
theorem firstD_succ {t : Int} (h : 19200 ≤ t) : firstD (t + 1) = firstD t + lenD t := by
  unfold firstD lenD
  obtain ⟨k, hk⟩ : ∃ k : Nat, t % 12 = k := ⟨(t % 12).toNat, by omega⟩
  by_cases h11 : t % 12 = 11
  · have e1 : (t + 1) / 12 = t / 12 + 1 := by omega
    have e2 : (t + 1) % 12 = 0 := by omega
    rw [e1, e2, h11, yearD_succ (by omega), ← cumD_13]
    have := cumD_succ (t / 12) 12 (by omega)
    rw [show ((11 : Int) + 1).toNat = 12 by rfl, show ((0 : Int) + 1).toNat = 1 by rfl]
    have h1 : cumD (t / 12 + 1) 1 = 0 := rfl
    push_cast at this
    rw [h1, show (11 : Int) + 1 = 12 by rfl]
    omega
  · have e1 : (t + 1) / 12 = t / 12 := by omega
    have e2 : (t + 1) % 12 = t % 12 + 1 := by omega
    rw [e1, e2, hk]
    have := cumD_succ (t / 12) (k + 1) (by omega)
    rw [show ((k : Int) + 1 + 1).toNat = k + 1 + 1 by omega, show ((k : Int) + 1).toNat = k + 1 by omega, this]
    push_cast
    omega
theorem firstD_add {t : Int} (h : 19200 ≤ t) : ∀ n : Nat, firstD t + 28 * n ≤ firstD (t + n) ∧ firstD (t + n) ≤ firstD t + 31 * n
  | 0 => by simp
  | n + 1 => by
    have h1 := firstD_add h n
    have h2 := firstD_succ (t := t + n) (by omega)
    have h3 := lenD_le (t + n)
    rw [show t + ((n + 1 : Nat) : Int) = t + n + 1 by push_cast; omega, h2]
    push_cast
    omega
theorem months_le {day n r : Int} (h : MonthsIs day n r 0) (hn : 0 ≤ n) : day ≤ r ∧ r ≤ day + 31 * n ∧ r ≤ 1000000 := by
  obtain ⟨y, m, d, hd, h⟩ := h
  rcases h with ⟨_, _, h⟩ | ⟨_, v, hv, h⟩
  · omega
  · rcases h with ⟨h1, rfl, _⟩ | ⟨_, _, h⟩
    · obtain ⟨k, rfl⟩ : ∃ k : Nat, n = k := ⟨n.toNat, by omega⟩
      have ht : 19200 ≤ 12 * y + m - 1 := by have := hd.y1; have := hd.m1; omega
      have e1 : (12 * y + m - 1) / 12 = y := by have := hd.m1; have := hd.m12; omega
      have e2 : (12 * y + m - 1) % 12 + 1 = m := by have := hd.m1; have := hd.m12; omega
      have hday : day = firstD (12 * y + m - 1) + d - 1 := by unfold firstD; rw [e1, e2]; exact hd.eq
      have hlen : lenD (12 * y + m - 1) = monD y m := by unfold lenD; rw [e1, e2]
      have hv' : r = firstD (12 * y + m - 1 + k) + min d (lenD (12 * y + m - 1 + k)) - 1 := hv
      have hd1 := hd.d1
      have hdm := hd.dm
      have hl2 := lenD_le (12 * y + m - 1 + k)
      refine ⟨?_, ?_, h1⟩
      · rcases k with _ | k
        · rw [show 12 * y + m - 1 + ((0 : Nat) : Int) = 12 * y + m - 1 by omega] at hv'
          omega
        · have h3 := firstD_succ ht
          have h4 := firstD_add (t := 12 * y + m - 1 + 1) (by omega) k
          rw [show 12 * y + m - 1 + ((k + 1 : Nat) : Int) = 12 * y + m - 1 + 1 + k by push_cast; omega] at hv' hl2
          omega
      · have h4 := firstD_add ht k
        omega
    · omega
theorem workF_ge (cl : List Int) : ∀ (n : Nat) (d : Int), d ≤ workF cl n d
  | 0, d => Int.le_refl d
  | n + 1, d => by
    rw [workF]
    split
    · have := workF_ge cl n (fromD cl (d + 1))
      have := fromD_ge cl (d + 1)
      omega
    · omega
theorem StepIs.ge {day n unit : Int} {cl : List Int} {r : Int} (h : StepIs day n unit cl r 0) (hn : 0 ≤ n) : day ≤ r := by
  unfold StepIs at h
  split at h
  · omega
  · split at h
    · omega
    · split at h
      · exact (months_le h hn).1
      · split at h
        · exact (months_le h (by omega)).1
        · rw [h.1]; exact workF_ge _ _ _
theorem AddIs.out {day n unit : Int} {cl : List Int} {r e : Int} (h : AddIs day n unit cl r e) : (e = 0 ∧ day ≤ r ∧ r ≤ 1000000 ∧ 0 ≤ day ∧ workB cl r = true) ∨ (r = 0 ∧ (e = 1 ∨ e = 2 ∨ e = 10)) := by
  unfold AddIs at h
  split at h
  · rename_i hd
    rw [Bool.and_eq_true] at hd
    have h1 := dayB_iff.1 hd.1
    have h2 := termB_iff.1 hd.2
    split at h
    · exact .inr ⟨h.1, .inr (.inl h.2)⟩
    · obtain ⟨x, f, hs, h⟩ := h
      split at h
      · rename_i hc
        obtain ⟨rfl, hx, hle⟩ := hc
        obtain ⟨rfl, rfl⟩ := h
        exact .inl ⟨rfl, by have := hs.ge h2.2.2.1; have := fromD_ge cl x; omega, hle, h1.1, fromD_work hle⟩
      · exact .inr ⟨h.1, .inr (.inr h.2)⟩
  · exact .inr ⟨h.1, .inl h.2⟩

theorem stopB_iff {s : S31} : stopB s = true ↔ 0 ≤ s.f0 ∧ s.f0 ≤ s.f1 ∧ s.f1 ≤ 1000000 := by simp [stopB, and_assoc]
theorem Lim.proper_iff {l : Lim} : l.proper = true ↔ nmB l.id = true ∧ (0 ≤ l.fr ∧ l.fr ≤ 1000000) ∧ (1 ≤ l.unit ∧ l.unit ≤ 5 ∧ 0 ≤ l.n ∧ l.n ≤ 1000000) ∧ l.stops.length ≤ 60 ∧ ∀ s ∈ l.stops, 0 ≤ s.f0 ∧ s.f0 ≤ s.f1 ∧ s.f1 ≤ 1000000 := by
  unfold Lim.proper
  simp only [Bool.and_eq_true, dayB_iff, termB_iff, decide_eq_true_iff, List.all_eq_true, stopB_iff, and_assoc]

def DuePost (l : Lim) (cl : List Int) (w : World) (e : Ending) (w' : World) : Prop :=
  ∃ r f, e = .returned (.tuple #[.int .i64 r, .int .i64 f]) ∧ DueIs l cl r f ∧ Ext w w'

set_option maxRecDepth 100000 in
set_option maxHeartbeats 4000000 in
theorem due_contract {w : World} {l : Lim} {v : Value} (h : LimAt w l v) {vc : Value} {cl : List Int} (hv : RInts w vc cl) (hok : ∀ x ∈ cl, (Lit.int .i64 x).wf = true) (hn : cl.length ≤ 1000000) :
    Calls Try.prog 12 #[.agg (limCells l v).toArray, vc] w fun e w' => DuePost l cl w e w' := by
  have hok' := Lib.hid hok
  clear hok
  have hpr := fun W (hE : Ext w W) => proper_contract (h.ext hE)
  have hone := h.stops.one
  cases hp : l.proper with
  | false =>
    simp only [hp] at hpr
    replace hpr := Lib.hid hpr
    have hD : ∀ r f, r = 0 ∧ f = 1 → DueIs l cl r f := fun r f e => by unfold DueIs; rw [hp]; simpa using e
    replace hD := Lib.hid hD
    clear hp
    unfold limCells
    go_enter Try.func12, Try.ntmps12
    ((first | go_at_call 28 | (go_wp2_with fail; go_at_call 28)); refine (hpr.out _ (Ext.alloc w _)).mono ?_; rintro _ w1 ⟨rfl, x1⟩)
    go_wp2_with fail
    go_ret2
    exact ⟨0, 1, rfl, hD.out _ _ ⟨rfl, rfl⟩, (Ext.alloc w _).then_ext x1⟩
  | true =>
    simp only [hp] at hpr
    replace hpr := Lib.hid hpr
    obtain ⟨-, ⟨hfr0, hfr1⟩, ⟨hu0, hu1, hn0, hn1⟩, h60, hst⟩ := Lim.proper_iff.1 hp
    have hst' := Lib.hid hst
    have hp' := Lib.hid hp
    clear hp hst hu0 hu1 hn0 hn1
    unfold limCells
    go_enter Try.func12, Try.ntmps12
    ((first | go_at_call 28 | (go_wp2_with fail; go_at_call 28)); refine (hpr.out _ (Ext.alloc w _)).mono ?_; rintro _ w1 ⟨rfl, x1⟩)
    have b1 := (Blk.alloc' w #[.string l.id, .int .i64 l.n, .int .i64 l.unit, .int .i64 l.fr, v] 26).ext x1
    have hE1 := (Ext.alloc w _).then_ext x1
    have hv1 := hv.ext hE1
    ((first | go_at_call 23 | (go_wp2_with (first | ((with_reducible change wpList _ _ _ (Oper.mk _ (Op.load _ _) _ _ _ _ :: _) _ _); refine BigFrame.wpList_want rfl (fun K hK => ?_); refine op_load1 rfl rfl Try.ag3 (b1.cell (i := 3) rfl) ?_; refine hK _ _ ?_; clear hK K) | ((with_reducible change wpList _ _ _ (Oper.mk _ (Op.load _ _) _ _ _ _ :: _) _ _); refine BigFrame.wpList_want rfl (fun K hK => ?_); refine op_loadN (p := ⟨w.heap.size, 1, none⟩) (vs := [.int .i64 l.n, .int .i64 l.unit]) rfl rfl Try.ag23 Try.sz23 (blk_part [.string l.id] [.int .i64 l.n, .int .i64 l.unit] [.int .i64 l.fr, v] b1) ?_; refine hK _ _ ?_; clear hK K)); go_at_call 23)); refine (add_contract hv1 hok'.out hn l.fr l.n l.unit).mono ?_; rintro _ w2 ⟨a, f, rfl, hadd, x2⟩)
    have b2 := b1.ext x2
    have hE2 := hE1.then_ext x2
    have hout := hadd.out
    have hadd' := Lib.hid hadd
    clear hadd
    by_cases hf : f = 0
    · subst hf
      have hab : l.fr ≤ a ∧ a ≤ 1000000 := by omega
      obtain ⟨ha0, ha1⟩ := hab
      clear hout
      obtain ⟨n, hna⟩ : ∃ n : Nat, a - l.fr = n := ⟨(a - l.fr).toNat, by omega⟩
      have hn4 : n ≤ 1000000 := by omega
      have hst2 := start_contract (h.ext hE2) h60 hfr0 hfr1 hst'.out
      replace hst2 := Lib.hid hst2
      ((first | go_at_call 29 | (go_wp2_with (first | ((with_reducible change wpList _ _ _ (Oper.mk _ (Op.load _ _) _ _ _ _ :: _) _ _); refine BigFrame.wpList_want rfl (fun K hK => ?_); refine op_loadN (p := ⟨w.heap.size, 0, none⟩) (vs := [.string l.id, .int .i64 l.n, .int .i64 l.unit, .int .i64 l.fr, v]) rfl rfl Try.ag26 Try.sz26 (blk_cells b2) ?_; refine hK _ _ ?_; clear hK K)); go_at_call 29)); refine (hst2.out).mono ?_; rintro _ w3 ⟨gC, cs, vs, rfl, hco, hbC, hrC, x3⟩)
      have b3 := b2.ext x3
      have hE3 := hE2.then_ext x3
      obtain ⟨hdj, hsm⟩ := hco.is hst'.out
      have hlc : cs.length ≤ 1000 := by
        obtain ⟨ls, hpm, -, rfl⟩ := hco
        have h1 := joins_len ls
        have h2 := hpm.length_eq
        have h3 := clip_len l.fr l.stops
        omega
      have hC : ClockAt w3 gC l.fr cs := ⟨⟨vs, hbC, hrC⟩, hlc, fun s hs => by have := hdj.ok s hs; omega⟩
      have hnth := after_nth hdj n
      have hD : ∀ r e, (if openD l cl (afterL n (l.fr + n) cs) ≤ 1000000 then r = openD l cl (afterL n (l.fr + n) cs) ∧ e = 0 else r = 0 ∧ e = 10) → DueIs l cl r e := fun r e h => by
        unfold DueIs
        rw [if_pos hp'.out]
        refine ⟨a, 0, hadd'.out, ?_⟩
        rw [if_pos rfl]
        refine ⟨_, ?_, h⟩
        rw [show (a - l.fr).toNat = n by omega]
        exact hnth.congr fun x => by rw [hsm]; rfl
      have hop : openC cs cl (afterL n (l.fr + n) cs) = openD l cl (afterL n (l.fr + n) cs) := firstF_congr (fun x => by rw [hsm]; rfl) _ _
      have hal := afterL_le n cs (l.fr + n) (fun s hs => by have := hdj.ok s hs; omega)
      have hD' := Lib.hid hD
      have hop' := Lib.hid hop
      have hsm' := Lib.hid hsm
      have hnth' := Lib.hid hnth
      clear hD hop hsm hnth hdj hco
      have haf := after_contract hC n hfr0 hfr1 (by omega) (by omega)
      generalize afterL n (l.fr + n) cs = D at hal haf hD' hop'
      replace haf := Lib.hid haf
      have hD0 : 0 ≤ D := by omega
      have hD1 : D ≤ 9000000000 := by omega
      ((first | go_at_call 31 | (go_wp2_with (first | ((with_reducible change wpList _ _ _ (Oper.mk _ (Op.load _ _) _ _ _ _ :: _) _ _); refine BigFrame.wpList_want rfl (fun K hK => ?_); refine op_load1 rfl rfl Try.ag3 (b3.cell (i := 3) rfl) ?_; refine hK _ _ ?_; clear hK K)); go_at_call 31)); refine (haf.out).mono ?_; rintro _ w4 ⟨rfl, x4⟩)
      have hE4 := hE3.then_ext x4
      ((first | go_at_call 30 | (go_wp2_with fail; go_at_call 30)); refine (open_contract (hC.ext x4) (hv.ext hE4) hok'.out hn D hD0 hD1).mono ?_; rintro _ w5 ⟨rfl, x5⟩)
      go_wp2_with fail
      go_ret2
      refine ⟨_, _, rfl, hD'.out _ _ ?_, hE4.then_ext x5⟩
      rw [hop'.out]
      unfold openR
      split
      · exact ⟨rfl, rfl⟩
      · exact ⟨rfl, rfl⟩
    · have hf' : (f != 0) = true := by simpa using hf
      have hD : DueIs l cl 0 f := by
        unfold DueIs
        rw [if_pos hp'.out]
        exact ⟨a, f, hadd'.out, by rw [if_neg hf]; exact ⟨rfl, rfl⟩⟩
      replace hD := Lib.hid hD
      clear hout
      go_wp2_with fail
      go_ret2
      exact ⟨0, f, rfl, hD.out, hE2⟩
end Go.Proofs.Ytioofhmkeajkpaa

/-
  Contract of package limit: Left.
-/
namespace Go.Proofs.Ytioofhmkeajkpaa
open Go Go.RowKit PLimitMatchesReference Go.Proofs.YtioofhmkeajkpaaW.PrintWords

attribute [local irreducible] World.cell? World.frozen? isAggB _root_.Go.Program.underlying

/-! ### counting -/
theorem cntF_not (p : Int → Bool) (a : Int) : ∀ k, cntF (fun x => !p x) a k + cntF p a k = k
  | 0 => rfl
  | k + 1 => by
    have := cntF_not p a k
    rw [cntF, cntF]
    cases p (a + (k + 1)) <;> simp <;> omega
theorem cntF_or {p q : Int → Bool} (h : ∀ x, p x = true → q x = false) (a : Int) : ∀ k, cntF (fun x => p x || q x) a k = cntF p a k + cntF q a k
  | 0 => rfl
  | k + 1 => by
    have := cntF_or h a k
    have h1 := h (a + (k + 1))
    rw [cntF, cntF, cntF, this]
    cases hp : p (a + (k + 1))
    · simp; omega
    · rw [h1 hp]; simp; omega
def ovl (day due : Int) (s : S31) : Int := max 0 (min s.f1 (due + 1) - max s.f0 day)
theorem cntF_in (s : S31) (a : Int) : ∀ k : Nat, (cntF (fun x => inB x s) a k : Int) = max 0 (min s.f1 (a + k + 1) - max s.f0 (a + 1))
  | 0 => by simp only [cntF]; omega
  | k + 1 => by
    have := cntF_in s a k
    rw [cntF]
    by_cases h : s.f0 ≤ a + (k + 1) ∧ a + (k + 1) < s.f1
    · rw [if_pos (inB_iff.2 h)]; push_cast; omega
    · rw [if_neg (fun x => h (inB_iff.1 x))]; push_cast; omega
theorem cntF_any : ∀ (cs : Stops) (a : Int) (k : Nat), cs.Pairwise (fun a b => a.f1 < b.f0) → (∀ s ∈ cs, s.f0 < s.f1) → (cntF (fun x => cs.any (inB x)) a k : Int) = (cs.map (ovl (a + 1) (a + k))).foldr (· + ·) 0
  | [], a, k, _, _ => by
    have : cntF (fun x => ([] : Stops).any (inB x)) a k = 0 := cntF_none (fun _ _ _ => rfl)
    rw [this]; rfl
  | s :: cs, a, k, hp, hs => by
    rw [List.pairwise_cons] at hp
    have ih := cntF_any cs a k hp.2 (fun x hx => hs x (by simp [hx]))
    have e : cntF (fun x => (s :: cs).any (inB x)) a k = cntF (fun x => inB x s) a k + cntF (fun x => cs.any (inB x)) a k :=
      cntF_or (p := fun x => inB x s) (q := fun x => cs.any (inB x)) (fun x hx => by
        rw [List.any_eq_false]
        intro t ht h3
        rw [inB_iff] at hx h3
        have := hp.1 t ht
        omega) a k
    rw [e, List.map_cons, List.foldr_cons]
    push_cast
    rw [ih, cntF_in]
    unfold ovl
    rfl
theorem foldl_sub : ∀ (cs : Stops) (day due n : Int), cs.foldl (fun n s => n - ovl day due s) n = n - (cs.map (ovl day due)).foldr (· + ·) 0
  | [], day, due, n => by simp
  | s :: cs, day, due, n => by
    rw [List.foldl_cons, foldl_sub cs, List.map_cons, List.foldr_cons]
    omega
/-- How many days are left: those from the day to the last one that are not paused. -/
def leftD (l : Lim) (day due : Int) : Nat := cntF (fun x => !l.paused x) (day - 1) (due - day + 1).toNat
theorem left_fold {l : Lim} {cs : Stops} (h : Disj l.fr cs) (hs : ∀ d, cs.any (inB d) = pausedB l.fr l.stops d) (day due : Int) :
    cs.foldl (fun n s => n - ovl day due s) (max 0 (due - day + 1)) = leftD l day due := by
  rw [foldl_sub]
  have h1 := cntF_any cs (day - 1) (due - day + 1).toNat h.order (fun s hs => (h.ok s hs).2.1)
  have h2 := cntF_not (fun x => cs.any (inB x)) (day - 1) (due - day + 1).toNat
  have h3 : leftD l day due = cntF (fun x => !(cs.any (inB x))) (day - 1) (due - day + 1).toNat := cntF_congr fun x _ _ => by rw [hs]; rfl
  rw [h3]
  rw [show day - 1 + 1 = day by omega] at h1
  by_cases hk : day ≤ due + 1
  · rw [show day - 1 + ((due - day + 1).toNat : Int) = due by omega] at h1
    omega
  · have hz : (due - day + 1).toNat = 0 := by omega
    have h4 : ∀ s ∈ cs, ovl day due s = 0 := fun s hs => by unfold ovl; omega
    have h5 : ∀ cs : Stops, (∀ s ∈ cs, ovl day due s = 0) → (cs.map (ovl day due)).foldr (· + ·) 0 = 0 := by
      intro cs
      induction cs with
      | nil => intro _; rfl
      | cons s cs ih => intro h; rw [List.map_cons, List.foldr_cons, h s (by simp), ih (fun x hx => h x (by simp [hx]))]; rfl
    rw [h5 cs h4, hz]
    simp only [cntF]
    omega
theorem DueIs.out {l : Lim} {cl : List Int} {r e : Int} (h : DueIs l cl r e) : (e = 0 ∧ l.proper = true ∧ l.fr ≤ r ∧ 0 ≤ r ∧ r ≤ 1000000) ∨ (r = 0 ∧ e ≠ 0) := by
  unfold DueIs at h
  split at h
  · rename_i hp
    obtain ⟨a, f, ha, h⟩ := h
    split at h
    · rename_i hf
      obtain ⟨D, ⟨k, hk, -⟩, h⟩ := h
      split at h
      · rename_i hle
        have := (firstF_ge (fun x => !l.paused x && workB cl x) (1000001 - D).toNat D).1
        have e : openD l cl D = firstF (fun x => !l.paused x && workB cl x) (1000001 - D).toNat D := rfl
        have := (Lim.proper_iff.1 hp).2.1
        exact .inl ⟨h.2, hp, by omega, by omega, by omega⟩
      · exact .inr ⟨h.1, by omega⟩
    · exact .inr ⟨h.1, by omega⟩
  · exact .inr ⟨h.1, by omega⟩

def leftA (day due : Int) (n : Int) (cs : Stops) : Int := cs.foldl (fun n s => n - ovl day due s) n
theorem leftA_le (day due : Int) (h0 : 0 ≤ day) (h1 : due ≤ 1000000) : ∀ (cs : Stops) (n : Int), n - 1000001 * cs.length ≤ leftA day due n cs ∧ leftA day due n cs ≤ n
  | [], n => by simp [leftA]
  | s :: cs, n => by
    have h2 := leftA_le day due h0 h1 cs (n - ovl day due s)
    have h3 : 0 ≤ ovl day due s ∧ ovl day due s ≤ 1000001 := by unfold ovl; omega
    have e : leftA day due n (s :: cs) = leftA day due (n - ovl day due s) cs := rfl
    rw [e, List.length_cons]
    push_cast
    omega
def LeftIs (l : Lim) (day : Int) (cl : List Int) (r e : Int) : Prop :=
  if dayB day then ∃ due f, DueIs l cl due f ∧ if f = 0 then r = leftD l day due ∧ e = 0 else r = 0 ∧ e = f else r = 0 ∧ e = 1
def LeftPost (l : Lim) (day : Int) (cl : List Int) (w : World) (e : Ending) (w' : World) : Prop :=
  ∃ r f, e = .returned (.tuple #[.int .i64 r, .int .i64 f]) ∧ LeftIs l day cl r f ∧ Ext w w'

set_option maxRecDepth 100000 in
set_option maxHeartbeats 4000000 in
theorem left_contract {w : World} {l : Lim} {v : Value} (h : LimAt w l v) {vc : Value} {cl : List Int} (hv : RInts w vc cl) (hok : ∀ x ∈ cl, (Lit.int .i64 x).wf = true) (hn : cl.length ≤ 1000000) (day : Int) :
    Calls Try.prog 13 #[.agg (limCells l v).toArray, .int .i64 day, vc] w fun e w' => LeftPost l day cl w e w' := by
  have hok' := Lib.hid hok
  clear hok
  have hda := fun W => isDay_contract W day
  have hone := h.stops.one
  cases hd : dayB day with
  | false =>
    simp only [hd] at hda
    replace hda := Lib.hid hda
    have hL : LeftIs l day cl 0 1 := by unfold LeftIs; rw [hd]; exact ⟨rfl, rfl⟩
    replace hL := Lib.hid hL
    clear hd
    unfold limCells
    go_enter Try.func13, Try.ntmps13
    ((first | go_at_call 33 | (go_wp2_with fail; go_at_call 33)); refine (hda.out _).mono ?_; rintro _ w1 ⟨rfl, x1⟩)
    go_wp2_with fail
    go_ret2
    exact ⟨0, 1, rfl, hL.out, (Ext.alloc w _).then_ext x1⟩
  | true =>
    simp only [hd] at hda
    replace hda := Lib.hid hda
    have hd01 := dayB_iff.1 hd
    obtain ⟨hd0, hd1⟩ := hd01
    have hd' := Lib.hid hd
    clear hd
    unfold limCells
    go_enter Try.func13, Try.ntmps13
    ((first | go_at_call 33 | (go_wp2_with fail; go_at_call 33)); refine (hda.out _).mono ?_; rintro _ w1 ⟨rfl, x1⟩)
    have b1 := (Blk.alloc' w #[.string l.id, .int .i64 l.n, .int .i64 l.unit, .int .i64 l.fr, v] 26).ext x1
    have hE1 := (Ext.alloc w _).then_ext x1
    ((first | go_at_call 12 | (go_wp2_with (first | ((with_reducible change wpList _ _ _ (Oper.mk _ (Op.load _ _) _ _ _ _ :: _) _ _); refine BigFrame.wpList_want rfl (fun K hK => ?_); refine op_loadN (p := ⟨w.heap.size, 0, none⟩) (vs := [.string l.id, .int .i64 l.n, .int .i64 l.unit, .int .i64 l.fr, v]) rfl rfl Try.ag26 Try.sz26 (blk_cells b1) ?_; refine hK _ _ ?_; clear hK K)); go_at_call 12)); refine (due_contract (h.ext hE1) (hv.ext hE1) hok'.out hn).mono ?_; rintro _ w2 ⟨due, f, rfl, hdue, x2⟩)
    have b2 := b1.ext x2
    have hE2 := hE1.then_ext x2
    have hout := hdue.out
    have hdue' := Lib.hid hdue
    clear hdue
    by_cases hf : f = 0
    · subst hf
      have hab : l.proper = true ∧ 0 ≤ due ∧ due ≤ 1000000 := by
        rcases hout with ⟨-, h1, -, h2, h3⟩ | ⟨-, h1⟩
        · exact ⟨h1, h2, h3⟩
        · exact absurd rfl h1
      obtain ⟨hp, hdu0, hdu1⟩ := hab
      obtain ⟨-, ⟨hfr0, hfr1⟩, -, h60, hst⟩ := Lim.proper_iff.1 hp
      have hst' := Lib.hid hst
      clear hp hst hout
      have hst2 := Lib.hid (start_contract (h.ext hE2) h60 hfr0 hfr1 hst'.out)
      ((first | go_at_call 29 | (go_wp2_with (first | ((with_reducible change wpList _ _ _ (Oper.mk _ (Op.load _ _) _ _ _ _ :: _) _ _); refine BigFrame.wpList_want rfl (fun K hK => ?_); refine op_loadN (p := ⟨w.heap.size, 0, none⟩) (vs := [.string l.id, .int .i64 l.n, .int .i64 l.unit, .int .i64 l.fr, v]) rfl rfl Try.ag26 Try.sz26 (blk_cells b2) ?_; refine hK _ _ ?_; clear hK K)); go_at_call 29)); refine (hst2.out).mono ?_; rintro _ w3 ⟨gC, cs, vs, rfl, hco, hbC, hrC, x3⟩)
      have hE3 := hE2.then_ext x3
      obtain ⟨hdj, hsm⟩ := hco.is hst'.out
      have hlc : cs.length ≤ 60 := by
        obtain ⟨ls, hpm, -, rfl⟩ := hco
        have h1 := joins_len ls
        have h2 := hpm.length_eq
        have h3 := clip_len l.fr l.stops
        omega
      have hfin := Lib.hid (left_fold hdj hsm day due)
      have hcok := Lib.hid (show ∀ s ∈ cs, 0 ≤ s.f0 ∧ s.f0 ≤ s.f1 ∧ s.f1 ≤ 1000000 from fun s hs => by have := hdj.ok s hs; omega)
      clear hdj hsm hco
      go_wp2_with (first
        | ((with_reducible change wpList _ _ _ (Oper.mk _ (Op.load _ _) _ _ _ _ :: _) _ _); refine BigFrame.wpList_want rfl (fun K hK => ?_); refine op_load1 rfl rfl Try.ag24 (hbC.cell (i := 1) rfl) ?_; refine hK _ _ ?_; clear hK K)
        | ((with_reducible change wpList _ _ _ (Oper.mk _ (Op.call (Call.mk (Callee.builtin Builtin.len) _ _)) _ _ _ _ :: _) _ _); refine BigFrame.wpList_want rfl (fun K hK => ?_); refine op_len_rl rfl rfl Try.underlying24 hrC ?_; refine hK _ _ ?_; clear hK K))
      go_loopw [10, 12, 36] (fun n _ u W => ∃ k : Nat, u = .int .i64 k ∧ k ≤ cs.length ∧ n = .int .i64 (leftA day due (max 0 (due - day + 1)) (cs.take k)) ∧ Ext w3 W) (fun _ _ u _ => cs.length - (intOf u).toNat)
      case atStart => exact ⟨0, rfl, Nat.zero_le _, rfl, Touch.refl _ _⟩
      case round =>
        obtain ⟨k, rfl, hk, rfl, hE⟩ := hrel
        have hvW := hrC.ext hE
        have hbd := leftA_le day due hd0 hdu1 (cs.take k) (max 0 (due - day + 1))
        have hl : (cs.take k).length ≤ 60 := by rw [List.length_take]; omega
        by_cases hlt : k < cs.length
        · obtain ⟨⟨sf, st⟩, hs⟩ : ∃ s, cs[k] = s := ⟨_, rfl⟩
          have hsok := hcok.out _ (List.getElem_mem hlt)
          rw [hs] at hsok
          obtain ⟨hs0, hs1, hs2⟩ := hsok
          dsimp only at hs0 hs1 hs2
          have hnx := Lib.hid (show leftA day due (max 0 (due - day + 1)) (cs.take (k + 1)) = leftA day due (max 0 (due - day + 1)) (cs.take k) - ovl day due ⟨sf, st⟩ from by
            rw [List.take_succ_eq_append_getElem hlt, hs]; unfold leftA; rw [List.foldl_append]; rfl)
          generalize leftA day due (max 0 (due - day + 1)) (cs.take k) = A at hbd hnx
          have hA0 : -70000000 ≤ A := by omega
          have hA1 : A ≤ 1000001 := by omega
          clear hbd
          have h1 := Lib.hid (show ∀ u ∈ [Value.int .i64 sf, .int .i64 st], u.oneCell' = true from by simp [Value.oneCell'])
          go_wp2_with (first
            | ((with_reducible change wpList _ _ _ (Oper.mk _ (Op.indexAddr _ _ _) _ _ _ _ :: _) _ _); refine BigFrame.wpList_want rfl (fun K hK => ?_); refine op_index_rl (i := k) rfl rfl rfl Try.underlying24 Try.sz31 hvW hlt ?_; intro pp hpp hbb; refine hK _ _ ?_; clear hK K; rw [hs] at hpp; replace hpp := Lib.hid hpp)
            | ((with_reducible change wpList _ _ _ (Oper.mk _ (Op.load _ _) _ _ _ _ :: _) _ _); refine BigFrame.wpList_want rfl (fun K hK => ?_); refine op_loadN (p := pp) (vs := [.int .i64 sf, .int .i64 st]) rfl rfl Try.ag31 Try.sz31 hpp.out ?_; refine hK _ _ ?_; clear hK K)
            | ((with_reducible change wpList _ _ _ (Oper.mk _ (Op.store _ _ _) _ _ _ _ :: _) _ _); refine BigFrame.wpList_want rfl (fun K hK => ?_); refine op_storeN (g := wr.heap.size) (i := 0) (T := 31) (vs := [.int .i64 sf, .int .i64 st]) rfl rfl rfl Try.sz31 h1.out (obj_new _ _) (by simp) ?_; intro w4 hb4 ht4 hz4; refine hK _ _ ?_; clear hK K)
            | ((with_reducible change wpList _ _ _ (Oper.mk _ (Op.load _ _) _ _ _ _ :: _) _ _); refine BigFrame.wpList_want rfl (fun K hK => ?_); refine op_load1 rfl rfl Try.ag3 ((hb4.storeAll rfl).cell (i := 0) rfl) ?_; refine hK _ _ ?_; clear hK K)
            | ((with_reducible change wpList _ _ _ (Oper.mk _ (Op.load _ _) _ _ _ _ :: _) _ _); refine BigFrame.wpList_want rfl (fun K hK => ?_); refine op_load1 rfl rfl Try.ag3 ((hb4.storeAll rfl).cell (i := 1) rfl) ?_; refine hK _ _ ?_; clear hK K))
          exact ⟨⟨k + 1, by go_num, hlt, by rw [hnx.out]; unfold ovl; rfl, hE.then_ext (Ext.new ht4)⟩, by simp [intOf]; omega⟩
        · have e : k = cs.length := by omega
          subst e
          have htk := Lib.hid (List.take_length (l := cs))
          go_wp2_with fail
          go_ret2
          refine ⟨leftD l day due, 0, by rw [htk.out, ← hfin.out]; rfl, ?_, hE3.then_ext hE⟩
          unfold LeftIs
          rw [hd'.out, if_pos rfl]
          exact ⟨due, 0, hdue'.out, by rw [if_pos rfl]; exact ⟨rfl, rfl⟩⟩
    · have hf' : (f != 0) = true := by simpa using hf
      have hL : LeftIs l day cl 0 f := by
        unfold LeftIs
        rw [hd'.out, if_pos rfl]
        exact ⟨due, f, hdue'.out, by rw [if_neg hf]; exact ⟨rfl, rfl⟩⟩
      replace hL := Lib.hid hL
      clear hout
      go_wp2_with fail
      go_ret2
      exact ⟨0, f, rfl, hL.out, hE2⟩
end Go.Proofs.Ytioofhmkeajkpaa

/-
  Contracts: slices.Clone at stops; package limit's Pause.
-/
namespace Go.Proofs.Ytioofhmkeajkpaa
open Go Go.RowKit PLimitMatchesReference Go.Proofs.YtioofhmkeajkpaaW.PrintWords

attribute [local irreducible] World.cell? World.frozen? isAggB _root_.Go.Program.underlying

theorem RL.flat {α : Type} {cells : α → List Value} {size : Nat} {w : World} {ad : Option Addr} {n c : Nat} {l : List α} (h : RL cells size w (.slice ad n c) l) (hc : ∀ x, (cells x).length = size) (hsz : 0 < size) :
    ∀ a, ad = some a → ∀ j u, (l.flatMap cells)[j]? = some u → w.cell? (a.add j) = some u := by
  obtain ⟨ad', c', e, h1, h2, h3, h4⟩ := h
  injection e with e1 e2 e3
  subst e1
  intro a ha j u hu
  have hj : j < l.length * size := by have := (List.getElem?_eq_some_iff.1 hu).1; rw [flatMap_len hc] at this; exact this
  have hq : j / size < l.length := Nat.div_lt_of_lt_mul (by rw [Nat.mul_comm]; exact hj)
  have hm : j % size < (cells l[j / size]).length := by rw [hc]; exact Nat.mod_lt _ hsz
  have h5 := flatMap_get hc l (j / size) (j % size) l[j / size] ((cells l[j / size])[j % size]) (List.getElem?_eq_getElem hq) (List.getElem?_eq_getElem hm)
  rw [Nat.mul_comm, Nat.div_add_mod, hu] at h5
  have h6 := h4 a ha (j / size) l[j / size] (List.getElem?_eq_getElem hq) (j % size) _ (List.getElem?_eq_getElem hm)
  rw [Nat.mul_comm, Nat.div_add_mod] at h6
  injection h5 with h5
  rw [h6, h5]
theorem stops_one (l : Stops) : ∀ u ∈ l.flatMap stopC, u.oneCell' = true := by
  intro u hu
  rw [List.mem_flatMap] at hu
  obtain ⟨s, _, hu⟩ := hu
  simp [stopC] at hu
  rcases hu with rfl | rfl <;> rfl
def ClonePost (l : Stops) (w : World) (e : Ending) (w' : World) : Prop :=
  ∃ v', e = .returned v' ∧ Row w' 31 2 v' (l.flatMap stopC) ∧ (∀ b, rowBlock v' = some b → w.heap.size ≤ b) ∧ Ext w w'
set_option maxRecDepth 100000 in
set_option maxHeartbeats 1000000 in
theorem clone_contract {w : World} {v : Value} {l : Stops} (hv : RStops w v l) (hl : l.length ≤ 100000) : Calls Try.prog 38 #[v] w fun e w' => ClonePost l w e w' := by
  have hv' := hv
  obtain ⟨ad, c, rfl, h1, h2, h3, h4⟩ := hv'
  have hnil := fun w => Lib.run_eql_slice_nil (P := Try.prog) w 24 31 ad l.length c 0 0 Try.underlying24
  have hfl := Lib.hid (hv.flat (fun _ => rfl) (by omega))
  have hln := Lib.hid (flatMap_len (enc := stopC) (k := 2) (fun _ => rfl) l)
  clear h4 hv
  cases ad with
  | none =>
    have hl0 : l = [] := by
      apply List.eq_nil_of_length_eq_zero
      rcases Nat.eq_zero_or_pos l.length with h | h
      · exact h
      · exact absurd rfl (h3 h)
    subst hl0
    clear h3 hfl
    simp only [List.length_nil, Option.isNone_none] at hnil
    go_enter Try.func38, Try.ntmps38
    go_wp2_with fail
    go_ret
    exact ⟨_, rfl, Row.nil _ _ _, fun b hb => by simp [rowBlock] at hb, Touch.refl _ _⟩
  | some a =>
    clear h3
    obtain ⟨i31, hi31, hz31, hsz31, hby31⟩ := info_parts Try.in31
    have hzc31 : (Value.agg #[.int .i64 0, .int .i64 0]).cells.size = 2 := rfl
    go_enter Try.func38, Try.ntmps38
    go_wp2_with (first
      | ((with_reducible change wpList _ _ _ (Oper.mk _ (Op.buildSlice _ _ _) _ _ _ _ :: _) _ _); refine BigFrame.wpList_want rfl (fun K hK => ?_); refine op_build0 rfl Try.underlying24 hi31 ?_; intro vE wE rE nE xE; refine hK _ _ ?_; clear hK K)
      | ((with_reducible change wpList _ _ _ (Oper.mk _ (Op.call (Call.mk (Callee.builtin Builtin.append) _ _)) _ _ _ _ :: _) _ _); refine BigFrame.wpList_want rfl (fun K hK => ?_); refine op_append (v := vE) (news := l.flatMap stopC) (m := l.length) (size := 2) (bytes := 16) rfl rfl rfl Try.underlying24 hi31 hz31 hsz31 hby31 hzc31 (by omega) (by rw [← hsz31]; exact rE) rfl hln.out (fun b hb j u hu => by injection hb with hb; subst hb; exact xE.cell (hfl.out a rfl j u hu) (fun h => h)) (fun h => by cases h) (stops_one l) (by rw [hln.out]; simp; omega) (by rw [hln.out]; unfold maxLen; simp; omega) ?_; intro vA wA rA tA nA; refine hK _ _ ?_; clear hK K))
    have hEA := xE.trans tA fun b _ e => by rw [nE] at e; cases e
    go_ret
    refine ⟨vA, rfl, by simpa using rA, fun b hb => ?_, hEA⟩
    rcases nA with ⟨nA, -⟩ | ⟨nA, -⟩
    · rw [nA, nE] at hb; cases hb
    · rw [nA] at hb; injection hb with hb; have := xE.size; omega

/-! ### Pause -/
def zeroLim : Lim := ⟨⟨#[]⟩, 0, 0, 0, []⟩
def PauseIs (l : Lim) (s : S31) (m : Lim) (f : Int) : Prop :=
  if l.proper && stopB s then (if l.stops.length = 60 then m = zeroLim ∧ f = 2 else m = { l with stops := l.stops ++ [s] } ∧ f = 0) else m = zeroLim ∧ f = 1
/-- A limit that a function returns. -/
def LimRet (f : Int) (m : Lim) (v : Value) (w : World) (e : Ending) (w' : World) : Prop :=
  e = .returned (.tuple #[.agg (limCells m v).toArray, .int .i64 f]) ∧ RStops w' v m.stops ∧ Ext w w'
def PausePost (l : Lim) (s : S31) (w : World) (e : Ending) (w' : World) : Prop := ∃ m f v, PauseIs l s m f ∧ LimRet f m v w e w'

theorem Try.z26 : (Try.prog.info? 26).bind (·.zero) = some (.agg #[.string ⟨#[]⟩, .int .i64 0, .int .i64 0, .int .i64 0, .slice none 0 0]) := by kernel_rfl
theorem three_boxes (w : World) (c0 c1 c2 : Array Value) (t0 t1 t2 : TypeId) {W : World} (hE : Ext (((w.alloc (.cells c0 t0)).alloc (.cells c1 t1)).alloc (.cells c2 t2)) W) :
    Blk W w.heap.size t0 c0 ∧ Blk W (w.heap.size + 1) t1 c1 ∧ Blk W (w.heap.size + 1 + 1) t2 c2 ∧ Ext w W := by
  refine ⟨(((Blk.alloc' w c0 t0).alloc _).alloc _).ext hE, ?_, ?_, (Touch.alloc (Touch.alloc (Ext.alloc w _) _) _).then_ext hE⟩
  · have := ((Blk.alloc' (w.alloc (.cells c0 t0)) c1 t1).alloc (.cells c2 t2)).ext hE
    rw [alloc_size] at this
    exact this
  · have := (Blk.alloc' ((w.alloc (.cells c0 t0)).alloc (.cells c1 t1)) c2 t2).ext hE
    rw [alloc_size, alloc_size] at this
    exact this

set_option maxRecDepth 100000 in
set_option maxHeartbeats 4000000 in
theorem pause_contract {w : World} {l : Lim} {v : Value} (h : LimAt w l v) (s : S31) :
    Calls Try.prog 18 #[.agg (limCells l v).toArray, stopV s] w fun e w' => PausePost l s w e w' := by
  have hone := h.stops.one
  have hE0 : Ext w (((w.alloc (.cells #[.string l.id, .int .i64 l.n, .int .i64 l.unit, .int .i64 l.fr, v] 26)).alloc (.cells #[.int .i64 s.f0, .int .i64 s.f1] 31)).alloc (.cells #[.string ⟨#[]⟩, .int .i64 0, .int .i64 0, .int .i64 0, .slice none 0 0] 26)) := Touch.alloc (Touch.alloc (Ext.alloc w _) _) _
  have hpr := proper_contract (h.ext hE0)
  cases hp : l.proper with
  | false =>
    have hI : PauseIs l s zeroLim 1 := by unfold PauseIs; rw [hp]; exact ⟨rfl, rfl⟩
    replace hI := Lib.hid hI
    rw [hp] at hpr
    replace hpr := Lib.hid hpr
    clear hp
    unfold limCells stopV
    go_enter Try.func18, Try.ntmps18
    ((first | go_at_call 28 | (go_wp2_with fail; go_at_call 28)); refine (hpr.out).mono ?_; rintro _ w1 ⟨rfl, x1⟩)
    obtain ⟨b0, b1, b4, hE1⟩ := three_boxes w _ _ _ _ _ _ x1
    go_wp2_with (first
      | ((with_reducible change wpList _ _ _ (Oper.mk _ (Op.store _ _ _) _ _ _ _ :: _) _ _); refine BigFrame.wpList_want rfl (fun K hK => ?_); refine op_storeN (g := w.heap.size + 1 + 1) (i := 0) (T := 26) (vs := [.string ⟨#[]⟩, .int .i64 0, .int .i64 0, .int .i64 0, .slice none 0 0]) rfl rfl rfl Try.sz26 (by simp [Value.oneCell']) b4 (by simp) ?_; intro w8 hb8 ht8 hz8; refine hK _ _ ?_; clear hK K))
    exact bodyPost_ret (results_cell_tmp (vs := [.string ⟨#[]⟩, .int .i64 0, .int .i64 0, .int .i64 0, .slice none 0 0]) Try.results18 rfl Try.ag26 Try.sz26 (blk_cells (hb8.storeAll rfl))) rfl ⟨zeroLim, 1, .slice none 0 0, hI.out, rfl, RL.nil _, hE1.trans ht8 fun b hb e => by omega⟩
  | true =>
    rw [hp] at hpr
    replace hpr := Lib.hid hpr
    have hps := fun W => properStop_contract W s
    cases hs : stopB s with
    | false =>
      have hI : PauseIs l s zeroLim 1 := by unfold PauseIs; rw [hp, hs]; exact ⟨rfl, rfl⟩
      replace hI := Lib.hid hI
      simp only [hs] at hps
      replace hps := Lib.hid hps
      clear hp hs
      unfold limCells
      unfold stopV at hps ⊢
      go_enter Try.func18, Try.ntmps18
      ((first | go_at_call 28 | (go_wp2_with fail; go_at_call 28)); refine (hpr.out).mono ?_; rintro _ w1 ⟨rfl, x1⟩)
      obtain ⟨b0, b1, b4, hE1⟩ := three_boxes w _ _ _ _ _ _ x1
      ((first | go_at_call 37 | (go_wp2_with (first | ((with_reducible change wpList _ _ _ (Oper.mk _ (Op.load _ _) _ _ _ _ :: _) _ _); refine BigFrame.wpList_want rfl (fun K hK => ?_); refine op_loadN (p := ⟨w.heap.size + 1, 0, none⟩) (vs := [.int .i64 s.f0, .int .i64 s.f1]) rfl rfl Try.ag31 Try.sz31 (blk_cells b1) ?_; refine hK _ _ ?_; clear hK K)); go_at_call 37)); refine (hps.out _).mono ?_; rintro _ w2 ⟨rfl, x2⟩)
      replace b4 := b4.ext x2
      have hE2 := hE1.then_ext x2
      go_wp2_with (first
        | ((with_reducible change wpList _ _ _ (Oper.mk _ (Op.store _ _ _) _ _ _ _ :: _) _ _); refine BigFrame.wpList_want rfl (fun K hK => ?_); refine op_storeN (g := w.heap.size + 1 + 1) (i := 0) (T := 26) (vs := [.string ⟨#[]⟩, .int .i64 0, .int .i64 0, .int .i64 0, .slice none 0 0]) rfl rfl rfl Try.sz26 (by simp [Value.oneCell']) b4 (by simp) ?_; intro w8 hb8 ht8 hz8; refine hK _ _ ?_; clear hK K))
      exact bodyPost_ret (results_cell_tmp (vs := [.string ⟨#[]⟩, .int .i64 0, .int .i64 0, .int .i64 0, .slice none 0 0]) Try.results18 rfl Try.ag26 Try.sz26 (blk_cells (hb8.storeAll rfl))) rfl ⟨zeroLim, 1, .slice none 0 0, hI.out, rfl, RL.nil _, hE2.trans ht8 fun b hb e => by omega⟩
    | true =>
      simp only [hs] at hps
      replace hps := Lib.hid hps
      have hst := h.stops
      by_cases h60 : l.stops.length = 60
      · have hI : PauseIs l s zeroLim 2 := by unfold PauseIs; rw [hp, hs]; simp [h60]
        replace hI := Lib.hid hI
        have h60' : ((l.stops.length : Int) == 60) = true := by simp [h60]
        clear hp hs h60
        unfold limCells
        unfold stopV at hps ⊢
        go_enter Try.func18, Try.ntmps18
        ((first | go_at_call 28 | (go_wp2_with fail; go_at_call 28)); refine (hpr.out).mono ?_; rintro _ w1 ⟨rfl, x1⟩)
        obtain ⟨b0, b1, b4, hE1⟩ := three_boxes w _ _ _ _ _ _ x1
        ((first | go_at_call 37 | (go_wp2_with (first | ((with_reducible change wpList _ _ _ (Oper.mk _ (Op.load _ _) _ _ _ _ :: _) _ _); refine BigFrame.wpList_want rfl (fun K hK => ?_); refine op_loadN (p := ⟨w.heap.size + 1, 0, none⟩) (vs := [.int .i64 s.f0, .int .i64 s.f1]) rfl rfl Try.ag31 Try.sz31 (blk_cells b1) ?_; refine hK _ _ ?_; clear hK K)); go_at_call 37)); refine (hps.out _).mono ?_; rintro _ w2 ⟨rfl, x2⟩)
        replace b4 := b4.ext x2
        have b02 := b0.ext x2
        have hE2 := hE1.then_ext x2
        have hst2 := hst.ext hE2
        go_wp2_with (first
          | ((with_reducible change wpList _ _ _ (Oper.mk _ (Op.load _ _) _ _ _ _ :: _) _ _); refine BigFrame.wpList_want rfl (fun K hK => ?_); refine op_load1 rfl rfl Try.ag24 (b02.cell (i := 4) rfl) ?_; refine hK _ _ ?_; clear hK K)
          | ((with_reducible change wpList _ _ _ (Oper.mk _ (Op.call (Call.mk (Callee.builtin Builtin.len) _ _)) _ _ _ _ :: _) _ _); refine BigFrame.wpList_want rfl (fun K hK => ?_); refine op_len_rl rfl rfl Try.underlying24 hst2 ?_; refine hK _ _ ?_; clear hK K)
          | ((with_reducible change wpList _ _ _ (Oper.mk _ (Op.store _ _ _) _ _ _ _ :: _) _ _); refine BigFrame.wpList_want rfl (fun K hK => ?_); refine op_storeN (g := w.heap.size + 1 + 1) (i := 0) (T := 26) (vs := [.string ⟨#[]⟩, .int .i64 0, .int .i64 0, .int .i64 0, .slice none 0 0]) rfl rfl rfl Try.sz26 (by simp [Value.oneCell']) b4 (by simp) ?_; intro w8 hb8 ht8 hz8; refine hK _ _ ?_; clear hK K))
        exact bodyPost_ret (results_cell_tmp (vs := [.string ⟨#[]⟩, .int .i64 0, .int .i64 0, .int .i64 0, .slice none 0 0]) Try.results18 rfl Try.ag26 Try.sz26 (blk_cells (hb8.storeAll rfl))) rfl ⟨zeroLim, 2, .slice none 0 0, hI.out, rfl, RL.nil _, hE2.trans ht8 fun b hb e => by omega⟩
      · have hI : PauseIs l s { l with stops := l.stops ++ [s] } 0 := by unfold PauseIs; rw [hp, hs]; simp [h60]
        replace hI := Lib.hid hI
        have h60' : ((l.stops.length : Int) == 60) = false := by simp; omega
        have hlp := (Lim.proper_iff.1 hp).2.2.2.1
        clear hp hs h60
        unfold limCells
        unfold stopV at hps ⊢
        go_enter Try.func18, Try.ntmps18
        ((first | go_at_call 28 | (go_wp2_with fail; go_at_call 28)); refine (hpr.out).mono ?_; rintro _ w1 ⟨rfl, x1⟩)
        obtain ⟨b0, b1, b4, hE1⟩ := three_boxes w _ _ _ _ _ _ x1
        ((first | go_at_call 37 | (go_wp2_with (first | ((with_reducible change wpList _ _ _ (Oper.mk _ (Op.load _ _) _ _ _ _ :: _) _ _); refine BigFrame.wpList_want rfl (fun K hK => ?_); refine op_loadN (p := ⟨w.heap.size + 1, 0, none⟩) (vs := [.int .i64 s.f0, .int .i64 s.f1]) rfl rfl Try.ag31 Try.sz31 (blk_cells b1) ?_; refine hK _ _ ?_; clear hK K)); go_at_call 37)); refine (hps.out _).mono ?_; rintro _ w2 ⟨rfl, x2⟩)
        replace b4 := b4.ext x2
        replace b0 := b0.ext x2
        replace b1 := b1.ext x2
        have hE2 := hE1.then_ext x2
        have hst2 := hst.ext hE2
        clear x1 x2 hE0 hE1
        go_wp2_with (first
          | ((with_reducible change wpList _ _ _ (Oper.mk _ (Op.load _ _) _ _ _ _ :: _) _ _); refine BigFrame.wpList_want rfl (fun K hK => ?_); refine op_load1 rfl rfl Try.ag24 (b0.cell (i := 4) rfl) ?_; refine hK _ _ ?_; clear hK K)
          | ((with_reducible change wpList _ _ _ (Oper.mk _ (Op.call (Call.mk (Callee.builtin Builtin.len) _ _)) _ _ _ _ :: _) _ _); refine BigFrame.wpList_want rfl (fun K hK => ?_); refine op_len_rl rfl rfl Try.underlying24 hst2 ?_; refine hK _ _ ?_; clear hK K))
        obtain ⟨i31, hi31, hz31, hsz31, hby31⟩ := info_parts Try.in31
        have hzc31 : (Value.agg #[.int .i64 0, .int .i64 0]).cells.size = 2 := rfl
        have hdr : Ext w2 w2.drew := (Touch.refl _ w2).drew
        refine wp_region_rt (by kernel_rfl) [0, 1, 3, 0, 8, 31, 63, 127] (.rd 0 (.rd 1 (.rd 3 (.e2 2 [3] (.e1 4 [0, 1] (.e1 5 [] (.rd 6 (.e1 7 [] (.nil))))) 4 [0, 1] (.e1 2 [3] (.e1 5 [] (.rd 6 (.e1 7 [] (.nil))))))))) (by kernel_rfl) ?_
        iterate 1 (refine cw_rd rfl rfl rfl rfl rfl (fun K hK => ?_); go_wp2_with fail)
        (refine cw_rd rfl rfl rfl rfl rfl (fun K hK => ?_); refine op_load1 rfl rfl Try.ag24 (cell_drew (b0.cell (i := 4) rfl)) ?_; refine op_norm rfl ?_; go_wp2_with fail)
        (refine cw_rd rfl rfl rfl rfl rfl (fun K hK => ?_); refine op_loadN (p := ⟨w.heap.size + 1, 0, none⟩) (vs := [.int .i64 s.f0, .int .i64 s.f1]) rfl rfl Try.ag31 Try.sz31 (blk_cells (b1.ext hdr)) ?_; refine op_norm rfl ?_; go_wp2_with fail)
        refine cw_e2 ?_ ?_
        · refine cw_e1 rfl rfl (fun K hK => ?_)
          go_wp2_with (first | (go_at_call 38; refine (clone_contract (hst2.ext hdr) (by omega)).mono ?_; rintro _ w5 ⟨vC, rfl, rC, nC, x5⟩))
          have hE5 := hdr.then_ext x5
          refine ⟨?_, ?_⟩
          · (repeat (first | exact fl_nil | refine fl_skip rfl ?_ | (refine fl_take rfl ?_ ?_; (refine yldI_of rfl rfl ?_; first | exact run_ldN rfl rfl Try.ag31 Try.sz31 (blk_cells (vs := [.int .i64 s.f0, .int .i64 s.f1]) (b1.ext hE5)) |  go_simp))))
          refine cw_e1 rfl rfl (fun K hK => ?_)
          refine op_buildN (vs := [.int .i64 s.f0, .int .i64 s.f1]) rfl rfl Try.underlying24 hi31 hz31 hsz31 hzc31 (by simp) (by simp) ?_
          intro vT w6 rT fT xT
          refine op_norm rfl ?_
          go_wp2_with fail
          have hE6 := hE5.then_ext xT
          refine ⟨?_, ?_⟩
          · (repeat (first | exact fl_nil | refine fl_skip rfl ?_ | (refine fl_take rfl ?_ ?_; (refine yldI_of rfl rfl ?_; first | exact run_ld rfl rfl Try.ag24 ((b0.ext hE6).cell (i := 4) rfl) |  go_simp))))
          replace rC := rC.keep xT (fun _ _ h => h)
          have hs26 : w2.heap.size ≤ w6.heap.size := hE6.size
          have nC2 : ∀ b, rowBlock vC = some b → w2.heap.size ≤ b := fun b hb => by have := nC b hb; have := hdr.size; omega
          refine cw_e1 rfl rfl (fun K hK => ?_)
          refine op_append_row (v := vC) rfl rfl rfl Try.underlying24 hi31 hz31 hsz31 hby31 hzc31 (by omega) (by omega) rC rT (by simp [Value.oneCell']) (by rw [flatMap_len (enc := stopC) (k := 2) (fun _ => rfl)]; simp only [List.length_cons, List.length_nil]; omega) ?_
          intro vA wA rA tA nA
          refine op_norm rfl ?_
          go_wp2_with fail
          refine ⟨fl_none, ?_⟩
          iterate 1 (refine cw_rd rfl rfl rfl rfl rfl (fun K hK => ?_); go_wp2_with fail)
          have hlt0 := obj_lt b0
          have hlt4 := obj_lt b4
          have b0A : Blk wA w.heap.size 26 #[.string l.id, .int .i64 l.n, .int .i64 l.unit, .int .i64 l.fr, v] := tA.obj (b0.ext hE6) (fun e => by have := nC2 _ e; omega)
          have b4A : Blk wA (w.heap.size + 1 + 1) 26 #[.string ⟨#[]⟩, .int .i64 0, .int .i64 0, .int .i64 0, .slice none 0 0] := tA.obj (b4.ext hE6) (fun e => by have := nC2 _ e; omega)
          have nA2 : ∀ b, rowBlock vA = some b → w2.heap.size ≤ b := fun b hb => by
            rcases nA with nA | nA
            · exact nC2 b (by rw [← nA]; exact hb)
            · rw [nA] at hb; injection hb with hb; omega
          have hEA : Ext w wA := (hE2.then_ext hE6).trans tA fun b _ e => by have := nC2 _ e; have := hE2.size; omega
          refine cw_e1 rfl rfl (fun K hK => ?_)
          refine op_store1 (g := w.heap.size) (i := 4) (T := 26) (cs := #[.string l.id, .int .i64 l.n, .int .i64 l.unit, .int .i64 l.fr, v]) (v := vA) rfl rfl rfl Try.sz24' (row_one rA) b0A (by simp) ?_
          intro wS kS tS zS
          refine op_done rfl ?_
          refine hK _ _ ?_
          clear hK K
          refine ⟨fl_none, ?_⟩
          refine cw_nil ?_
          have b4S := tS.obj b4A (by omega)
          have kS2 : Blk wS w.heap.size 26 [.string l.id, .int .i64 l.n, .int .i64 l.unit, .int .i64 l.fr, vA].toArray := kS
          have hA1 := row_one rA
          go_wp2_with (first
            | ((with_reducible change wpList _ _ _ (Oper.mk _ (Op.load _ _) _ _ _ _ :: _) _ _); refine BigFrame.wpList_want rfl (fun K hK => ?_); refine op_loadN (p := ⟨w.heap.size, 0, none⟩) (vs := [.string l.id, .int .i64 l.n, .int .i64 l.unit, .int .i64 l.fr, vA]) rfl rfl Try.ag26 Try.sz26 (blk_cells kS2) ?_; refine hK _ _ ?_; clear hK K)
            | ((with_reducible change wpList _ _ _ (Oper.mk _ (Op.store _ _ _) _ _ _ _ :: _) _ _); refine BigFrame.wpList_want rfl (fun K hK => ?_); refine op_storeN (g := w.heap.size + 1 + 1) (i := 0) (T := 26) (vs := [.string l.id, .int .i64 l.n, .int .i64 l.unit, .int .i64 l.fr, vA]) rfl rfl rfl Try.sz26 (by intro u hu; simp at hu; rcases hu with rfl | rfl | rfl | rfl | rfl <;> first | rfl | exact hA1) b4S (by simp) ?_; intro w8 hb8 ht8 hz8; refine hK _ _ ?_; clear hK K))
          have hES : Ext w wS := hEA.trans tS fun b hb e => by omega
          have rF := (rA.keep tS (fun b hb e => by have := nA2 b hb; omega)).keep ht8 (fun b hb e => by have := nA2 b hb; omega)
          exact bodyPost_ret (results_cell_tmp (vs := [.string l.id, .int .i64 l.n, .int .i64 l.unit, .int .i64 l.fr, vA]) Try.results18 rfl Try.ag26 Try.sz26 (blk_cells (hb8.storeAll rfl))) rfl ⟨_, 0, vA, hI.out, rfl, RL.of_row rF (by omega) (by simp [List.flatMap_append, stopC]) (fun _ => rfl), hES.trans ht8 fun b hb e => by omega⟩
        · refine cw_e1 rfl rfl (fun K hK => ?_)
          refine op_buildN (vs := [.int .i64 s.f0, .int .i64 s.f1]) rfl rfl Try.underlying24 hi31 hz31 hsz31 hzc31 (by simp) (by simp) ?_
          intro vT w5 rT fT xT
          refine op_norm rfl ?_
          go_wp2_with fail
          have hE5 := hdr.then_ext xT
          refine ⟨?_, ?_⟩
          · (repeat (first | exact fl_nil | refine fl_skip rfl ?_ | (refine fl_take rfl ?_ ?_; (refine yldI_of rfl rfl ?_; first | exact run_ld rfl rfl Try.ag24 ((b0.ext hE5).cell (i := 4) rfl) |  go_simp))))
          refine cw_e1 rfl rfl (fun K hK => ?_)
          go_wp2_with (first | (go_at_call 38; refine (clone_contract (hst2.ext hE5) (by omega)).mono ?_; rintro _ w6 ⟨vC, rfl, rC, nC, x6⟩))
          have hE6 := hE5.then_ext x6
          refine ⟨?_, ?_⟩
          · (repeat (first | exact fl_nil | refine fl_skip rfl ?_ | (refine fl_take rfl ?_ ?_; (refine yldI_of rfl rfl ?_; first | exact run_ldN rfl rfl Try.ag31 Try.sz31 (blk_cells (vs := [.int .i64 s.f0, .int .i64 s.f1]) (b1.ext hE6)) |  go_simp))))
          replace rT := rT.keep x6 (fun _ _ h => h)
          have hs26 : w2.heap.size ≤ w6.heap.size := hE6.size
          have nC2 : ∀ b, rowBlock vC = some b → w2.heap.size ≤ b := fun b hb => by have := nC b hb; have := hE5.size; omega
          refine cw_e1 rfl rfl (fun K hK => ?_)
          refine op_append_row (v := vC) rfl rfl rfl Try.underlying24 hi31 hz31 hsz31 hby31 hzc31 (by omega) (by omega) rC rT (by simp [Value.oneCell']) (by rw [flatMap_len (enc := stopC) (k := 2) (fun _ => rfl)]; simp only [List.length_cons, List.length_nil]; omega) ?_
          intro vA wA rA tA nA
          refine op_norm rfl ?_
          go_wp2_with fail
          refine ⟨fl_none, ?_⟩
          iterate 1 (refine cw_rd rfl rfl rfl rfl rfl (fun K hK => ?_); go_wp2_with fail)
          have hlt0 := obj_lt b0
          have hlt4 := obj_lt b4
          have b0A : Blk wA w.heap.size 26 #[.string l.id, .int .i64 l.n, .int .i64 l.unit, .int .i64 l.fr, v] := tA.obj (b0.ext hE6) (fun e => by have := nC2 _ e; omega)
          have b4A : Blk wA (w.heap.size + 1 + 1) 26 #[.string ⟨#[]⟩, .int .i64 0, .int .i64 0, .int .i64 0, .slice none 0 0] := tA.obj (b4.ext hE6) (fun e => by have := nC2 _ e; omega)
          have nA2 : ∀ b, rowBlock vA = some b → w2.heap.size ≤ b := fun b hb => by
            rcases nA with nA | nA
            · exact nC2 b (by rw [← nA]; exact hb)
            · rw [nA] at hb; injection hb with hb; omega
          have hEA : Ext w wA := (hE2.then_ext hE6).trans tA fun b _ e => by have := nC2 _ e; have := hE2.size; omega
          refine cw_e1 rfl rfl (fun K hK => ?_)
          refine op_store1 (g := w.heap.size) (i := 4) (T := 26) (cs := #[.string l.id, .int .i64 l.n, .int .i64 l.unit, .int .i64 l.fr, v]) (v := vA) rfl rfl rfl Try.sz24' (row_one rA) b0A (by simp) ?_
          intro wS kS tS zS
          refine op_done rfl ?_
          refine hK _ _ ?_
          clear hK K
          refine ⟨fl_none, ?_⟩
          refine cw_nil ?_
          have b4S := tS.obj b4A (by omega)
          have kS2 : Blk wS w.heap.size 26 [.string l.id, .int .i64 l.n, .int .i64 l.unit, .int .i64 l.fr, vA].toArray := kS
          have hA1 := row_one rA
          go_wp2_with (first
            | ((with_reducible change wpList _ _ _ (Oper.mk _ (Op.load _ _) _ _ _ _ :: _) _ _); refine BigFrame.wpList_want rfl (fun K hK => ?_); refine op_loadN (p := ⟨w.heap.size, 0, none⟩) (vs := [.string l.id, .int .i64 l.n, .int .i64 l.unit, .int .i64 l.fr, vA]) rfl rfl Try.ag26 Try.sz26 (blk_cells kS2) ?_; refine hK _ _ ?_; clear hK K)
            | ((with_reducible change wpList _ _ _ (Oper.mk _ (Op.store _ _ _) _ _ _ _ :: _) _ _); refine BigFrame.wpList_want rfl (fun K hK => ?_); refine op_storeN (g := w.heap.size + 1 + 1) (i := 0) (T := 26) (vs := [.string l.id, .int .i64 l.n, .int .i64 l.unit, .int .i64 l.fr, vA]) rfl rfl rfl Try.sz26 (by intro u hu; simp at hu; rcases hu with rfl | rfl | rfl | rfl | rfl <;> first | rfl | exact hA1) b4S (by simp) ?_; intro w8 hb8 ht8 hz8; refine hK _ _ ?_; clear hK K))
          have hES : Ext w wS := hEA.trans tS fun b hb e => by omega
          have rF := (rA.keep tS (fun b hb e => by have := nA2 b hb; omega)).keep ht8 (fun b hb e => by have := nA2 b hb; omega)
          exact bodyPost_ret (results_cell_tmp (vs := [.string l.id, .int .i64 l.n, .int .i64 l.unit, .int .i64 l.fr, vA]) Try.results18 rfl Try.ag26 Try.sz26 (blk_cells (hb8.storeAll rfl))) rfl ⟨_, 0, vA, hI.out, rfl, RL.of_row rF (by omega) (by simp [List.flatMap_append, stopC]) (fun _ => rfl), hES.trans ht8 fun b hb e => by omega⟩
end Go.Proofs.Ytioofhmkeajkpaa

/-
  Contract of package limit: Change.
-/
namespace Go.Proofs.Ytioofhmkeajkpaa
open Go Go.RowKit PLimitMatchesReference Go.Proofs.YtioofhmkeajkpaaW.PrintWords

attribute [local irreducible] World.cell? World.frozen? isAggB _root_.Go.Program.underlying

def changeOk (l : Lim) (day tn tu least : Int) : Bool := l.proper && dayB day && termB tn tu && decide (0 ≤ least) && decide (least ≤ 1000000)
def Lim.term (l : Lim) (tn tu : Int) : Lim := { l with n := tn, unit := tu }
def Lim.from_ (l : Lim) (day least : Int) : Lim := { l with fr := day, n := least, unit := 1 }
def ChangeIs (l : Lim) (day tn tu least : Int) (cl : List Int) (m : Lim) (f : Int) : Prop :=
  if changeOk l day tn tu least then
    ∃ due e, DueIs l cl due e ∧
      if e ≠ 0 then m = zeroLim ∧ f = e
      else if due < day then m = l ∧ f = 0
      else ∃ due1 e1, DueIs (l.term tn tu) cl due1 e1 ∧
        if e1 ≠ 0 then m = zeroLim ∧ f = e1
        else if due1 < day + least then ∃ due2 e2, DueIs (l.from_ day least) cl due2 e2 ∧ if e2 ≠ 0 then m = zeroLim ∧ f = e2 else m = l.from_ day least ∧ f = 0
        else m = l.term tn tu ∧ f = 0
  else m = zeroLim ∧ f = 1
def ChangePost (l : Lim) (day tn tu least : Int) (cl : List Int) (w : World) (e : Ending) (w' : World) : Prop := ∃ m f v, ChangeIs l day tn tu least cl m f ∧ LimRet f m v w e w'

theorem ChangeIs.bad {l : Lim} {day tn tu least : Int} {cl : List Int} (h : changeOk l day tn tu least = false) : ChangeIs l day tn tu least cl zeroLim 1 := by
  unfold ChangeIs; rw [h]; exact ⟨rfl, rfl⟩

set_option maxRecDepth 100000 in
set_option maxHeartbeats 4000000 in
theorem change_bad {w : World} {l : Lim} {v : Value} (h : LimAt w l v) {vc : Value} {cl : List Int} (day tn tu least : Int) (hbad : changeOk l day tn tu least = false) :
    Calls Try.prog 20 #[.agg (limCells l v).toArray, .int .i64 day, .agg #[.int .i64 tn, .int .i64 tu], .int .i64 least, vc] w fun e w' => ChangePost l day tn tu least cl w e w' := by
  have hI := Lib.hid (ChangeIs.bad (cl := cl) hbad)
  have hone := h.stops.one
  have hE0 : Ext w (((w.alloc (.cells #[.string l.id, .int .i64 l.n, .int .i64 l.unit, .int .i64 l.fr, v] 26)).alloc (.cells #[.int .i64 tn, .int .i64 tu] 23)).alloc (.cells #[.string ⟨#[]⟩, .int .i64 0, .int .i64 0, .int .i64 0, .slice none 0 0] 26)) := Touch.alloc (Touch.alloc (Ext.alloc w _) _) _
  have hpr := proper_contract (h.ext hE0)
  have hda := fun W => isDay_contract W day
  have hte := fun W => properTerm_contract W tn tu
  unfold changeOk at hbad
  unfold limCells at hpr ⊢
  cases hp : l.proper with
  | false =>
    rw [hp] at hpr
    replace hpr := Lib.hid hpr
    clear hp hbad hda hte
    go_enter Try.func20, Try.ntmps20
    ((first | go_at_call 28 | (go_wp2_with fail; go_at_call 28)); refine (hpr.out).mono ?_; rintro _ w1 ⟨rfl, x1⟩)
    obtain ⟨b0, b1, b4, hE1⟩ := three_boxes w _ _ _ _ _ _ x1
    go_wp2_with (first
      | ((with_reducible change wpList _ _ _ (Oper.mk _ (Op.store _ _ _) _ _ _ _ :: _) _ _); refine BigFrame.wpList_want rfl (fun K hK => ?_); refine op_storeN (g := w.heap.size + 1 + 1) (i := 0) (T := 26) (vs := [.string ⟨#[]⟩, .int .i64 0, .int .i64 0, .int .i64 0, .slice none 0 0]) rfl rfl rfl Try.sz26 (by simp [Value.oneCell']) b4 (by simp) ?_; intro w8 hb8 ht8 hz8; refine hK _ _ ?_; clear hK K))
    exact bodyPost_ret (results_cell_tmp (vs := [.string ⟨#[]⟩, .int .i64 0, .int .i64 0, .int .i64 0, .slice none 0 0]) Try.results20 rfl Try.ag26 Try.sz26 (blk_cells (hb8.storeAll rfl))) rfl ⟨zeroLim, _, .slice none 0 0, hI.out, rfl, RL.nil _, hE1.trans ht8 fun b hb e => by omega⟩
  | true =>
    rw [hp] at hpr hbad
    replace hpr := Lib.hid hpr
    clear hp
    cases hd : dayB day with
    | false =>
      simp only [hd] at hda
      replace hda := Lib.hid hda
      clear hd hbad hte
      go_enter Try.func20, Try.ntmps20
      ((first | go_at_call 28 | (go_wp2_with fail; go_at_call 28)); refine (hpr.out).mono ?_; rintro _ w1 ⟨rfl, x1⟩)
      obtain ⟨b0, b1, b4, hE1⟩ := three_boxes w _ _ _ _ _ _ x1
      ((first | go_at_call 33 | (go_wp2_with fail; go_at_call 33)); refine (hda.out _).mono ?_; rintro _ w2 ⟨rfl, x2⟩)
      replace b4 := b4.ext x2
      have hE2 := hE1.then_ext x2
      go_wp2_with (first
        | ((with_reducible change wpList _ _ _ (Oper.mk _ (Op.store _ _ _) _ _ _ _ :: _) _ _); refine BigFrame.wpList_want rfl (fun K hK => ?_); refine op_storeN (g := w.heap.size + 1 + 1) (i := 0) (T := 26) (vs := [.string ⟨#[]⟩, .int .i64 0, .int .i64 0, .int .i64 0, .slice none 0 0]) rfl rfl rfl Try.sz26 (by simp [Value.oneCell']) b4 (by simp) ?_; intro w8 hb8 ht8 hz8; refine hK _ _ ?_; clear hK K))
      exact bodyPost_ret (results_cell_tmp (vs := [.string ⟨#[]⟩, .int .i64 0, .int .i64 0, .int .i64 0, .slice none 0 0]) Try.results20 rfl Try.ag26 Try.sz26 (blk_cells (hb8.storeAll rfl))) rfl ⟨zeroLim, _, .slice none 0 0, hI.out, rfl, RL.nil _, hE2.trans ht8 fun b hb e => by omega⟩
    | true =>
      rw [hd] at hbad
      simp only [hd] at hda
      replace hda := Lib.hid hda
      clear hd
      cases ht : termB tn tu with
      | false =>
        simp only [ht] at hte
        replace hte := Lib.hid hte
        clear ht hbad
        go_enter Try.func20, Try.ntmps20
        ((first | go_at_call 28 | (go_wp2_with fail; go_at_call 28)); refine (hpr.out).mono ?_; rintro _ w1 ⟨rfl, x1⟩)
        obtain ⟨b0, b1, b4, hE1⟩ := three_boxes w _ _ _ _ _ _ x1
        ((first | go_at_call 33 | (go_wp2_with fail; go_at_call 33)); refine (hda.out _).mono ?_; rintro _ w2 ⟨rfl, x2⟩)
        ((first | go_at_call 40 | (go_wp2_with (first | ((with_reducible change wpList _ _ _ (Oper.mk _ (Op.load _ _) _ _ _ _ :: _) _ _); refine BigFrame.wpList_want rfl (fun K hK => ?_); refine op_loadN (p := ⟨w.heap.size + 1, 0, none⟩) (vs := [.int .i64 tn, .int .i64 tu]) rfl rfl Try.ag23 Try.sz23 (blk_cells (b1.ext x2)) ?_; refine hK _ _ ?_; clear hK K)); go_at_call 40)); refine (hte.out _).mono ?_; rintro _ w3 ⟨rfl, x3⟩)
        replace b4 := (b4.ext x2).ext x3
        have hE3 := (hE1.then_ext x2).then_ext x3
        go_wp2_with (first
          | ((with_reducible change wpList _ _ _ (Oper.mk _ (Op.store _ _ _) _ _ _ _ :: _) _ _); refine BigFrame.wpList_want rfl (fun K hK => ?_); refine op_storeN (g := w.heap.size + 1 + 1) (i := 0) (T := 26) (vs := [.string ⟨#[]⟩, .int .i64 0, .int .i64 0, .int .i64 0, .slice none 0 0]) rfl rfl rfl Try.sz26 (by simp [Value.oneCell']) b4 (by simp) ?_; intro w8 hb8 ht8 hz8; refine hK _ _ ?_; clear hK K))
        exact bodyPost_ret (results_cell_tmp (vs := [.string ⟨#[]⟩, .int .i64 0, .int .i64 0, .int .i64 0, .slice none 0 0]) Try.results20 rfl Try.ag26 Try.sz26 (blk_cells (hb8.storeAll rfl))) rfl ⟨zeroLim, _, .slice none 0 0, hI.out, rfl, RL.nil _, hE3.trans ht8 fun b hb e => by omega⟩
      | true =>
        rw [ht] at hbad
        simp only [ht] at hte
        replace hte := Lib.hid hte
        clear ht
        by_cases hl : 0 ≤ least
        · have hl2 : 1000000 < least := by
            rw [decide_eq_true hl] at hbad
            simp at hbad
            exact hbad
          have g1 : decide (least < 0) = false := by simp; omega
          clear hbad
          go_enter Try.func20, Try.ntmps20
          ((first | go_at_call 28 | (go_wp2_with fail; go_at_call 28)); refine (hpr.out).mono ?_; rintro _ w1 ⟨rfl, x1⟩)
          obtain ⟨b0, b1, b4, hE1⟩ := three_boxes w _ _ _ _ _ _ x1
          ((first | go_at_call 33 | (go_wp2_with fail; go_at_call 33)); refine (hda.out _).mono ?_; rintro _ w2 ⟨rfl, x2⟩)
          ((first | go_at_call 40 | (go_wp2_with (first | ((with_reducible change wpList _ _ _ (Oper.mk _ (Op.load _ _) _ _ _ _ :: _) _ _); refine BigFrame.wpList_want rfl (fun K hK => ?_); refine op_loadN (p := ⟨w.heap.size + 1, 0, none⟩) (vs := [.int .i64 tn, .int .i64 tu]) rfl rfl Try.ag23 Try.sz23 (blk_cells (b1.ext x2)) ?_; refine hK _ _ ?_; clear hK K)); go_at_call 40)); refine (hte.out _).mono ?_; rintro _ w3 ⟨rfl, x3⟩)
          replace b4 := (b4.ext x2).ext x3
          have hE3 := (hE1.then_ext x2).then_ext x3
          go_wp2_with (first
            | ((with_reducible change wpList _ _ _ (Oper.mk _ (Op.store _ _ _) _ _ _ _ :: _) _ _); refine BigFrame.wpList_want rfl (fun K hK => ?_); refine op_storeN (g := w.heap.size + 1 + 1) (i := 0) (T := 26) (vs := [.string ⟨#[]⟩, .int .i64 0, .int .i64 0, .int .i64 0, .slice none 0 0]) rfl rfl rfl Try.sz26 (by simp [Value.oneCell']) b4 (by simp) ?_; intro w8 hb8 ht8 hz8; refine hK _ _ ?_; clear hK K))
          exact bodyPost_ret (results_cell_tmp (vs := [.string ⟨#[]⟩, .int .i64 0, .int .i64 0, .int .i64 0, .slice none 0 0]) Try.results20 rfl Try.ag26 Try.sz26 (blk_cells (hb8.storeAll rfl))) rfl ⟨zeroLim, _, .slice none 0 0, hI.out, rfl, RL.nil _, hE3.trans ht8 fun b hb e => by omega⟩
        · have g1 : decide (least < 0) = true := by simp; omega
          clear hbad
          go_enter Try.func20, Try.ntmps20
          ((first | go_at_call 28 | (go_wp2_with fail; go_at_call 28)); refine (hpr.out).mono ?_; rintro _ w1 ⟨rfl, x1⟩)
          obtain ⟨b0, b1, b4, hE1⟩ := three_boxes w _ _ _ _ _ _ x1
          ((first | go_at_call 33 | (go_wp2_with fail; go_at_call 33)); refine (hda.out _).mono ?_; rintro _ w2 ⟨rfl, x2⟩)
          ((first | go_at_call 40 | (go_wp2_with (first | ((with_reducible change wpList _ _ _ (Oper.mk _ (Op.load _ _) _ _ _ _ :: _) _ _); refine BigFrame.wpList_want rfl (fun K hK => ?_); refine op_loadN (p := ⟨w.heap.size + 1, 0, none⟩) (vs := [.int .i64 tn, .int .i64 tu]) rfl rfl Try.ag23 Try.sz23 (blk_cells (b1.ext x2)) ?_; refine hK _ _ ?_; clear hK K)); go_at_call 40)); refine (hte.out _).mono ?_; rintro _ w3 ⟨rfl, x3⟩)
          replace b4 := (b4.ext x2).ext x3
          have hE3 := (hE1.then_ext x2).then_ext x3
          go_wp2_with (first
            | ((with_reducible change wpList _ _ _ (Oper.mk _ (Op.store _ _ _) _ _ _ _ :: _) _ _); refine BigFrame.wpList_want rfl (fun K hK => ?_); refine op_storeN (g := w.heap.size + 1 + 1) (i := 0) (T := 26) (vs := [.string ⟨#[]⟩, .int .i64 0, .int .i64 0, .int .i64 0, .slice none 0 0]) rfl rfl rfl Try.sz26 (by simp [Value.oneCell']) b4 (by simp) ?_; intro w8 hb8 ht8 hz8; refine hK _ _ ?_; clear hK K))
          exact bodyPost_ret (results_cell_tmp (vs := [.string ⟨#[]⟩, .int .i64 0, .int .i64 0, .int .i64 0, .slice none 0 0]) Try.results20 rfl Try.ag26 Try.sz26 (blk_cells (hb8.storeAll rfl))) rfl ⟨zeroLim, _, .slice none 0 0, hI.out, rfl, RL.nil _, hE3.trans ht8 fun b hb e => by omega⟩

set_option maxRecDepth 100000 in
set_option maxHeartbeats 8000000 in
theorem change_good {w : World} {l : Lim} {v : Value} (h : LimAt w l v) {vc : Value} {cl : List Int} (hv : RInts w vc cl) (hok : ∀ x ∈ cl, (Lit.int .i64 x).wf = true) (hn : cl.length ≤ 1000000) (day tn tu least : Int) (hgood : changeOk l day tn tu least = true) :
    Calls Try.prog 20 #[.agg (limCells l v).toArray, .int .i64 day, .agg #[.int .i64 tn, .int .i64 tu], .int .i64 least, vc] w fun e w' => ChangePost l day tn tu least cl w e w' := by
  have hI : ∀ m f, (∃ due e, DueIs l cl due e ∧
      if e ≠ 0 then m = zeroLim ∧ f = e
      else if due < day then m = l ∧ f = 0
      else ∃ due1 e1, DueIs (l.term tn tu) cl due1 e1 ∧
        if e1 ≠ 0 then m = zeroLim ∧ f = e1
        else if due1 < day + least then ∃ due2 e2, DueIs (l.from_ day least) cl due2 e2 ∧ if e2 ≠ 0 then m = zeroLim ∧ f = e2 else m = l.from_ day least ∧ f = 0
        else m = l.term tn tu ∧ f = 0) → ChangeIs l day tn tu least cl m f := fun m f h => by unfold ChangeIs; rw [hgood]; exact h
  replace hI := Lib.hid hI
  have hok' := Lib.hid hok
  clear hok
  have hone := h.stops.one
  have hE0 : Ext w (((w.alloc (.cells #[.string l.id, .int .i64 l.n, .int .i64 l.unit, .int .i64 l.fr, v] 26)).alloc (.cells #[.int .i64 tn, .int .i64 tu] 23)).alloc (.cells #[.string ⟨#[]⟩, .int .i64 0, .int .i64 0, .int .i64 0, .slice none 0 0] 26)) := Touch.alloc (Touch.alloc (Ext.alloc w _) _) _
  have hpr := proper_contract (h.ext hE0)
  have hda := fun W => isDay_contract W day
  have hte := fun W => properTerm_contract W tn tu
  unfold changeOk at hgood
  simp only [Bool.and_eq_true, decide_eq_true_iff] at hgood
  obtain ⟨⟨⟨⟨hp, hd⟩, ht⟩, hl0⟩, hl1⟩ := hgood
  rw [hp] at hpr
  simp only [hd] at hda
  simp only [ht] at hte
  obtain ⟨hd0, hd1⟩ := dayB_iff.1 hd
  replace hpr := Lib.hid hpr
  replace hda := Lib.hid hda
  replace hte := Lib.hid hte
  have g1 : decide (least < 0) = false := by simp; omega
  have g2 : decide (1000000 < least) = false := by simp; omega
  clear hp hd ht hE0
  unfold limCells at hpr ⊢
  go_enter Try.func20, Try.ntmps20
  ((first | go_at_call 28 | (go_wp2_with fail; go_at_call 28)); refine (hpr.out).mono ?_; rintro _ w1 ⟨rfl, x1⟩)
  obtain ⟨b0, b1, b4, hE1⟩ := three_boxes w _ _ _ _ _ _ x1
  ((first | go_at_call 33 | (go_wp2_with fail; go_at_call 33)); refine (hda.out _).mono ?_; rintro _ w2 ⟨rfl, x2⟩)
  ((first | go_at_call 40 | (go_wp2_with (first | ((with_reducible change wpList _ _ _ (Oper.mk _ (Op.load _ _) _ _ _ _ :: _) _ _); refine BigFrame.wpList_want rfl (fun K hK => ?_); refine op_loadN (p := ⟨w.heap.size + 1, 0, none⟩) (vs := [.int .i64 tn, .int .i64 tu]) rfl rfl Try.ag23 Try.sz23 (blk_cells (b1.ext x2)) ?_; refine hK _ _ ?_; clear hK K)); go_at_call 40)); refine (hte.out _).mono ?_; rintro _ w3 ⟨rfl, x3⟩)
  replace b0 := (b0.ext x2).ext x3
  replace b1 := (b1.ext x2).ext x3
  replace b4 := (b4.ext x2).ext x3
  have hE3 := (hE1.then_ext x2).then_ext x3
  clear x1 x2 x3 hE1 hpr hda hte
  ((first | go_at_call 12 | (go_wp2_with (first | ((with_reducible change wpList _ _ _ (Oper.mk _ (Op.load _ _) _ _ _ _ :: _) _ _); refine BigFrame.wpList_want rfl (fun K hK => ?_); refine op_loadN (p := ⟨w.heap.size, 0, none⟩) (vs := [.string l.id, .int .i64 l.n, .int .i64 l.unit, .int .i64 l.fr, v]) rfl rfl Try.ag26 Try.sz26 (blk_cells b0) ?_; refine hK _ _ ?_; clear hK K)); go_at_call 12)); refine (due_contract (h.ext hE3) (hv.ext hE3) hok'.out hn).mono ?_; rintro _ w4 ⟨due, e, rfl, hdue, x4⟩)
  replace b0 := b0.ext x4
  replace b1 := b1.ext x4
  replace b4 := b4.ext x4
  have hE4 := hE3.then_ext x4
  have hout := hdue.out
  have hdue' := Lib.hid hdue
  clear hdue x4 hE3
  by_cases he : e = 0
  · subst he
    have hdu : 0 ≤ due ∧ due ≤ 1000000 := by
      rcases hout with ⟨-, -, -, h2, h3⟩ | ⟨-, h1⟩
      · exact ⟨h2, h3⟩
      · exact absurd rfl h1
    obtain ⟨hdu0, hdu1⟩ := hdu
    clear hout
    by_cases hlt : due < day
    · have hI2 := Lib.hid (hI.out l 0 ⟨due, 0, hdue'.out, by rw [if_neg (by simp), if_pos hlt]; exact ⟨rfl, rfl⟩⟩)
      have hst := h.stops
      go_wp2_with (first
        | ((with_reducible change wpList _ _ _ (Oper.mk _ (Op.load _ _) _ _ _ _ :: _) _ _); refine BigFrame.wpList_want rfl (fun K hK => ?_); refine op_loadN (p := ⟨w.heap.size, 0, none⟩) (vs := [.string l.id, .int .i64 l.n, .int .i64 l.unit, .int .i64 l.fr, v]) rfl rfl Try.ag26 Try.sz26 (blk_cells b0) ?_; refine hK _ _ ?_; clear hK K)
        | ((with_reducible change wpList _ _ _ (Oper.mk _ (Op.store _ _ _) _ _ _ _ :: _) _ _); refine BigFrame.wpList_want rfl (fun K hK => ?_); refine op_storeN (g := w.heap.size + 1 + 1) (i := 0) (T := 26) (vs := [.string l.id, .int .i64 l.n, .int .i64 l.unit, .int .i64 l.fr, v]) rfl rfl rfl Try.sz26 (by intro u hu; simp at hu; rcases hu with rfl | rfl | rfl | rfl | rfl <;> first | rfl | exact hone) b4 (by simp) ?_; intro w8 hb8 ht8 hz8; refine hK _ _ ?_; clear hK K))
      exact bodyPost_ret (results_cell_tmp (vs := [.string l.id, .int .i64 l.n, .int .i64 l.unit, .int .i64 l.fr, v]) Try.results20 rfl Try.ag26 Try.sz26 (blk_cells (hb8.storeAll rfl))) rfl ⟨_, 0, v, hI2.out, rfl, hst.ext (hE4.trans ht8 fun b hb e => by omega), hE4.trans ht8 fun b hb e => by omega⟩
    · have hI2 : ∀ m f, (∃ due1 e1, DueIs (l.term tn tu) cl due1 e1 ∧
          if e1 ≠ 0 then m = zeroLim ∧ f = e1
          else if due1 < day + least then ∃ due2 e2, DueIs (l.from_ day least) cl due2 e2 ∧ if e2 ≠ 0 then m = zeroLim ∧ f = e2 else m = l.from_ day least ∧ f = 0
          else m = l.term tn tu ∧ f = 0) → ChangeIs l day tn tu least cl m f := fun m f h => hI.out m f ⟨due, 0, hdue'.out, by rw [if_neg (by simp), if_neg hlt]; exact h⟩
      replace hI2 := Lib.hid hI2
      clear hI hdue'
      have hst := h.stops
      have hlim1 : ∀ W, Ext w W → LimAt W (l.term tn tu) v := fun W hE => ⟨hst.ext hE, h.few, h.id⟩
      have hlim2 : ∀ W, Ext w W → LimAt W (l.from_ day least) v := fun W hE => ⟨hst.ext hE, h.few, h.id⟩
      have hlt0 := obj_lt b0
      ((first | go_at_call 12 | (go_wp2_with (first | ((with_reducible change wpList _ _ _ (Oper.mk _ (Op.load _ _) _ _ _ _ :: _) _ _); refine BigFrame.wpList_want rfl (fun K hK => ?_); refine op_loadN (p := ⟨w.heap.size + 1, 0, none⟩) (vs := [.int .i64 tn, .int .i64 tu]) rfl rfl Try.ag23 Try.sz23 (blk_cells b1) ?_; refine hK _ _ ?_; clear hK K) | ((with_reducible change wpList _ _ _ (Oper.mk _ (Op.store _ _ _) _ _ _ _ :: _) _ _); refine BigFrame.wpList_want rfl (fun K hK => ?_); refine op_storeN (g := w.heap.size) (i := 1) (T := 26) (vs := [.int .i64 tn, .int .i64 tu]) rfl rfl rfl Try.sz23 (by simp [Value.oneCell']) b0 (by simp) ?_; intro w5 k5 t5 z5; refine hK _ _ ?_; clear hK K) | ((with_reducible change wpList _ _ _ (Oper.mk _ (Op.load _ _) _ _ _ _ :: _) _ _); refine BigFrame.wpList_want rfl (fun K hK => ?_); refine op_loadN (p := ⟨w.heap.size, 0, none⟩) (vs := [.string l.id, .int .i64 tn, .int .i64 tu, .int .i64 l.fr, v]) rfl rfl Try.ag26 Try.sz26 (blk_cells (show Blk w5 w.heap.size 26 [.string l.id, .int .i64 tn, .int .i64 tu, .int .i64 l.fr, v].toArray from k5)) ?_; refine hK _ _ ?_; clear hK K)); go_at_call 12)); refine (due_contract (hlim1 _ (hE4.trans t5 fun b hb e => by omega)) (hv.ext (hE4.trans t5 fun b hb e => by omega)) hok'.out hn).mono ?_; rintro _ w6 ⟨due1, e1, rfl, hdue1, x6⟩)
      have k6 : Blk w6 w.heap.size 26 #[.string l.id, .int .i64 tn, .int .i64 tu, .int .i64 l.fr, v] := Blk.ext (show Blk w5 w.heap.size 26 #[.string l.id, .int .i64 tn, .int .i64 tu, .int .i64 l.fr, v] from k5) x6
      have b16 : Blk w6 (w.heap.size + 1) 23 #[.int .i64 tn, .int .i64 tu] := Blk.ext (t5.obj b1 (by omega)) x6
      have b46 : Blk w6 (w.heap.size + 1 + 1) 26 #[.string ⟨#[]⟩, .int .i64 0, .int .i64 0, .int .i64 0, .slice none 0 0] := Blk.ext (t5.obj b4 (by omega)) x6
      have hE6 : Ext w w6 := Touch.then_ext (hE4.trans t5 fun b hb e => by omega) x6
      have hout := hdue1.out
      have hdue' := Lib.hid hdue1
      clear hdue1 x6
      by_cases he : e1 = 0
      · subst he
        have hdu1 : 0 ≤ due1 ∧ due1 ≤ 1000000 := by
          rcases hout with ⟨-, -, -, h2, h3⟩ | ⟨-, h1⟩
          · exact ⟨h2, h3⟩
          · exact absurd rfl h1
        obtain ⟨hdv0, hdv1⟩ := hdu1
        clear hout
        by_cases hlt2 : due1 < day + least
        · have hI3 : ∀ m f, (∃ due2 e2, DueIs (l.from_ day least) cl due2 e2 ∧ if e2 ≠ 0 then m = zeroLim ∧ f = e2 else m = l.from_ day least ∧ f = 0) → ChangeIs l day tn tu least cl m f := fun m f h => hI2.out m f ⟨due1, 0, hdue'.out, by rw [if_neg (by simp), if_pos hlt2]; exact h⟩
          replace hI3 := Lib.hid hI3
          clear hI2 hdue' k5 t5
          ((first | go_at_call 12 | (go_wp2_with (first | ((with_reducible change wpList _ _ _ (Oper.mk _ (Op.store _ _ _) _ _ _ _ :: _) _ _); refine BigFrame.wpList_want rfl (fun K hK => ?_); refine op_store1 (g := w.heap.size) (i := 3) (T := 26) (cs := #[.string l.id, .int .i64 tn, .int .i64 tu, .int .i64 l.fr, v]) (v := .int .i64 day) rfl rfl rfl Try.szE3 rfl k6 (by simp) ?_; intro w7 k7 t7 z7; refine hK _ _ ?_; clear hK K) | ((with_reducible change wpList _ _ _ (Oper.mk _ (Op.store _ _ _) _ _ _ _ :: _) _ _); refine BigFrame.wpList_want rfl (fun K hK => ?_); refine op_storeN (g := w.heap.size) (i := 1) (T := 26) (cs := #[.string l.id, .int .i64 tn, .int .i64 tu, .int .i64 day, v]) (vs := [.int .i64 least, .int .i64 1]) rfl rfl rfl Try.sz23 (by simp [Value.oneCell']) k7 (by simp) ?_; intro w9 k9 t9 z9; refine hK _ _ ?_; clear hK K) | ((with_reducible change wpList _ _ _ (Oper.mk _ (Op.load _ _) _ _ _ _ :: _) _ _); refine BigFrame.wpList_want rfl (fun K hK => ?_); refine op_loadN (p := ⟨w.heap.size, 0, none⟩) (vs := [.string l.id, .int .i64 least, .int .i64 1, .int .i64 day, v]) rfl rfl Try.ag26 Try.sz26 (blk_cells (show Blk w9 w.heap.size 26 [.string l.id, .int .i64 least, .int .i64 1, .int .i64 day, v].toArray from k9)) ?_; refine hK _ _ ?_; clear hK K)); go_at_call 12)); refine (due_contract (hlim2 _ ((hE6.trans t7 fun b hb e => by omega).trans t9 fun b hb e => by omega)) (hv.ext ((hE6.trans t7 fun b hb e => by omega).trans t9 fun b hb e => by omega)) hok'.out hn).mono ?_; rintro _ w10 ⟨due2, e2, rfl, hdue2, x10⟩)
          have k10 : Blk w10 w.heap.size 26 #[.string l.id, .int .i64 least, .int .i64 1, .int .i64 day, v] := Blk.ext (show Blk w9 w.heap.size 26 #[.string l.id, .int .i64 least, .int .i64 1, .int .i64 day, v] from k9) x10
          have b410 : Blk w10 (w.heap.size + 1 + 1) 26 #[.string ⟨#[]⟩, .int .i64 0, .int .i64 0, .int .i64 0, .slice none 0 0] := Blk.ext (t9.obj (t7.obj b46 (by omega)) (by omega)) x10
          have hE10 : Ext w w10 := Touch.then_ext ((hE6.trans t7 fun b hb e => by omega).trans t9 fun b hb e => by omega) x10
          have hdue2' := Lib.hid hdue2
          clear hdue2 x10
          by_cases he2 : e2 = 0
          · subst he2
            have hI4 := Lib.hid (hI3.out (l.from_ day least) 0 ⟨due2, 0, hdue2'.out, by rw [if_neg (by simp)]; exact ⟨rfl, rfl⟩⟩)
            go_wp2_with (first
              | ((with_reducible change wpList _ _ _ (Oper.mk _ (Op.load _ _) _ _ _ _ :: _) _ _); refine BigFrame.wpList_want rfl (fun K hK => ?_); refine op_loadN (p := ⟨w.heap.size, 0, none⟩) (vs := [.string l.id, .int .i64 least, .int .i64 1, .int .i64 day, v]) rfl rfl Try.ag26 Try.sz26 (blk_cells k10) ?_; refine hK _ _ ?_; clear hK K)
              | ((with_reducible change wpList _ _ _ (Oper.mk _ (Op.store _ _ _) _ _ _ _ :: _) _ _); refine BigFrame.wpList_want rfl (fun K hK => ?_); refine op_storeN (g := w.heap.size + 1 + 1) (i := 0) (T := 26) (vs := [.string l.id, .int .i64 least, .int .i64 1, .int .i64 day, v]) rfl rfl rfl Try.sz26 (by intro u hu; simp at hu; rcases hu with rfl | rfl | rfl | rfl | rfl <;> first | rfl | exact hone) b410 (by simp) ?_; intro w8 hb8 ht8 hz8; refine hK _ _ ?_; clear hK K))
            exact bodyPost_ret (results_cell_tmp (vs := [.string l.id, .int .i64 least, .int .i64 1, .int .i64 day, v]) Try.results20 rfl Try.ag26 Try.sz26 (blk_cells (hb8.storeAll rfl))) rfl ⟨_, 0, v, hI4.out, rfl, hst.ext (hE10.trans ht8 fun b hb e => by omega), hE10.trans ht8 fun b hb e => by omega⟩
          · have he' : (e2 != 0) = true := by simpa using he2
            have hI4 := Lib.hid (hI3.out zeroLim e2 ⟨due2, e2, hdue2'.out, by rw [if_pos he2]; exact ⟨rfl, rfl⟩⟩)
            go_wp2_with (first
              | ((with_reducible change wpList _ _ _ (Oper.mk _ (Op.store _ _ _) _ _ _ _ :: _) _ _); refine BigFrame.wpList_want rfl (fun K hK => ?_); refine op_storeN (g := w.heap.size + 1 + 1) (i := 0) (T := 26) (vs := [.string ⟨#[]⟩, .int .i64 0, .int .i64 0, .int .i64 0, .slice none 0 0]) rfl rfl rfl Try.sz26 (by simp [Value.oneCell']) b410 (by simp) ?_; intro w8 hb8 ht8 hz8; refine hK _ _ ?_; clear hK K))
            exact bodyPost_ret (results_cell_tmp (vs := [.string ⟨#[]⟩, .int .i64 0, .int .i64 0, .int .i64 0, .slice none 0 0]) Try.results20 rfl Try.ag26 Try.sz26 (blk_cells (hb8.storeAll rfl))) rfl ⟨zeroLim, _, .slice none 0 0, hI4.out, rfl, RL.nil _, hE10.trans ht8 fun b hb e => by omega⟩
        · have hI4 := Lib.hid (hI2.out (l.term tn tu) 0 ⟨due1, 0, hdue'.out, by rw [if_neg (by simp), if_neg hlt2]; exact ⟨rfl, rfl⟩⟩)
          go_wp2_with (first
            | ((with_reducible change wpList _ _ _ (Oper.mk _ (Op.load _ _) _ _ _ _ :: _) _ _); refine BigFrame.wpList_want rfl (fun K hK => ?_); refine op_loadN (p := ⟨w.heap.size, 0, none⟩) (vs := [.string l.id, .int .i64 tn, .int .i64 tu, .int .i64 l.fr, v]) rfl rfl Try.ag26 Try.sz26 (blk_cells k6) ?_; refine hK _ _ ?_; clear hK K)
            | ((with_reducible change wpList _ _ _ (Oper.mk _ (Op.store _ _ _) _ _ _ _ :: _) _ _); refine BigFrame.wpList_want rfl (fun K hK => ?_); refine op_storeN (g := w.heap.size + 1 + 1) (i := 0) (T := 26) (vs := [.string l.id, .int .i64 tn, .int .i64 tu, .int .i64 l.fr, v]) rfl rfl rfl Try.sz26 (by intro u hu; simp at hu; rcases hu with rfl | rfl | rfl | rfl | rfl <;> first | rfl | exact hone) b46 (by simp) ?_; intro w8 hb8 ht8 hz8; refine hK _ _ ?_; clear hK K))
          exact bodyPost_ret (results_cell_tmp (vs := [.string l.id, .int .i64 tn, .int .i64 tu, .int .i64 l.fr, v]) Try.results20 rfl Try.ag26 Try.sz26 (blk_cells (hb8.storeAll rfl))) rfl ⟨_, 0, v, hI4.out, rfl, hst.ext (hE6.trans ht8 fun b hb e => by omega), hE6.trans ht8 fun b hb e => by omega⟩
      · have he' : (e1 != 0) = true := by simpa using he
        have hI4 := Lib.hid (hI2.out zeroLim e1 ⟨due1, e1, hdue'.out, by rw [if_pos he]; exact ⟨rfl, rfl⟩⟩)
        clear hout
        go_wp2_with (first
          | ((with_reducible change wpList _ _ _ (Oper.mk _ (Op.store _ _ _) _ _ _ _ :: _) _ _); refine BigFrame.wpList_want rfl (fun K hK => ?_); refine op_storeN (g := w.heap.size + 1 + 1) (i := 0) (T := 26) (vs := [.string ⟨#[]⟩, .int .i64 0, .int .i64 0, .int .i64 0, .slice none 0 0]) rfl rfl rfl Try.sz26 (by simp [Value.oneCell']) b46 (by simp) ?_; intro w8 hb8 ht8 hz8; refine hK _ _ ?_; clear hK K))
        exact bodyPost_ret (results_cell_tmp (vs := [.string ⟨#[]⟩, .int .i64 0, .int .i64 0, .int .i64 0, .slice none 0 0]) Try.results20 rfl Try.ag26 Try.sz26 (blk_cells (hb8.storeAll rfl))) rfl ⟨zeroLim, _, .slice none 0 0, hI4.out, rfl, RL.nil _, hE6.trans ht8 fun b hb e => by omega⟩
  · have he' : (e != 0) = true := by simpa using he
    have hI2 := Lib.hid (hI.out zeroLim e ⟨due, e, hdue'.out, by rw [if_pos he]; exact ⟨rfl, rfl⟩⟩)
    clear hout
    go_wp2_with (first
      | ((with_reducible change wpList _ _ _ (Oper.mk _ (Op.store _ _ _) _ _ _ _ :: _) _ _); refine BigFrame.wpList_want rfl (fun K hK => ?_); refine op_storeN (g := w.heap.size + 1 + 1) (i := 0) (T := 26) (vs := [.string ⟨#[]⟩, .int .i64 0, .int .i64 0, .int .i64 0, .slice none 0 0]) rfl rfl rfl Try.sz26 (by simp [Value.oneCell']) b4 (by simp) ?_; intro w8 hb8 ht8 hz8; refine hK _ _ ?_; clear hK K))
    exact bodyPost_ret (results_cell_tmp (vs := [.string ⟨#[]⟩, .int .i64 0, .int .i64 0, .int .i64 0, .slice none 0 0]) Try.results20 rfl Try.ag26 Try.sz26 (blk_cells (hb8.storeAll rfl))) rfl ⟨zeroLim, _, .slice none 0 0, hI2.out, rfl, RL.nil _, hE4.trans ht8 fun b hb e => by omega⟩

theorem change_contract {w : World} {l : Lim} {v : Value} (h : LimAt w l v) {vc : Value} {cl : List Int} (hv : RInts w vc cl) (hok : ∀ x ∈ cl, (Lit.int .i64 x).wf = true) (hn : cl.length ≤ 1000000) (day tn tu least : Int) :
    Calls Try.prog 20 #[.agg (limCells l v).toArray, .int .i64 day, .agg #[.int .i64 tn, .int .i64 tu], .int .i64 least, vc] w fun e w' => ChangePost l day tn tu least cl w e w' := by
  cases hg : changeOk l day tn tu least with
  | false => exact change_bad h day tn tu least hg
  | true => exact change_good h hv hok hn day tn tu least hg
end Go.Proofs.Ytioofhmkeajkpaa
