/-
  The reference's small functions in plain words: Short, Few, Paused, Same, Name, Proper.
-/
import Derived.Test.YtioofhmkeajkpaaMLimC
import Derived.Test.YtioofhmkeajkpaaPLimitMatchesReferencex8
import Derived.ProofKit
import Derived.OpenShut
import Derived.ChangeOld
import Derived.Deep.Slices
import Derived.Test.YtioofhmkeajkpaaRows
namespace Go.Proofs.Ytioofhmkeajkpaa
open Go Go.RowKit PLimitMatchesReference Go.Proofs.YtioofhmkeajkpaaW.PrintWords

theorem stops_kd {w : World} {v : Value} {l : Stops} (h : RStops w v l) : ∃ A c, v = .slice A l.length c ∧ l.length ≤ c ∧ Kd.C k31 w A l.length l := by
  obtain ⟨ad, c, rfl, h1, h2, h3, h4⟩ := h
  refine ⟨ad, c, rfl, h1, rfl, by unfold maxLen at h2; omega, fun h0 => ?_⟩
  obtain ⟨a, rfl⟩ := Option.ne_none_iff_exists'.1 (h3 h0)
  exact ⟨a, rfl, fun j p hp => ⟨stopC p, rfl, k31_mk w p, fun i u hu => h4 a rfl j p hp i u hu⟩⟩
theorem ints_kd {w : World} {v : Value} {l : List Int} (h : RInts w v l) : ∃ A c, v = .slice A l.length c ∧ l.length ≤ c ∧ Kd.C (Kd.int .i64) w A l.length l := by
  obtain ⟨ad, c, rfl, h1, h2, h3, h4⟩ := h
  refine ⟨ad, c, rfl, h1, rfl, by unfold maxLen at h2; omega, fun h0 => ?_⟩
  obtain ⟨a, rfl⟩ := Option.ne_none_iff_exists'.1 (h3 h0)
  exact ⟨a, rfl, fun j p hp => ⟨intC p, rfl, rfl, fun i u hu => h4 a rfl j p hp i u hu⟩⟩
theorem rd_nat (ss : Stops) (i : Nat) (h : i < ss.length) : rd_T31 ss (i : Int) = ss[i] := by
  unfold rd_T31
  simp [h]
theorem wrap_succ {i : Nat} (h : i ≤ 4611686018427387904) : wrap64 ((i : Int) + 1) = ((i + 1 : Nat) : Int) := by unfold wrap64; omega

/-! ### Paused -/
theorem paused_l0 (d : Int) (id : ByteArray) (n u fr : Int) (ss : Stops) (hs : ss.length ≤ 1000000) : ∀ (m i k : Nat), i + m = ss.length → m < k →
    pandectref30_Paused.l0 k d (i : Int) id n u fr ss = some (decide (fr < d) && (ss.drop i).any (inB d)) := by
  intro m
  induction m with
  | zero =>
    intro i k hm hk
    obtain ⟨k, rfl⟩ : ∃ q, k = q + 1 := ⟨k - 1, by omega⟩
    simp only [pandectref30_Paused.l0]
    rw [if_neg (by omega), List.drop_of_length_le (by omega)]
    simp
  | succ m ih =>
    intro i k hm hk
    obtain ⟨k, rfl⟩ : ∃ q, k = q + 1 := ⟨k - 1, by omega⟩
    have hi : i < ss.length := by omega
    simp only [pandectref30_Paused.l0]
    rw [if_pos (by omega), wrap_succ (by omega), ih (i + 1) k (by omega) (by omega), List.drop_eq_getElem_cons hi, List.any_cons]
    by_cases h1 : fr < d
    · rw [if_pos h1, if_pos (by omega), rd_nat ss i hi, decide_eq_true h1]
      by_cases h2 : ss[i].f0 ≤ d
      · rw [if_pos h2]
        by_cases h3 : d < ss[i].f1
        · rw [if_pos h3, inB_iff.2 ⟨h2, h3⟩]; simp
        · rw [if_neg h3, show inB d ss[i] = false from by unfold inB; rw [decide_eq_false h3]; simp]; simp
      · rw [if_neg h2, show inB d ss[i] = false from by unfold inB; rw [decide_eq_false h2]; simp]; simp
    · rw [if_neg h1, decide_eq_false h1]; simp
theorem refPaused_contract {w : World} {l : Lim} {v : Value} (h : LimAt w l v) (d : Int) :
    Calls Try.prog 14 #[.agg (limCells l v).toArray, .int .i64 d] w fun e w' => e = .returned (.bool (l.paused d)) ∧ Ext w w' := by
  obtain ⟨A, c, rfl, hc, hk⟩ := stops_kd h.stops
  exact (pandectref30_Paused.calls (l.stops.length + 1) l.id l.n l.unit l.fr A c l.stops d (l.paused d) w hk hc (by
    have := paused_l0 d l.id l.n l.unit l.fr l.stops h.few l.stops.length 0 (l.stops.length + 1) (by omega) (by omega)
    rw [List.drop_zero] at this
    exact this)).mono fun _ _ h => ⟨h.1, Ext.of_below h.2⟩

/-! ### Short, Few -/
def shortB (n u : Int) : Bool := decide (n ≤ if u = 2 then 600 else if u = 3 then 150 else if u = 4 then 12 else if u = 5 then 3000 else 4000) || decide (1000000 < n)
theorem short_f (n u : Int) (k : Nat) (hk : 2 ≤ k) : pandectref30_Short.f k n u = some (shortB n u) := by
  obtain ⟨k, rfl⟩ : ∃ q, k = q + 1 + 1 := ⟨k - 2, by omega⟩
  unfold pandectref30_Short.f shortB
  by_cases h2 : u = 2
  · subst h2
    rw [if_pos rfl, if_pos rfl, pandectref30_Short.j0, if_neg (by omega), pandectref30_Short.j1, if_neg (by omega), if_neg (by omega)]
    by_cases h : n ≤ 600
    · rw [if_pos h, decide_eq_true h]; rfl
    · rw [if_neg h, decide_eq_false h]; rfl
  · rw [if_neg h2, if_neg h2, pandectref30_Short.j0]
    by_cases h3 : u = 3
    · subst h3
      rw [if_pos rfl, if_pos rfl, pandectref30_Short.j1, if_neg (by omega), if_neg (by omega)]
      by_cases h : n ≤ 150
      · rw [if_pos h, decide_eq_true h]; rfl
      · rw [if_neg h, decide_eq_false h]; rfl
    · rw [if_neg h3, if_neg h3, pandectref30_Short.j1]
      by_cases h4 : u = 4
      · subst h4
        rw [if_pos rfl, if_pos rfl, if_neg (by omega)]
        by_cases h : n ≤ 12
        · rw [if_pos h, decide_eq_true h]; rfl
        · rw [if_neg h, decide_eq_false h]; rfl
      · rw [if_neg h4, if_neg h4]
        by_cases h5 : u = 5
        · subst h5
          rw [if_pos rfl, if_pos rfl]
          by_cases h : n ≤ 3000
          · rw [if_pos h, decide_eq_true h]; rfl
          · rw [if_neg h, decide_eq_false h]; rfl
        · rw [if_neg h5, if_neg h5]
          by_cases h : n ≤ 4000
          · rw [if_pos h, decide_eq_true h]; rfl
          · rw [if_neg h, decide_eq_false h]; rfl
theorem short_contract (w : World) (n u : Int) : Calls Try.prog 15 #[.agg #[.int .i64 n, .int .i64 u]] w fun e w' => e = .returned (.bool (shortB n u)) ∧ Ext w w' :=
  (pandectref30_Short.calls 2 n u (shortB n u) w (short_f n u 2 (by omega))).mono fun _ _ h => ⟨h.1, Ext.of_below h.2⟩

/-- The days of the proper stops, all together. -/
def sumS : Stops → Int
  | [] => 0
  | s :: ss => (if stopB s then s.f1 - s.f0 else 0) + sumS ss
theorem sumS_le : ∀ ss : Stops, 0 ≤ sumS ss ∧ sumS ss ≤ 1000000 * ss.length
  | [] => by simp [sumS]
  | s :: ss => by
    have h := sumS_le ss
    rw [sumS, List.length_cons]
    push_cast
    cases hs : stopB s with
    | true =>
      have := stopB_iff.1 hs
      rw [if_pos rfl]
      omega
    | false =>
      rw [if_neg (by simp)]
      omega
theorem stop_f (s : S31) : pandectref30_Stop.f s.f0 s.f1 = some (stopB s) := by
  unfold pandectref30_Stop.f stopB
  by_cases h1 : 0 ≤ s.f0
  · rw [if_pos h1, decide_eq_true h1]
    by_cases h2 : s.f0 ≤ s.f1
    · rw [if_pos h2, decide_eq_true h2]; rfl
    · rw [if_neg h2, decide_eq_false h2]; rfl
  · rw [if_neg h1, decide_eq_false h1]; rfl
theorem few_l0 (cl : List Int) (id : ByteArray) (n u fr : Int) (ss : Stops) (hs : ss.length ≤ 10) : ∀ (m i k : Nat) (a : Int), i + m = ss.length → m + 2 < k → 0 ≤ a → a ≤ 1000000 * i →
    pandectref30_Few.l0 k cl a (i : Int) id n u fr ss = some (decide (a + sumS (ss.drop i) ≤ 2000) && shortB n u && decide (cl.length ≤ 300)) := by
  intro m
  induction m with
  | zero =>
    intro i k a hm hk ha0 ha1
    obtain ⟨k, rfl⟩ : ∃ q, k = q + 1 := ⟨k - 1, by omega⟩
    simp only [pandectref30_Few.l0]
    rw [if_neg (by omega), List.drop_of_length_le (by omega), short_f n u k (by omega)]
    simp only [sumS, Int.add_zero]
    by_cases h : a ≤ 2000
    · rw [if_pos h, decide_eq_true h]
      cases shortB n u
      · rfl
      · simp; omega
    · rw [if_neg h, decide_eq_false h]; rfl
  | succ m ih =>
    intro i k a hm hk ha0 ha1
    obtain ⟨k, rfl⟩ : ∃ q, k = q + 1 := ⟨k - 1, by omega⟩
    have hi : i < ss.length := by omega
    simp only [pandectref30_Few.l0]
    rw [if_pos (by omega), if_pos (by omega), rd_nat ss i hi, stop_f, wrap_succ (by omega), List.drop_eq_getElem_cons hi, sumS]
    simp only [Option.bind_some]
    cases hst : stopB ss[i] with
    | true =>
      have := stopB_iff.1 hst
      rw [if_pos rfl, if_pos rfl]
      have e : wrap64 (a + wrap64 (ss[i].f1 - ss[i].f0)) = a + (ss[i].f1 - ss[i].f0) := by unfold wrap64; omega
      rw [e, ih (i + 1) k _ (by omega) (by omega) (by omega) (by push_cast; omega), Int.add_assoc]
    | false =>
      rw [if_neg (by simp), if_neg (by simp), ih (i + 1) k _ (by omega) (by omega) (by omega) (by push_cast; omega), Int.zero_add]
def fewB (l : Lim) (cl : List Int) : Bool := decide (l.stops.length ≤ 10) && decide (l.id.size ≤ 60) && (decide (sumS l.stops ≤ 2000) && shortB l.n l.unit && decide (cl.length ≤ 300))
theorem few_f (l : Lim) (cl : List Int) : pandectref30_Few.f 20 l.id l.n l.unit l.fr l.stops cl 10 = some (fewB l cl) := by
  unfold pandectref30_Few.f fewB
  by_cases h1 : l.stops.length ≤ 10
  · rw [if_neg (by omega), decide_eq_true h1, pandectref30_Few.j0]
    by_cases h2 : l.id.size ≤ 60
    · rw [if_neg (by simp; omega), decide_eq_true h2]
      have := few_l0 cl l.id l.n l.unit l.fr l.stops h1 l.stops.length 0 19 0 (by omega) (by omega) (by omega) (by omega)
      rw [List.drop_zero, Int.zero_add] at this
      exact this
    · rw [if_pos (by simp; omega), decide_eq_false h2]; rfl
  · rw [if_pos (by omega), decide_eq_false h1, pandectref30_Few.j0, if_pos rfl]; rfl
theorem few_contract {w : World} {l : Lim} {v : Value} (h : RStops w v l.stops) {vc : Value} {cl : List Int} (hv : RInts w vc cl) :
    Calls Try.prog 11 #[.agg (limCells l v).toArray, vc] w fun e w' => e = .returned (.bool (fewB l cl)) ∧ Ext w w' := by
  obtain ⟨A, c, rfl, hc, hk⟩ := stops_kd h
  obtain ⟨A1, c1, rfl, hc1, hk1⟩ := ints_kd hv
  exact (pandectlaw30_few.calls 20 l.id l.n l.unit l.fr A c l.stops A1 c1 cl (fewB l cl) w hk hc hk1 hc1 (by unfold pandectlaw30_few.f; rw [few_f]; rfl)).mono fun _ _ h => ⟨h.1, Ext.of_below h.2⟩
theorem fewB_out {l : Lim} {cl : List Int} (h : fewB l cl = true) : l.stops.length ≤ 10 ∧ l.id.size ≤ 60 ∧ sumS l.stops ≤ 2000 ∧ shortB l.n l.unit = true ∧ cl.length ≤ 300 := by
  unfold fewB at h
  simp only [Bool.and_eq_true, decide_eq_true_iff] at h
  exact ⟨h.1.1, h.1.2, h.2.1.1, h.2.1.2, h.2.2⟩
end Go.Proofs.Ytioofhmkeajkpaa

/-
  The reference's Same, Name, Proper in plain words.
-/
namespace Go.Proofs.Ytioofhmkeajkpaa
open Go Go.RowKit PLimitMatchesReference Go.Proofs.YtioofhmkeajkpaaW.PrintWords

theorem same_l0 (a : ByteArray) (b c d : Int) (a' : ByteArray) (b' c' d' : Int) (ss : Stops) (hs : ss.length ≤ 1000000) : ∀ (m i k : Nat), i + m = ss.length → m < k →
    pandectref30_Same.l0 k (i : Int) a b c d ss a' b' c' d' ss = some true := by
  intro m
  induction m with
  | zero =>
    intro i k hm hk
    obtain ⟨k, rfl⟩ : ∃ q, k = q + 1 := ⟨k - 1, by omega⟩
    simp only [pandectref30_Same.l0]
    rw [if_neg (by omega)]
  | succ m ih =>
    intro i k hm hk
    obtain ⟨k, rfl⟩ : ∃ q, k = q + 1 := ⟨k - 1, by omega⟩
    simp only [pandectref30_Same.l0]
    rw [if_pos (by omega), if_pos (by omega), if_pos (by omega), if_neg (by simp), wrap_succ (by omega)]
    exact ih (i + 1) k (by omega) (by omega)
theorem same_true {w : World} {l : Lim} {v v' : Value} (h : LimAt w l v) (h' : LimAt w l v') :
    Calls Try.prog 22 #[.agg (limCells l v).toArray, .agg (limCells l v').toArray] w fun e w' => e = .returned (.bool true) ∧ Ext w w' := by
  obtain ⟨A, c, rfl, hc, hk⟩ := stops_kd h.stops
  obtain ⟨A', c', rfl, hc', hk'⟩ := stops_kd h'.stops
  refine (pandectref30_Same.calls (l.stops.length + 2) l.id l.n l.unit l.fr A c l.stops l.id l.n l.unit l.fr A' c' l.stops true w hk hc hk' hc' ?_).mono fun _ _ h => ⟨h.1, Ext.of_below h.2⟩
  unfold pandectref30_Same.f
  rw [if_pos rfl, if_neg (by simp), if_pos rfl, pandectref30_Same.j0, if_neg (by simp)]
  exact same_l0 _ _ _ _ _ _ _ _ l.stops h.few l.stops.length 0 _ (by omega) (by omega)

theorem letter_f (c : Int) : pandectref05_letter.f c = some (decide (isL c)) := by
  unfold pandectref05_letter.f
  by_cases h1 : c ≥ 97
  · rw [if_pos h1]
    by_cases h2 : c ≤ 122
    · rw [if_pos h2, decide_eq_true (by omega)]
    · rw [if_neg h2, if_pos (by omega), decide_eq_decide.2 (by omega : (c ≤ 90) ↔ isL c)]
  · rw [if_neg h1]
    by_cases h2 : c ≥ 65
    · rw [if_pos h2, decide_eq_decide.2 (by omega : (c ≤ 90) ↔ isL c)]
    · rw [if_neg h2, decide_eq_false (by omega)]
theorem word_f (c : Int) : pandectref05_word.f c = some (decide (isL c ∨ isW c)) := by
  unfold pandectref05_word.f pandectref05_digit.f
  rw [letter_f]
  simp only [Option.bind_some]
  by_cases h : isL c
  · rw [if_pos (by simpa using h), decide_eq_true (.inl h)]
  · rw [if_neg (by simpa using h)]
    by_cases h1 : c ≥ 48
    · rw [if_pos h1]
      simp only [Option.bind_some]
      by_cases h2 : c ≤ 57
      · rw [if_pos (by simpa using h2), decide_eq_true (by omega)]
      · rw [if_neg (by simpa using h2)]
        congr 1
        by_cases h3 : c = 95
        · rw [decide_eq_true (by omega)]; simpa using h3
        · rw [decide_eq_false (by omega)]; simpa using h3
    · rw [if_neg h1]
      simp only [Option.bind_some]
      rw [if_neg (by simp)]
      congr 1
      rw [decide_eq_false (by omega)]
      simp
      omega
theorem name_l0 (s : ByteArray) (hs : s.size ≤ 4611686018427387904) : ∀ (m i k : Nat), i + m = s.size → m < k →
    pandectref05_Name.l0 k s (i : Int) = some ((List.range' i m).all (fun j => decide (isL (bt s j) ∨ isW (bt s j))) && (decide (0 < s.size) && decide (s.size ≤ 24) && decide (isL (bt s 0)))) := by
  intro m
  induction m with
  | zero =>
    intro i k hm hk
    obtain ⟨k, rfl⟩ : ∃ q, k = q + 1 := ⟨k - 1, by omega⟩
    simp only [pandectref05_Name.l0]
    rw [if_neg (by omega), List.range'_zero, List.all_nil, Bool.true_and]
    by_cases h0 : 0 < s.size
    · rw [if_pos (by omega), decide_eq_true h0]
      by_cases h1 : s.size ≤ 24
      · rw [if_pos (by omega), if_pos (by omega), letter_f, decide_eq_true h1]; rfl
      · rw [if_neg (by omega), decide_eq_false h1]; rfl
    · rw [if_neg (by omega), decide_eq_false h0]; rfl
  | succ m ih =>
    intro i k hm hk
    obtain ⟨k, rfl⟩ : ∃ q, k = q + 1 := ⟨k - 1, by omega⟩
    simp only [pandectref05_Name.l0]
    rw [if_pos (by omega), if_pos (by omega), word_f, wrap_succ (by omega), ih (i + 1) k (by omega) (by omega), List.range'_succ, List.all_cons]
    simp only [Option.bind_some]
    by_cases h : isL (bt s i) ∨ isW (bt s i)
    · rw [if_pos (decide_eq_true h), decide_eq_true h]; rfl
    · rw [if_neg (by simpa using h), decide_eq_false h]; rfl
theorem name_f (s : ByteArray) (hs : s.size ≤ 4611686018427387904) (k : Nat) (hk : s.size < k) : pandectref05_Name.f k s = some (nmB s) := by
  unfold pandectref05_Name.f
  have := name_l0 s hs s.size 0 k (by omega) hk
  rw [show (0 : Int) = ((0 : Nat) : Int) from rfl, this]
  congr 1
  unfold nmB
  rcases Nat.eq_zero_or_pos s.size with h0 | h0
  · rw [h0]; simp
  · obtain ⟨m, hm⟩ : ∃ m, s.size = m + 1 := ⟨s.size - 1, by omega⟩
    rw [hm, List.range'_succ, List.all_cons, List.all_cons]
    have e1 : (List.range' (0 + 1) m).all (fun j => decide (isL (bt s j) ∨ isW (bt s j))) = (List.range' (0 + 1) m).all (chB s) := by
      rw [Bool.eq_iff_iff, List.all_eq_true, List.all_eq_true]
      refine forall_congr' fun j => forall_congr' fun hj => ?_
      have hj1 : j ≠ 0 := by have := List.mem_range'_1.1 hj; omega
      unfold chB
      simp [hj1]
    rw [e1]
    have e2 : chB s 0 = decide (isL (bt s ((0 : Nat) : Int))) := by unfold chB; simp
    rw [e2]
    have hz : ((0 : Nat) : Int) = (0 : Int) := rfl
    rw [hz]
    generalize (List.range' (0 + 1) m).all (chB s) = q
    by_cases hl : isL (bt s 0)
    · rw [decide_eq_true hl, decide_eq_true (p := isL (bt s 0) ∨ isW (bt s 0)) (.inl hl)]
      cases q <;> simp
    · rw [decide_eq_false hl]
      cases q <;> simp
theorem term_f (n u : Int) : pandectref30_Term.f n u = some (termB n u) := by
  unfold pandectref30_Term.f termB
  by_cases h1 : 1 ≤ u
  · rw [if_pos h1, decide_eq_true h1]
    by_cases h2 : u ≤ 5
    · rw [if_pos h2, decide_eq_true h2]
      by_cases h3 : 0 ≤ n
      · rw [if_pos h3, decide_eq_true h3]; rfl
      · rw [if_neg h3, decide_eq_false h3]; rfl
    · rw [if_neg h2, decide_eq_false h2]; simp
  · rw [if_neg h1, decide_eq_false h1]; simp
theorem is_f (d : Int) : pandectref04_Is.f d = some (dayB d) := by
  unfold pandectref04_Is.f dayB
  by_cases h : 0 ≤ d
  · rw [if_pos h, decide_eq_true h]; rfl
  · rw [if_neg h, decide_eq_false h]; rfl
theorem proper_l0 (id : ByteArray) (hid : id.size ≤ 4611686018427387904) (n u fr : Int) (ss : Stops) (hs : ss.length ≤ 1000000) : ∀ (m i k : Nat), i + m = ss.length → m + id.size + 1 < k →
    pandectref30_Proper.l0 k (i : Int) id n u fr ss = some ((ss.drop i).all stopB && (nmB id && dayB fr && termB n u && decide (ss.length ≤ 60))) := by
  intro m
  induction m with
  | zero =>
    intro i k hm hk
    obtain ⟨k, rfl⟩ : ∃ q, k = q + 1 := ⟨k - 1, by omega⟩
    simp only [pandectref30_Proper.l0]
    rw [if_neg (by omega), List.drop_of_length_le (by omega), name_f id hid k (by omega), is_f, term_f]
    simp only [Option.bind_some, List.all_nil, Bool.true_and]
    cases nmB id
    · rfl
    · cases dayB fr
      · rfl
      · cases termB n u
        · rfl
        · simp
          omega
  | succ m ih =>
    intro i k hm hk
    obtain ⟨k, rfl⟩ : ∃ q, k = q + 1 := ⟨k - 1, by omega⟩
    have hi : i < ss.length := by omega
    simp only [pandectref30_Proper.l0]
    rw [if_pos (by omega), if_pos (by omega), rd_nat ss i hi, stop_f, wrap_succ (by omega), ih (i + 1) k (by omega) (by omega), List.drop_eq_getElem_cons hi, List.all_cons]
    simp only [Option.bind_some]
    cases stopB ss[i]
    · rfl
    · rfl
theorem proper_f (l : Lim) (hid : l.id.size ≤ 4611686018427387904) (hs : l.stops.length ≤ 1000000) (k : Nat) (hk : l.stops.length + l.id.size + 1 < k) : pandectref30_Proper.f k l.id l.n l.unit l.fr l.stops = some l.proper := by
  unfold pandectref30_Proper.f
  have := proper_l0 l.id hid l.n l.unit l.fr l.stops hs l.stops.length 0 k (by omega) hk
  rw [List.drop_zero] at this
  rw [show (0 : Int) = ((0 : Nat) : Int) from rfl, this]
  congr 1
  unfold Lim.proper
  rw [Bool.and_comm]
theorem refProper_contract {w : World} {l : Lim} {v : Value} (h : LimAt w l v) :
    Calls Try.prog 24 #[.agg (limCells l v).toArray] w fun e w' => e = .returned (.bool l.proper) ∧ Ext w w' := by
  obtain ⟨A, c, rfl, hc, hk⟩ := stops_kd h.stops
  exact (pandectref30_Proper.calls (l.stops.length + l.id.size + 2) l.id l.n l.unit l.fr A c l.stops l.proper w hk hc (proper_f l h.id h.few _ (by omega))).mono fun _ _ h => ⟨h.1, Ext.of_below h.2⟩
end Go.Proofs.Ytioofhmkeajkpaa

/-
  What package limit computes is one value; the chapter's examples.
-/
namespace Go.Proofs.Ytioofhmkeajkpaa
open Go Go.RowKit PLimitMatchesReference Go.Proofs.YtioofhmkeajkpaaW.PrintWords

theorem cntF_mono (p : Int → Bool) (a : Int) {k k' : Nat} (h : k ≤ k') : cntF p a k ≤ cntF p a k' := by
  obtain ⟨j, rfl⟩ : ∃ j, k' = k + j := ⟨k' - k, by omega⟩
  rw [cntF_add]
  omega
theorem NthIs.unique {p : Int → Bool} {a : Int} {n : Nat} {D D' : Int} (h : NthIs p a n D) (h' : NthIs p a n D') : D = D' := by
  have aux : ∀ {D D' : Int} {k k' : Nat}, D = a + k → cntF p a k = n → D' = a + k' → cntF p a k' = n → (k' ≠ 0 → p D' = true) → ¬ k < k' := by
    intro D D' k k' e1 e2 e3 e4 e5 hlt
    obtain ⟨j, rfl⟩ : ∃ j, k' = j + 1 := ⟨k' - 1, by omega⟩
    have h1 := cntF_mono p a (show k ≤ j by omega)
    rw [cntF, if_pos (by have := e5 (by omega); rw [e3] at this; push_cast at this; exact this)] at e4
    omega
  obtain ⟨k, e1, e2, e3⟩ := h
  obtain ⟨k', e4, e5, e6⟩ := h'
  have h1 := aux e1 e2 e4 e5 e6
  have h2 := aux e4 e5 e1 e2 e3
  have : k = k' := by omega
  subst this
  rw [e1, e4]

theorem IsDate.first {day y m d : Int} (h : IsDate day y m d) : 19200 ≤ 12 * y + m - 1 ∧ day = firstD (12 * y + m - 1) + d - 1 ∧ 1 ≤ d ∧ d ≤ lenD (12 * y + m - 1) ∧ (12 * y + m - 1) / 12 = y ∧ (12 * y + m - 1) % 12 + 1 = m := by
  have e1 : (12 * y + m - 1) / 12 = y := by have := h.m1; have := h.m12; omega
  have e2 : (12 * y + m - 1) % 12 + 1 = m := by have := h.m1; have := h.m12; omega
  refine ⟨by have := h.y1; have := h.m1; omega, ?_, h.d1, ?_, e1, e2⟩
  · unfold firstD; rw [e1, e2]; exact h.eq
  · unfold lenD; rw [e1, e2]; exact h.dm
theorem firstD_lt {t t' : Int} (h : 19200 ≤ t) (hlt : t < t') : firstD t + lenD t ≤ firstD t' := by
  obtain ⟨n, rfl⟩ : ∃ n : Nat, t' = t + 1 + n := ⟨(t' - t - 1).toNat, by omega⟩
  have h1 := firstD_succ h
  have h2 := firstD_add (t := t + 1) (by omega) n
  omega
theorem IsDate.unique {day y m d y' m' d' : Int} (h : IsDate day y m d) (h' : IsDate day y' m' d') : y = y' ∧ m = m' ∧ d = d' := by
  obtain ⟨t0, e1, d1, d2, y1, m1⟩ := h.first
  obtain ⟨t0', e1', d1', d2', y1', m1'⟩ := h'.first
  generalize 12 * y + m - 1 = t at *
  generalize 12 * y' + m' - 1 = t' at *
  have : t = t' := by
    rcases Int.lt_trichotomy t t' with hlt | he | hlt
    · have := firstD_lt t0 hlt; omega
    · exact he
    · have := firstD_lt t0' hlt; omega
  subst this
  omega
theorem MonthsIs.unique {day n r e r' e' : Int} (h : MonthsIs day n r e) (h' : MonthsIs day n r' e') : r = r' ∧ e = e' := by
  obtain ⟨y, m, d, hd, h⟩ := h
  obtain ⟨y', m', d', hd', h'⟩ := h'
  obtain ⟨rfl, rfl, rfl⟩ := hd.unique hd'
  rcases h with ⟨h1, h2, h3⟩ | ⟨h1, v, hv, h⟩ <;> rcases h' with ⟨h1', h2', h3'⟩ | ⟨h1', v', hv', h'⟩
  · omega
  · omega
  · omega
  · have : v = v' := by rw [hv, hv']
    omega
theorem StepIs.unique {day n unit : Int} {cl : List Int} {r e r' e' : Int} (h : StepIs day n unit cl r e) (h' : StepIs day n unit cl r' e') : r = r' ∧ e = e' := by
  unfold StepIs at h h'
  split at h
  · rename_i h1; rw [if_pos h1] at h'; omega
  · rename_i h1
    rw [if_neg h1] at h'
    split at h
    · rename_i h2; rw [if_pos h2] at h'; omega
    · rename_i h2
      rw [if_neg h2] at h'
      split at h
      · rename_i h3; rw [if_pos h3] at h'; exact h.unique h'
      · rename_i h3
        rw [if_neg h3] at h'
        split at h
        · rename_i h4; rw [if_pos h4] at h'; exact h.unique h'
        · rename_i h4
          rw [if_neg h4] at h'
          exact ⟨h.1.trans h'.1.symm, h.2.trans h'.2.symm⟩
theorem AddIs.unique {day n unit : Int} {cl : List Int} {r e r' e' : Int} (h : AddIs day n unit cl r e) (h' : AddIs day n unit cl r' e') : r = r' ∧ e = e' := by
  unfold AddIs at h h'
  split at h
  · rename_i h1
    rw [if_pos h1] at h'
    split at h
    · rename_i h2; rw [if_pos h2] at h'; omega
    · rename_i h2
      rw [if_neg h2] at h'
      obtain ⟨x, f, hs, h⟩ := h
      obtain ⟨x', f', hs', h'⟩ := h'
      obtain ⟨rfl, rfl⟩ := hs.unique hs'
      split at h
      · rename_i h3; rw [if_pos h3] at h'; omega
      · rename_i h3; rw [if_neg h3] at h'; omega
  · rename_i h1; rw [if_neg h1] at h'; omega
theorem DueIs.unique {l : Lim} {cl : List Int} {r e r' e' : Int} (h : DueIs l cl r e) (h' : DueIs l cl r' e') : r = r' ∧ e = e' := by
  unfold DueIs at h h'
  split at h
  · rename_i h1
    rw [if_pos h1] at h'
    obtain ⟨a, f, ha, h⟩ := h
    obtain ⟨a', f', ha', h'⟩ := h'
    obtain ⟨rfl, rfl⟩ := ha.unique ha'
    split at h
    · rename_i h2
      rw [if_pos h2] at h'
      obtain ⟨D, hD, h⟩ := h
      obtain ⟨D', hD', h'⟩ := h'
      obtain rfl := hD.unique hD'
      split at h
      · rename_i h3; rw [if_pos h3] at h'; omega
      · rename_i h3; rw [if_neg h3] at h'; omega
    · rename_i h2; rw [if_neg h2] at h'; omega
  · rename_i h1; rw [if_neg h1] at h'; omega

/-! ### the examples -/
def termL (n : Int) (ss : Stops) : Lim := ⟨⟨#[108]⟩, n, 1, 2, ss⟩
def exS : S31 := ⟨4, 6⟩
def dayL (fr n : Int) (ss : Stops) : Lim := ⟨⟨#[108]⟩, n, 1, fr, ss⟩
theorem day_due {fr n : Int} {ss : Stops} {a r : Int} {k : Nat} (hp : (dayL fr n ss).proper = true) (ha : fromD [] (fr + n) = a) (ha1 : a ≤ 1000000) (hn : dayB (fr + n) = true) (hc : cntF (fun d => !(dayL fr n ss).paused d) fr k = (a - fr).toNat) (hk : k ≠ 0 → (!(dayL fr n ss).paused (fr + k)) = true)
    (ho : openD (dayL fr n ss) [] (fr + k) = r) (hr : r ≤ 1000000) : DueIs (dayL fr n ss) [] r 0 := by
  obtain ⟨-, hfr, hnu, -⟩ := Lim.proper_iff.1 hp
  unfold DueIs
  rw [if_pos hp]
  refine ⟨a, 0, ?_, ?_⟩
  · unfold AddIs
    rw [if_pos (by rw [dayB_iff.2 hfr, termB_iff.2 hnu]; rfl), if_neg (by simp)]
    refine ⟨fr + n, 0, StepIs.u1 fr n [], ?_⟩
    rw [if_pos ⟨rfl, hn, by rw [ha]; exact ha1⟩]
    exact ⟨ha.symm, rfl⟩
  · rw [if_pos rfl]
    refine ⟨fr + k, ⟨k, rfl, hc, hk⟩, ?_⟩
    rw [if_pos (by rw [ho]; exact hr)]
    exact ⟨ho.symm, rfl⟩
theorem ex1 : DueIs (termL 3 []) [] 5 0 := day_due (k := 3) (a := 5) (by decide +kernel) (by decide +kernel) (by omega) (by decide +kernel) (by decide +kernel) (by decide +kernel) (by decide +kernel) (by omega)
theorem ex2 : DueIs (termL 5 []) [] 9 0 := day_due (k := 7) (a := 9) (by decide +kernel) (by decide +kernel) (by omega) (by decide +kernel) (by decide +kernel) (by decide +kernel) (by decide +kernel) (by omega)
theorem ex3 : DueIs (termL 3 [exS]) [] 9 0 := day_due (k := 5) (a := 5) (by decide +kernel) (by decide +kernel) (by omega) (by decide +kernel) (by decide +kernel) (by decide +kernel) (by decide +kernel) (by omega)
theorem ex4 : DueIs (termL 1 [exS]) [] 3 0 := day_due (k := 1) (a := 3) (by decide +kernel) (by decide +kernel) (by omega) (by decide +kernel) (by decide +kernel) (by decide +kernel) (by decide +kernel) (by omega)
theorem ex5 : DueIs (dayL 4 2 [exS]) [] 9 0 := day_due (k := 3) (a := 6) (by decide +kernel) (by decide +kernel) (by omega) (by decide +kernel) (by decide +kernel) (by decide +kernel) (by decide +kernel) (by omega)
end Go.Proofs.Ytioofhmkeajkpaa

/-
  Contracts: term; head (the examples of the chapter).
-/
namespace Go.Proofs.Ytioofhmkeajkpaa
open Go Go.RowKit PLimitMatchesReference Go.Proofs.YtioofhmkeajkpaaW.PrintWords

attribute [local irreducible] World.cell? World.frozen? isAggB _root_.Go.Program.underlying

set_option maxRecDepth 100000 in
theorem term_contract (w : World) (n : Int) (ad : Option Addr) (m c : Nat) :
    Calls Try.prog 26 #[.int .i64 n, .slice ad m c] w fun e w' => e = .returned (.agg #[.string ⟨#[108]⟩, .int .i64 n, .int .i64 1, .int .i64 2, .slice ad m c]) ∧ Ext w w' := by
  go_enter Try.func26, Try.ntmps26
  go_wp2_with fail
  exact bodyPost_ret (results_cell (vs := [.string ⟨#[108]⟩, .int .i64 n, .int .i64 1, .int .i64 2, .slice ad m c]) Try.results26 rfl Try.ag26 Try.sz26 (blk_cells (obj_new w _))) rfl ⟨rfl, Ext.alloc w _⟩
theorem term0 (w : World) (n : Int) : LimAt w (termL n []) (.slice none 0 0) := ⟨RL.nil w, by simp [termL], show (1 : Nat) ≤ 4611686018427387904 by omega⟩
theorem exS_ok : stopB exS = true := by decide
def Left9 : Prop := leftD (termL 3 [exS]) 3 9 = 5
theorem left9 : Left9 := by unfold Left9; decide +kernel
theorem changeOk9 : changeOk (termL 3 [exS]) 4 1 1 2 = true := by decide +kernel
theorem proper3 : (termL 3 []).proper = true := by decide +kernel

theorem change9 {m : Lim} {f : Int} (h : ChangeIs (termL 3 [exS]) 4 1 1 2 [] m f) : dayL 4 2 [exS] = m ∧ 0 = f := by
  unfold ChangeIs at h
  rw [if_pos changeOk9] at h
  obtain ⟨due, e, hd, h⟩ := h
  obtain ⟨rfl, rfl⟩ := ex3.unique hd
  rw [if_neg (by simp), if_neg (by omega)] at h
  obtain ⟨due1, e1, hd1, h⟩ := h
  obtain ⟨rfl, rfl⟩ := ex4.unique hd1
  rw [if_neg (by simp), if_pos (by omega)] at h
  obtain ⟨due2, e2, hd2, h⟩ := h
  obtain ⟨rfl, rfl⟩ := ex5.unique hd2
  rw [if_neg (by simp)] at h
  exact ⟨h.1.symm, h.2.symm⟩
theorem left9' {r f : Int} (h : LeftIs (termL 3 [exS]) 3 [] r f) : 5 = r ∧ 0 = f := by
  unfold LeftIs at h
  rw [if_pos (by decide)] at h
  obtain ⟨due, e, hd, h⟩ := h
  obtain ⟨rfl, rfl⟩ := ex3.unique hd
  rw [if_pos rfl] at h
  have := left9
  unfold Left9 at this
  rw [this] at h
  exact ⟨h.1.symm, h.2.symm⟩
theorem pause9 {m : Lim} {f : Int} (h : PauseIs (termL 3 []) exS m f) : termL 3 [exS] = m ∧ 0 = f := by
  unfold PauseIs at h
  rw [if_pos (by rw [proper3, exS_ok]; rfl), if_neg (by simp [termL])] at h
  exact ⟨h.1.symm, h.2.symm⟩

set_option maxRecDepth 100000 in
set_option maxHeartbeats 8000000 in
theorem head_contract (w : World) : Calls Try.prog 10 #[] w fun e w' => e = .returned (.bool true) ∧ Ext w w' := by
  go_enter Try.func10, Try.ntmps10
  ((first | go_at_call 26 | (go_wp2_with fail; go_at_call 26)); refine (term_contract w 3 none 0 0).mono ?_; rintro _ w1 ⟨rfl, x1⟩)
  ((first | go_at_call 12 | (go_wp2_with fail; go_at_call 12)); refine (due_contract (term0 w1 3) (RL.nil w1) (fun x h => by cases h) (by simp)).mono ?_; rintro _ w2 ⟨r, f, rfl, hd, x2⟩)
  obtain ⟨rfl, rfl⟩ := ex1.unique hd
  clear hd
  have hE := x1.then_ext x2
  clear x1 x2
  ((first | go_at_call 26 | (go_wp2_with fail; go_at_call 26)); refine (term_contract _ 5 none 0 0).mono ?_; rintro _ w3 ⟨rfl, x3⟩)
  ((first | go_at_call 12 | (go_wp2_with fail; go_at_call 12)); refine (due_contract (term0 w3 5) (RL.nil w3) (fun x h => by cases h) (by simp)).mono ?_; rintro _ w4 ⟨r, f, rfl, hd, x4⟩)
  obtain ⟨rfl, rfl⟩ := ex2.unique hd
  clear hd
  replace hE := (hE.then_ext x3).then_ext x4
  clear x3 x4
  go_wp2_with (first
    | ((with_reducible change wpList _ _ _ (Oper.mk _ (Op.buildSlice _ _ _) _ _ _ _ :: _) _ _); refine BigFrame.wpList_want rfl (fun K hK => ?_); refine op_buildN (vs := [.int .i64 4, .int .i64 6]) rfl rfl Try.underlying24 (info_parts Try.in31).choose_spec.1 (info_parts Try.in31).choose_spec.2.1 (info_parts Try.in31).choose_spec.2.2.1 rfl (by simp) (by simp) ?_; intro vT wT rT fT xT; refine hK _ _ ?_; clear hK K))
  replace rT : Row wT 31 2 vT [.int .i64 4, .int .i64 6] := rT
  obtain ⟨adT, cT, rfl, hcT, hmT⟩ := rT.len (n := 1) (by omega) rfl
  have hST : RStops wT (.slice adT 1 cT) [exS] := RL.of_row rT (by omega) rfl (fun _ => rfl)
  replace hE := hE.then_ext xT
  clear xT fT rT
  ((first | go_at_call 26 | (go_wp2_with fail; go_at_call 26)); refine (term_contract wT 3 adT 1 cT).mono ?_; rintro _ w5 ⟨rfl, x5⟩)
  replace hE := hE.then_ext x5
  replace hST := hST.ext x5
  have hLim : ∀ {W}, RStops W (.slice adT 1 cT) [exS] → LimAt W (termL 3 [exS]) (.slice adT 1 cT) := fun {W} h => ⟨h, by simp [termL], show (1 : Nat) ≤ 4611686018427387904 by omega⟩
  have bS := Blk.alloc' w5 #[.string ⟨#[108]⟩, .int .i64 3, .int .i64 1, .int .i64 2, .slice adT 1 cT] 26
  have hE5 := hE.then_ext (Ext.alloc w5 (.cells #[.string ⟨#[108]⟩, .int .i64 3, .int .i64 1, .int .i64 2, .slice adT 1 cT] 26))
  have hS5 := hST.ext (Ext.alloc w5 (.cells #[.string ⟨#[108]⟩, .int .i64 3, .int .i64 1, .int .i64 2, .slice adT 1 cT] 26))
  clear hST x5 hE
  ((first | go_at_call 12 | (go_wp2_with fail; go_at_call 12)); refine (due_contract (hLim hS5) (RL.nil _) (fun x h => by cases h) (by simp)).mono ?_; rintro _ w6 ⟨r, f, rfl, hd, x6⟩)
  obtain ⟨rfl, rfl⟩ := ex3.unique hd
  have bS6 := bS.ext x6
  have hS6 := hS5.ext x6
  have hE6 := hE5.then_ext x6
  clear hd x6 bS hS5 hE5
  ((first | go_at_call 20 | (go_wp2_with (first | ((with_reducible change wpList _ _ _ (Oper.mk _ (Op.load _ _) _ _ _ _ :: _) _ _); refine BigFrame.wpList_want rfl (fun K hK => ?_); refine op_loadN (p := ⟨w5.heap.size, 0, none⟩) (vs := [.string ⟨#[108]⟩, .int .i64 3, .int .i64 1, .int .i64 2, .slice adT 1 cT]) rfl rfl Try.ag26 Try.sz26 (blk_cells bS6) ?_; refine hK _ _ ?_; clear hK K)); go_at_call 20)); refine (change_contract (hLim hS6) (RL.nil _) (fun x h => by cases h) (by simp) 4 1 1 2).mono ?_; rintro _ w7 ⟨m, f, v, hch, rfl, hvs, x7⟩)
  obtain ⟨rfl, rfl⟩ := change9 hch
  obtain ⟨ad8, c8, rfl⟩ : ∃ ad c, v = .slice ad 1 c := hvs.slice
  rw [show limCells (dayL 4 2 [exS]) (.slice ad8 1 c8) = [.string ⟨#[108]⟩, .int .i64 2, .int .i64 1, .int .i64 4, .slice ad8 1 c8] from rfl]
  have bS7 := bS6.ext x7
  have hS7 := hS6.ext x7
  have hE7 := hE6.then_ext x7
  clear hch x7 bS6 hS6 hE6
  have hX : ∀ {W}, RStops W (.slice ad8 1 c8) [exS] → LimAt W (dayL 4 2 [exS]) (.slice ad8 1 c8) := fun {W} h => ⟨h, by simp [dayL], show (1 : Nat) ≤ 4611686018427387904 by omega⟩
  have bX := Blk.alloc' w7 #[.string ⟨#[108]⟩, .int .i64 2, .int .i64 1, .int .i64 4, .slice ad8 1 c8] 26
  have hXv := hvs.ext (Ext.alloc w7 (.cells #[.string ⟨#[108]⟩, .int .i64 2, .int .i64 1, .int .i64 4, .slice ad8 1 c8] 26))
  have bS8 := bS7.ext (Ext.alloc w7 (.cells #[.string ⟨#[108]⟩, .int .i64 2, .int .i64 1, .int .i64 4, .slice ad8 1 c8] 26))
  have hS8 := hS7.ext (Ext.alloc w7 (.cells #[.string ⟨#[108]⟩, .int .i64 2, .int .i64 1, .int .i64 4, .slice ad8 1 c8] 26))
  have hE8 := hE7.then_ext (Ext.alloc w7 (.cells #[.string ⟨#[108]⟩, .int .i64 2, .int .i64 1, .int .i64 4, .slice ad8 1 c8] 26))
  clear bS7 hS7 hE7 hvs
  ((first | go_at_call 12 | (go_wp2_with fail; go_at_call 12)); refine (due_contract (hX hXv) (RL.nil _) (fun x h => by cases h) (by simp)).mono ?_; rintro _ w9 ⟨r, f, rfl, hd, x9⟩)
  obtain ⟨rfl, rfl⟩ := ex5.unique hd
  replace bX := bX.ext x9
  replace bS8 := bS8.ext x9
  replace hS8 := hS8.ext x9
  replace hE8 := hE8.then_ext x9
  clear hd x9 hXv
  ((first | go_at_call 13 | (go_wp2_with (first | ((with_reducible change wpList _ _ _ (Oper.mk _ (Op.load _ _) _ _ _ _ :: _) _ _); refine BigFrame.wpList_want rfl (fun K hK => ?_); refine op_loadN (p := ⟨w5.heap.size, 0, none⟩) (vs := [.string ⟨#[108]⟩, .int .i64 3, .int .i64 1, .int .i64 2, .slice adT 1 cT]) rfl rfl Try.ag26 Try.sz26 (blk_cells bS8) ?_; refine hK _ _ ?_; clear hK K)); go_at_call 13)); refine (left_contract (hLim hS8) (RL.nil _) (fun x h => by cases h) (by simp) 3).mono ?_; rintro _ w10 ⟨r, f, rfl, hd, x10⟩)
  obtain ⟨rfl, rfl⟩ := left9' hd
  replace bX := bX.ext x10
  replace bS8 := bS8.ext x10
  replace hS8 := hS8.ext x10
  replace hE8 := hE8.then_ext x10
  clear hd x10
  ((first | go_at_call 26 | (go_wp2_with fail; go_at_call 26)); refine (term_contract _ 3 none 0 0).mono ?_; rintro _ w11 ⟨rfl, x11⟩)
  ((first | go_at_call 18 | (go_wp2_with fail; go_at_call 18)); refine (pause_contract (term0 w11 3) exS).mono ?_; rintro _ w12 ⟨m, f, v, hpi, rfl, hvs, x12⟩)
  obtain ⟨rfl, rfl⟩ := pause9 hpi
  obtain ⟨ad9, c9, rfl⟩ : ∃ ad c, v = .slice ad 1 c := hvs.slice
  rw [show limCells (termL 3 [exS]) (.slice ad9 1 c9) = [.string ⟨#[108]⟩, .int .i64 3, .int .i64 1, .int .i64 2, .slice ad9 1 c9] from rfl]
  replace bX := (bX.ext x11).ext x12
  replace bS8 := (bS8.ext x11).ext x12
  replace hS8 := (hS8.ext x11).ext x12
  replace hE8 := (hE8.then_ext x11).then_ext x12
  clear hpi x11 x12
  have hY : ∀ {W}, RStops W (.slice ad9 1 c9) [exS] → LimAt W (termL 3 [exS]) (.slice ad9 1 c9) := fun {W} h => ⟨h, by simp [termL], show (1 : Nat) ≤ 4611686018427387904 by omega⟩
  have bY := Blk.alloc' w12 #[.string ⟨#[108]⟩, .int .i64 3, .int .i64 1, .int .i64 2, .slice ad9 1 c9] 26
  replace hvs := hvs.ext (Ext.alloc w12 (.cells #[.string ⟨#[108]⟩, .int .i64 3, .int .i64 1, .int .i64 2, .slice ad9 1 c9] 26))
  replace bX := bX.ext (Ext.alloc w12 (.cells #[.string ⟨#[108]⟩, .int .i64 3, .int .i64 1, .int .i64 2, .slice ad9 1 c9] 26))
  replace bS8 := bS8.ext (Ext.alloc w12 (.cells #[.string ⟨#[108]⟩, .int .i64 3, .int .i64 1, .int .i64 2, .slice ad9 1 c9] 26))
  replace hS8 := hS8.ext (Ext.alloc w12 (.cells #[.string ⟨#[108]⟩, .int .i64 3, .int .i64 1, .int .i64 2, .slice ad9 1 c9] 26))
  replace hE8 := hE8.then_ext (Ext.alloc w12 (.cells #[.string ⟨#[108]⟩, .int .i64 3, .int .i64 1, .int .i64 2, .slice ad9 1 c9] 26))
  ((first | go_at_call 22 | (go_wp2_with (first | ((with_reducible change wpList _ _ _ (Oper.mk _ (Op.load _ _) _ _ _ _ :: _) _ _); refine BigFrame.wpList_want rfl (fun K hK => ?_); refine op_load1 rfl rfl Try.ag3 (bX.cell (i := 3) rfl) ?_; refine hK _ _ ?_; clear hK K) | ((with_reducible change wpList _ _ _ (Oper.mk _ (Op.load _ _) _ _ _ _ :: _) _ _); refine BigFrame.wpList_want rfl (fun K hK => ?_); refine op_load1 rfl rfl Try.ag3 (bX.cell (i := 1) rfl) ?_; refine hK _ _ ?_; clear hK K) | ((with_reducible change wpList _ _ _ (Oper.mk _ (Op.load _ _) _ _ _ _ :: _) _ _); refine BigFrame.wpList_want rfl (fun K hK => ?_); refine op_loadN (p := ⟨w5.heap.size, 0, none⟩) (vs := [.string ⟨#[108]⟩, .int .i64 3, .int .i64 1, .int .i64 2, .slice adT 1 cT]) rfl rfl Try.ag26 Try.sz26 (blk_cells bS8) ?_; refine hK _ _ ?_; clear hK K)); go_at_call 22)); refine (same_true (hY hvs) (hLim hS8)).mono ?_; rintro _ w13 ⟨rfl, x13⟩)
  go_wp2_with fail
  go_ret
  exact ⟨rfl, hE8.then_ext x13⟩
end Go.Proofs.Ytioofhmkeajkpaa

/-
  The arguments of the laws, opened; the frame of the laws' proofs.
-/
namespace Go.Proofs.Ytioofhmkeajkpaa
open Go Go.RowKit Go.ChangeShapes Go.WideShapes Go.ChangeAt Go.Deep PLimitMatchesReference Go.Proofs.YtioofhmkeajkpaaW.PrintWords

instance instInhS31 : Inhabited S31 := ⟨⟨0, 0⟩⟩
theorem Try.cells31 : Try.prog.cellsOf 31 = 2 := by kernel_rfl
theorem Try.cells3 : Try.prog.cellsOf 3 = 1 := by kernel_rfl
theorem Try.cells9 : Try.prog.cellsOf 9 = 1 := by kernel_rfl
theorem Try.cells23 : Try.prog.cellsOf 23 = 2 := by kernel_rfl
theorem Try.cells24 : Try.prog.cellsOf 24 = 1 := by kernel_rfl
theorem Try.cells26 : Try.prog.cellsOf 26 = 5 := by kernel_rfl
section
variable {H : Type} {enc : TypeId × Value → H} {w : World} {base : Nat} {spare : Nat → Bool} {held : Bool} {n : Nat}
theorem i64_bd {a : Int} (h : (Lit.int .i64 a).wf = true) : -9223372036854775808 ≤ a ∧ a ≤ 9223372036854775807 := by
  simp [Lit.wf, IntKind.min, IntKind.max, IntKind.signed, IntKind.bits] at h
  omega
set_option maxRecDepth 100000 in
theorem open_two {t : TypeId} {f0 f1 : Field} (ht : Try.prog.underlying t = some (.struct #[f0, f1])) (h0 : f0.type = 3 ∧ f0.offset = 0) (h1 : f1.type = 3 ∧ f1.offset = 1) (hc : Try.prog.cellsOf t = 2) {cs : List Value} {x : DataW H × List MemPlace}
    (h : DataW.trod enc Try.prog w base spare held n t cs = some x) : ∃ a b : Int, (Lit.int .i64 a).wf = true ∧ (Lit.int .i64 b).wf = true ∧ cs = [.int .i64 a, .int .i64 b] := by
  obtain ⟨xs, k, hk, hxy, hl, hxl, hf⟩ := DataW.trod_struct ht h
  rw [hc] at hl
  match xs, hxl, cs, hl with
  | [y0, y1], _, [v0, v1], _ =>
    have g0 := hf 0 _ rfl
    have g1 := hf 1 _ rfl
    simp [h0, h1, Try.cells3] at g0 g1
    obtain ⟨n0, e0, _, w0⟩ := DataW.trod_int Try.underlying3 g0
    obtain ⟨n1, e1, _, w1⟩ := DataW.trod_int Try.underlying3 g1
    simp only [List.cons.injEq, and_true] at e0 e1
    subst e0 e1
    exact ⟨n0, n1, w0, w1, rfl⟩
def S31.ok (s : S31) : Prop := (Lit.int .i64 s.f0).wf = true ∧ (Lit.int .i64 s.f1).wf = true
theorem open_stops {cs : List Value} {x : DataW H × List MemPlace} (h : DataW.trod enc Try.prog w base (fun _ => true) held n 24 cs = some x) : ∃ v l, cs = [v] ∧ RStops w v l := by
  rcases open_slice Try.underlying24 h with ⟨hcs, _⟩ | ⟨a0, len0, cap0, m, n, D, Pl, hcs, _, hl, hm, hmm, _, hx⟩
  · exact ⟨_, [], hcs, RL.nil w⟩
  · simp only [if_true] at hmm
    subst hmm
    rw [Try.cells31] at hx
    obtain ⟨f, hfo⟩ := choose_lt (p := fun i (o : S31) => ∀ (j : Nat) (u : Value), (stopC o)[j]? = some u → w.cell? (a0.add (i * 2 + j)) = some u) (fun i (hi : i < m) => by
      obtain ⟨cs', h1, h2⟩ := hx i hi
      obtain ⟨a, b, wa, wb, rfl⟩ := open_two Try.underlying31 ⟨rfl, rfl⟩ ⟨rfl, rfl⟩ Try.cells31 h2
      refine ⟨⟨a, b⟩, fun j u hj => ?_⟩
      obtain ⟨_, hlen, hcell⟩ := World.cells?_some h1
      have hj2 : j < 2 := by
        have := (List.getElem?_eq_some_iff.1 hj).1
        simpa [stopC] using this
      rw [← add_twice, hcell j hj2]
      exact hj)
    refine ⟨_, (List.range len0).map f, hcs, ⟨some a0, m, by simp, by simpa using hl, hm, fun _ => by simp, fun a ha i o ho j u hj => ?_⟩⟩
    injection ha with ha
    subst ha
    have hi : i < len0 := by
      have := (List.getElem?_eq_some_iff.1 ho).1
      simpa using this
    simp [hi] at ho
    subst ho
    exact hfo i (by omega) j u hj
theorem open_closed {cs : List Value} {x : DataW H × List MemPlace} (h : DataW.trod enc Try.prog w base (fun _ => true) held n 27 cs = some x) : ∃ v l, cs = [v] ∧ RInts w v l ∧ ∀ x ∈ l, (Lit.int .i64 x).wf = true := by
  rcases open_slice Try.underlying27 h with ⟨hcs, _⟩ | ⟨a0, len0, cap0, m, n, D, Pl, hcs, _, hl, hm, hmm, _, hx⟩
  · exact ⟨_, [], hcs, RL.nil w, by simp⟩
  · simp only [if_true] at hmm
    subst hmm
    rw [Try.cells3] at hx
    obtain ⟨f, hfo⟩ := choose_lt (p := fun i (o : Int) => (Lit.int .i64 o).wf = true ∧ ∀ (j : Nat) (u : Value), (intC o)[j]? = some u → w.cell? (a0.add (i * 1 + j)) = some u) (fun i (hi : i < m) => by
      obtain ⟨cs', h1, h2⟩ := hx i hi
      obtain ⟨n0, rfl, _, w0⟩ := DataW.trod_int Try.underlying3 h2
      refine ⟨n0, w0, fun j u hj => ?_⟩
      obtain ⟨_, hlen, hcell⟩ := World.cells?_some h1
      have hj2 : j < 1 := by
        have := (List.getElem?_eq_some_iff.1 hj).1
        simpa [intC] using this
      rw [← add_twice, hcell j hj2]
      exact hj)
    refine ⟨_, (List.range len0).map f, hcs, ⟨some a0, m, by simp, by simpa using hl, hm, fun _ => by simp, fun a ha i o ho j u hj => ?_⟩, fun o ho => ?_⟩
    · injection ha with ha
      subst ha
      have hi : i < len0 := by
        have := (List.getElem?_eq_some_iff.1 ho).1
        simpa using this
      simp [hi] at ho
      subst ho
      exact (hfo i (by omega)).2 j u hj
    · obtain ⟨i, hi, rfl⟩ := List.mem_map.1 ho
      exact (hfo i (by have := List.mem_range.1 hi; omega)).1
/-- The numbers of a limit are whole numbers of the machine. -/
def Lim.ok (l : Lim) : Prop := (Lit.int .i64 l.n).wf = true ∧ (Lit.int .i64 l.unit).wf = true ∧ (Lit.int .i64 l.fr).wf = true
set_option maxRecDepth 100000 in
theorem open_limit {cs : List Value} {x : DataW H × List MemPlace} (h : DataW.trod enc Try.prog w base (fun _ => true) held n 26 cs = some x) : ∃ v l, cs = limCells l v ∧ RStops w v l.stops ∧ l.ok := by
  obtain ⟨xs, k, hk, hxy, hl, hxl, hf⟩ := DataW.trod_struct Try.underlying26 h
  rw [Try.cells26] at hl
  match xs, hxl, cs, hl with
  | [y0, y1, y2, y3], _, [v0, v1, v2, v3, v4], _ =>
    have g0 := hf 0 _ rfl
    have g1 := hf 1 _ rfl
    have g2 := hf 2 _ rfl
    have g3 := hf 3 _ rfl
    simp [Try.cells9, Try.cells23, Try.cells3, Try.cells24] at g0 g1 g2 g3
    obtain ⟨s0, e0, _, _⟩ := DataW.trod_string Try.underlying9 g0
    obtain ⟨a, b, wa, wb, e1⟩ := open_two Try.underlying23 ⟨rfl, rfl⟩ ⟨rfl, rfl⟩ Try.cells23 g1
    obtain ⟨n2, e2, _, w2⟩ := DataW.trod_int Try.underlying3 g2
    obtain ⟨v, l, e3, hs⟩ := open_stops g3
    simp only [List.cons.injEq, and_true] at e0 e1 e2 e3
    obtain ⟨e1, e1'⟩ := e1
    subst e0 e1 e1' e2 e3
    exact ⟨_, ⟨s0, a, b, n2, l⟩, rfl, hs, wa, wb, w2⟩
end
theorem Try.own : ownKnob Try.prog.godebug = none := by kernel_rfl
theorem Try.laidOut : laidOutB Try.prog = true := by kernel_rfl
end Go.Proofs.Ytioofhmkeajkpaa

/-
  LimitBare: the walk and its law.
-/
namespace Go.Proofs.Ytioofhmkeajkpaa
open Go Go.RowKit PLimitMatchesReference Go.Proofs.YtioofhmkeajkpaaW.PrintWords

attribute [local irreducible] World.cell? World.frozen? isAggB _root_.Go.Program.underlying

/-- The limit without stops. -/
def Lim.bare (l : Lim) : Lim := { l with stops := [] }
theorem bare_law {l : Lim} (hs : l.stops = []) {cl : List Int} {a e b f : Int} (h : DueIs l cl a e) (h' : AddIs l.fr l.n l.unit cl b f) : if l.proper then a = b ∧ e = f else a = 0 ∧ e = 1 := by
  unfold DueIs at h
  split at h
  · rename_i hp
    rw [if_pos hp]
    obtain ⟨b', f', ha, h⟩ := h
    obtain ⟨rfl, rfl⟩ := ha.unique h'
    split at h
    · rename_i hf
      subst hf
      obtain ⟨D, ⟨k, rfl, hc, hk⟩, h⟩ := h
      have hnp : ∀ x, l.paused x = false := fun x => by unfold Lim.paused pausedB; rw [hs]; simp
      rw [cntF_all (fun x _ _ => by rw [hnp]; rfl)] at hc
      have ho := ha.out
      have hD : l.fr + (k : Int) = b' := by omega
      rw [hD] at h
      have hw : workB cl b' = true := by
        rcases ho with ⟨_, _, _, _, hw⟩ | ⟨_, h1⟩
        · exact hw
        · omega
      have hop : openD l cl b' = b' := by
        unfold openD
        obtain ⟨n, hn⟩ : ∃ n, (1000001 - b').toNat = n + 1 := ⟨(1000000 - b').toNat, by omega⟩
        rw [hn, firstF, hnp, hw]
        rfl
      rw [hop, if_pos (by omega)] at h
      omega
    · rename_i hf
      rcases ha.out with ⟨h0, _⟩ | ⟨h0, _⟩
      · exact absurd h0 hf
      · omega
  · rename_i hp
    rw [if_neg hp]
    exact h

theorem Try.sz24 : (Try.prog.info? 24).map (·.size) = some 1 := by kernel_rfl
set_option maxRecDepth 100000 in
set_option maxHeartbeats 4000000 in
theorem bare_walk {w : World} {l : Lim} {v vc : Value} {cl : List Int} (_ : RStops w v l.stops) (_ : l.ok) (hv : RInts w vc cl) (hok : ∀ x ∈ cl, (Lit.int .i64 x).wf = true) :
    Calls Try.prog 6 #[.agg (limCells l v).toArray, vc] w fun e w' => e = .returned (.bool true) ∧ Ext w w' := by
  have hok' := Lib.hid hok
  clear hok
  have hfe := fun W (hE : Ext w W) => few_contract (l := l.bare) (RL.nil W) (hv.ext hE)
  cases hfw : fewB l.bare cl with
  | false =>
    simp only [hfw] at hfe
    replace hfe := Lib.hid hfe
    clear hfw
    unfold limCells at hfe ⊢
    go_enter Try.func6, Try.ntmps6
    ((first | go_at_call 10 | (go_wp2_with fail; go_at_call 10)); refine (head_contract _).mono ?_; rintro _ w1 ⟨rfl, x1⟩)
    have b1 := (Blk.alloc' w #[.string l.id, .int .i64 l.n, .int .i64 l.unit, .int .i64 l.fr, v] 26).ext x1
    ((first | go_at_call 11 | (go_wp2_with (first | ((with_reducible change wpList _ _ _ (Oper.mk _ (Op.store _ _ _) _ _ _ _ :: _) _ _); refine BigFrame.wpList_want rfl (fun K hK => ?_); refine op_store1 (g := w.heap.size) (i := 4) (T := 26) (cs := #[.string l.id, .int .i64 l.n, .int .i64 l.unit, .int .i64 l.fr, v]) (v := .slice none 0 0) rfl rfl rfl Try.sz24 rfl b1 (by simp) ?_; intro w2 k2 t2 z2; refine hK _ _ ?_; clear hK K) | ((with_reducible change wpList _ _ _ (Oper.mk _ (Op.load _ _) _ _ _ _ :: _) _ _); refine BigFrame.wpList_want rfl (fun K hK => ?_); refine op_loadN (p := ⟨w.heap.size, 0, none⟩) (vs := [.string l.id, .int .i64 l.n, .int .i64 l.unit, .int .i64 l.fr, .slice none 0 0]) rfl rfl Try.ag26 Try.sz26 (blk_cells (show Blk w2 w.heap.size 26 [.string l.id, .int .i64 l.n, .int .i64 l.unit, .int .i64 l.fr, .slice none 0 0].toArray from k2)) ?_; refine hK _ _ ?_; clear hK K)); go_at_call 11)); refine (hfe.out _ (Ext.new (Touch.trans (Touch.of_ext x1) t2 (fun _ _ h => h)))).mono ?_; rintro _ w3 ⟨rfl, x3⟩)
    go_wp2_with fail
    go_ret
    exact ⟨rfl, (Ext.new (Touch.trans (Touch.of_ext x1) t2 (fun _ _ h => h))).then_ext x3⟩
  | true =>
    obtain ⟨-, hid, -, -, hcl⟩ := fewB_out hfw
    have hat : ∀ W, LimAt W l.bare (.slice none 0 0) := fun W => ⟨RL.nil W, by simp [Lim.bare], Nat.le_trans hid (by omega)⟩
    have hdu := fun W (hE : Ext w W) => due_contract (hat W) (hv.ext hE) hok'.out (by omega)
    have had := fun W (hE : Ext w W) => add_contract (hv.ext hE) hok'.out (by omega) l.fr l.n l.unit
    have hpr := fun W => refProper_contract (hat W)
    have hlaw := fun a e b f h h' => bare_law (l := l.bare) rfl (cl := cl) (a := a) (e := e) (b := b) (f := f) h h'
    replace hlaw := Lib.hid hlaw
    replace hdu := Lib.hid hdu
    replace had := Lib.hid had
    clear hat hid hcl
    simp only [hfw] at hfe
    replace hfe := Lib.hid hfe
    clear hfw
    cases hp : l.bare.proper with
    | false =>
      simp only [hp] at hpr hlaw
      replace hpr := Lib.hid hpr
      clear hp
      unfold limCells at hfe hdu hpr ⊢
      go_enter Try.func6, Try.ntmps6
      ((first | go_at_call 10 | (go_wp2_with fail; go_at_call 10)); refine (head_contract _).mono ?_; rintro _ w1 ⟨rfl, x1⟩)
      have b1 := (Blk.alloc' w #[.string l.id, .int .i64 l.n, .int .i64 l.unit, .int .i64 l.fr, v] 26).ext x1
      ((first | go_at_call 11 | (go_wp2_with (first | ((with_reducible change wpList _ _ _ (Oper.mk _ (Op.store _ _ _) _ _ _ _ :: _) _ _); refine BigFrame.wpList_want rfl (fun K hK => ?_); refine op_store1 (g := w.heap.size) (i := 4) (T := 26) (cs := #[.string l.id, .int .i64 l.n, .int .i64 l.unit, .int .i64 l.fr, v]) (v := .slice none 0 0) rfl rfl rfl Try.sz24 rfl b1 (by simp) ?_; intro w2 k2 t2 z2; refine hK _ _ ?_; clear hK K) | ((with_reducible change wpList _ _ _ (Oper.mk _ (Op.load _ _) _ _ _ _ :: _) _ _); refine BigFrame.wpList_want rfl (fun K hK => ?_); refine op_loadN (p := ⟨w.heap.size, 0, none⟩) (vs := [.string l.id, .int .i64 l.n, .int .i64 l.unit, .int .i64 l.fr, .slice none 0 0]) rfl rfl Try.ag26 Try.sz26 (blk_cells (show Blk w2 w.heap.size 26 [.string l.id, .int .i64 l.n, .int .i64 l.unit, .int .i64 l.fr, .slice none 0 0].toArray from k2)) ?_; refine hK _ _ ?_; clear hK K)); go_at_call 11)); refine (hfe.out _ (Ext.new (Touch.trans (Touch.of_ext x1) t2 (fun _ _ h => h)))).mono ?_; rintro _ w3 ⟨rfl, x3⟩)
      have b3 := (show Blk w2 w.heap.size 26 [.string l.id, .int .i64 l.n, .int .i64 l.unit, .int .i64 l.fr, .slice none 0 0].toArray from k2).ext x3
      have hE3 := (Ext.new (Touch.trans (Touch.of_ext x1) t2 (fun _ _ h => h))).then_ext x3
      ((first | go_at_call 12 | (go_wp2_with (first | ((with_reducible change wpList _ _ _ (Oper.mk _ (Op.load _ _) _ _ _ _ :: _) _ _); refine BigFrame.wpList_want rfl (fun K hK => ?_); refine op_loadN (p := ⟨w.heap.size, 0, none⟩) (vs := [.string l.id, .int .i64 l.n, .int .i64 l.unit, .int .i64 l.fr, .slice none 0 0]) rfl rfl Try.ag26 Try.sz26 (blk_cells b3) ?_; refine hK _ _ ?_; clear hK K)); go_at_call 12)); refine (hdu.out _ hE3).mono ?_; rintro _ w4 ⟨a, e, rfl, hda, x4⟩)
      have b4 := b3.ext x4
      have hE4 := hE3.then_ext x4
      ((first | go_at_call 23 | (go_wp2_with (first | ((with_reducible change wpList _ _ _ (Oper.mk _ (Op.load _ _) _ _ _ _ :: _) _ _); refine BigFrame.wpList_want rfl (fun K hK => ?_); refine op_load1 rfl rfl Try.ag3 (b4.cell (i := 3) rfl) ?_; refine hK _ _ ?_; clear hK K) | ((with_reducible change wpList _ _ _ (Oper.mk _ (Op.load _ _) _ _ _ _ :: _) _ _); refine BigFrame.wpList_want rfl (fun K hK => ?_); refine op_loadN (p := ⟨w.heap.size, 1, none⟩) (vs := [.int .i64 l.n, .int .i64 l.unit]) rfl rfl Try.ag23 Try.sz23 (blk_part [.string l.id] [.int .i64 l.n, .int .i64 l.unit] [.int .i64 l.fr, .slice none 0 0] b4) ?_; refine hK _ _ ?_; clear hK K)); go_at_call 23)); refine (had.out _ hE4).mono ?_; rintro _ w5 ⟨b, f, rfl, hab, x5⟩)
      have b5 := b4.ext x5
      have hE5 := hE4.then_ext x5
      have hl := hlaw.out a e b f hda hab
      rw [if_neg (by simp)] at hl
      obtain ⟨rfl, rfl⟩ := hl
      clear hda hab hlaw
      ((first | go_at_call 24 | (go_wp2_with (first | ((with_reducible change wpList _ _ _ (Oper.mk _ (Op.load _ _) _ _ _ _ :: _) _ _); refine BigFrame.wpList_want rfl (fun K hK => ?_); refine op_loadN (p := ⟨w.heap.size, 0, none⟩) (vs := [.string l.id, .int .i64 l.n, .int .i64 l.unit, .int .i64 l.fr, .slice none 0 0]) rfl rfl Try.ag26 Try.sz26 (blk_cells b5) ?_; refine hK _ _ ?_; clear hK K)); go_at_call 24)); refine (hpr.out _).mono ?_; rintro _ w6 ⟨rfl, x6⟩)
      go_wp2_with fail
      go_ret
      exact ⟨rfl, hE5.then_ext x6⟩
    | true =>
      simp only [hp] at hpr hlaw
      replace hpr := Lib.hid hpr
      clear hp
      unfold limCells at hfe hdu hpr ⊢
      go_enter Try.func6, Try.ntmps6
      ((first | go_at_call 10 | (go_wp2_with fail; go_at_call 10)); refine (head_contract _).mono ?_; rintro _ w1 ⟨rfl, x1⟩)
      have b1 := (Blk.alloc' w #[.string l.id, .int .i64 l.n, .int .i64 l.unit, .int .i64 l.fr, v] 26).ext x1
      ((first | go_at_call 11 | (go_wp2_with (first | ((with_reducible change wpList _ _ _ (Oper.mk _ (Op.store _ _ _) _ _ _ _ :: _) _ _); refine BigFrame.wpList_want rfl (fun K hK => ?_); refine op_store1 (g := w.heap.size) (i := 4) (T := 26) (cs := #[.string l.id, .int .i64 l.n, .int .i64 l.unit, .int .i64 l.fr, v]) (v := .slice none 0 0) rfl rfl rfl Try.sz24 rfl b1 (by simp) ?_; intro w2 k2 t2 z2; refine hK _ _ ?_; clear hK K) | ((with_reducible change wpList _ _ _ (Oper.mk _ (Op.load _ _) _ _ _ _ :: _) _ _); refine BigFrame.wpList_want rfl (fun K hK => ?_); refine op_loadN (p := ⟨w.heap.size, 0, none⟩) (vs := [.string l.id, .int .i64 l.n, .int .i64 l.unit, .int .i64 l.fr, .slice none 0 0]) rfl rfl Try.ag26 Try.sz26 (blk_cells (show Blk w2 w.heap.size 26 [.string l.id, .int .i64 l.n, .int .i64 l.unit, .int .i64 l.fr, .slice none 0 0].toArray from k2)) ?_; refine hK _ _ ?_; clear hK K)); go_at_call 11)); refine (hfe.out _ (Ext.new (Touch.trans (Touch.of_ext x1) t2 (fun _ _ h => h)))).mono ?_; rintro _ w3 ⟨rfl, x3⟩)
      have b3 := (show Blk w2 w.heap.size 26 [.string l.id, .int .i64 l.n, .int .i64 l.unit, .int .i64 l.fr, .slice none 0 0].toArray from k2).ext x3
      have hE3 := (Ext.new (Touch.trans (Touch.of_ext x1) t2 (fun _ _ h => h))).then_ext x3
      ((first | go_at_call 12 | (go_wp2_with (first | ((with_reducible change wpList _ _ _ (Oper.mk _ (Op.load _ _) _ _ _ _ :: _) _ _); refine BigFrame.wpList_want rfl (fun K hK => ?_); refine op_loadN (p := ⟨w.heap.size, 0, none⟩) (vs := [.string l.id, .int .i64 l.n, .int .i64 l.unit, .int .i64 l.fr, .slice none 0 0]) rfl rfl Try.ag26 Try.sz26 (blk_cells b3) ?_; refine hK _ _ ?_; clear hK K)); go_at_call 12)); refine (hdu.out _ hE3).mono ?_; rintro _ w4 ⟨a, e, rfl, hda, x4⟩)
      have b4 := b3.ext x4
      have hE4 := hE3.then_ext x4
      ((first | go_at_call 23 | (go_wp2_with (first | ((with_reducible change wpList _ _ _ (Oper.mk _ (Op.load _ _) _ _ _ _ :: _) _ _); refine BigFrame.wpList_want rfl (fun K hK => ?_); refine op_load1 rfl rfl Try.ag3 (b4.cell (i := 3) rfl) ?_; refine hK _ _ ?_; clear hK K) | ((with_reducible change wpList _ _ _ (Oper.mk _ (Op.load _ _) _ _ _ _ :: _) _ _); refine BigFrame.wpList_want rfl (fun K hK => ?_); refine op_loadN (p := ⟨w.heap.size, 1, none⟩) (vs := [.int .i64 l.n, .int .i64 l.unit]) rfl rfl Try.ag23 Try.sz23 (blk_part [.string l.id] [.int .i64 l.n, .int .i64 l.unit] [.int .i64 l.fr, .slice none 0 0] b4) ?_; refine hK _ _ ?_; clear hK K)); go_at_call 23)); refine (had.out _ hE4).mono ?_; rintro _ w5 ⟨b, f, rfl, hab, x5⟩)
      have b5 := b4.ext x5
      have hE5 := hE4.then_ext x5
      have hl := hlaw.out a e b f hda hab
      rw [if_pos trivial] at hl
      obtain ⟨rfl, rfl⟩ := hl
      clear hda hab hlaw
      have q1 : (a == a) = true := by simp
      have q2 : (e == e) = true := by simp
      ((first | go_at_call 24 | (go_wp2_with (first | ((with_reducible change wpList _ _ _ (Oper.mk _ (Op.load _ _) _ _ _ _ :: _) _ _); refine BigFrame.wpList_want rfl (fun K hK => ?_); refine op_loadN (p := ⟨w.heap.size, 0, none⟩) (vs := [.string l.id, .int .i64 l.n, .int .i64 l.unit, .int .i64 l.fr, .slice none 0 0]) rfl rfl Try.ag26 Try.sz26 (blk_cells b5) ?_; refine hK _ _ ?_; clear hK K)); go_at_call 24)); refine (hpr.out _).mono ?_; rintro _ w6 ⟨rfl, x6⟩)
      go_wp2_with fail
      go_ret
      exact ⟨rfl, hE5.then_ext x6⟩
end Go.Proofs.Ytioofhmkeajkpaa

/-
  The arguments of the laws, from what a caller hands over.
-/
namespace Go.Proofs.Ytioofhmkeajkpaa
open Go Go.RowKit Go.ChangeShapes Go.WideShapes Go.ChangeAt Go.Deep

section
variable {H : Type} {enc : TypeId × Value → H} {W : World} {base : Nat} {r : Reach} {v : Value} {d : DataW H} {p : List MemPlace}
set_option maxRecDepth 100000 in
theorem arg_limit (hval : Value.okWide Try.prog W r base 26 v) (h : DataW.Trod enc Try.prog W 0 (fun _ => true) true 26 v d p) : ∃ l u, v = .agg (limCells l u).toArray ∧ RStops W u l.stops ∧ l.ok := by
  obtain ⟨cs, rfl, -⟩ := okWide_struct Try.underlying26 hval
  obtain ⟨m, hm⟩ := h
  obtain ⟨u, l, hcs, hs, ho⟩ := open_limit hm
  refine ⟨l, u, ?_, hs, ho⟩
  rw [← hcs]
  simp [Value.cells]
set_option maxRecDepth 100000 in
theorem arg_two {t : TypeId} {f0 f1 : Field} (ht : Try.prog.underlying t = some (.struct #[f0, f1])) (h0 : f0.type = 3 ∧ f0.offset = 0) (h1 : f1.type = 3 ∧ f1.offset = 1) (hc : Try.prog.cellsOf t = 2)
    (hval : Value.okWide Try.prog W r base t v) (h : DataW.Trod enc Try.prog W 0 (fun _ => true) true t v d p) : ∃ a b : Int, v = .agg #[.int .i64 a, .int .i64 b] ∧ (Lit.int .i64 a).wf = true ∧ (Lit.int .i64 b).wf = true := by
  obtain ⟨cs, rfl, -⟩ := okWide_struct ht hval
  obtain ⟨m, hm⟩ := h
  obtain ⟨a, b, wa, wb, hcs⟩ := open_two ht h0 h1 hc hm
  refine ⟨a, b, ?_, wa, wb⟩
  simp only [Value.cells] at hcs
  rw [show cs = #[.int .i64 a, .int .i64 b] from by rw [← Array.toList_inj]; simpa using hcs]
set_option maxRecDepth 100000 in
theorem arg_stop (hval : Value.okWide Try.prog W r base 31 v) (h : DataW.Trod enc Try.prog W 0 (fun _ => true) true 31 v d p) : ∃ a b : Int, v = .agg #[.int .i64 a, .int .i64 b] ∧ (Lit.int .i64 a).wf = true ∧ (Lit.int .i64 b).wf = true :=
  arg_two Try.underlying31 ⟨rfl, rfl⟩ ⟨rfl, rfl⟩ Try.cells31 hval h
set_option maxRecDepth 100000 in
theorem arg_term (hval : Value.okWide Try.prog W r base 23 v) (h : DataW.Trod enc Try.prog W 0 (fun _ => true) true 23 v d p) : ∃ a b : Int, v = .agg #[.int .i64 a, .int .i64 b] ∧ (Lit.int .i64 a).wf = true ∧ (Lit.int .i64 b).wf = true :=
  arg_two Try.underlying23 ⟨rfl, rfl⟩ ⟨rfl, rfl⟩ Try.cells23 hval h
set_option maxRecDepth 100000 in
theorem arg_closed (hval : Value.okWide Try.prog W r base 27 v) (h : DataW.Trod enc Try.prog W 0 (fun _ => true) true 27 v d p) : ∃ l, RInts W v l ∧ ∀ x ∈ l, (Lit.int .i64 x).wf = true := by
  obtain ⟨ad, n, c, rfl⟩ := okWide_slice Try.underlying27 hval
  obtain ⟨m, hm⟩ := h
  obtain ⟨u, l, hcs, hs, ho⟩ := open_closed hm
  refine ⟨l, ?_, ho⟩
  simp [Value.cells] at hcs
  rw [hcs]
  exact hs
end
end Go.Proofs.Ytioofhmkeajkpaa
