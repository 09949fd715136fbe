/-
  Days, stops, terms and limits in plain words: what package limit computes.
-/
import Derived.Test.YtioofhmkeajkpaaGen
import Derived.Test.YtioofhmkeajkpaaPLimitMatchesReferencex0
namespace Go.Proofs.Ytioofhmkeajkpaa
open Go Go.RowKit PLimitMatchesReference Go.Proofs.YtioofhmkeajkpaaW.PrintWords

abbrev Stops := List S31
def stopC (s : S31) : List Value := [.int .i64 s.f0, .int .i64 s.f1]
def intC (x : Int) : List Value := [.int .i64 x]
abbrev RStops (w : World) (v : Value) (l : Stops) : Prop := RL stopC 2 w v l
abbrev RInts (w : World) (v : Value) (l : List Int) : Prop := RL intC 1 w v l

/-! ### days -/
def dayB (d : Int) : Bool := decide (0 ≤ d) && decide (d ≤ 1000000)
def workB (cl : List Int) (d : Int) : Bool := dayB d && decide ((d + 5) % 7 < 5) && !decide (d ∈ cl)
def inB (d : Int) (s : S31) : Bool := decide (s.f0 ≤ d) && decide (d < s.f1)
def pausedB (fr : Int) (ss : Stops) (d : Int) : Bool := decide (fr < d) && ss.any (inB d)
abbrev isL (c : Int) : Prop := (97 ≤ c ∧ c ≤ 122) ∨ (65 ≤ c ∧ c ≤ 90)
abbrev isW (c : Int) : Prop := (48 ≤ c ∧ c ≤ 57) ∨ c = 95
def chB (s : ByteArray) (j : Nat) : Bool := decide (isL (bt s j)) || (decide (j ≠ 0) && decide (isW (bt s j)))
/-- A name. -/
def nmB (s : ByteArray) : Bool := (List.range' 0 s.size).all (chB s) && decide (0 < s.size) && decide (s.size ≤ 24)

theorem dayB_iff {d : Int} : dayB d = true ↔ 0 ≤ d ∧ d ≤ 1000000 := by simp [dayB]
theorem workB_day {cl : List Int} {d : Int} (h : workB cl d = true) : dayB d = true := by
  simp only [workB, Bool.and_eq_true] at h
  exact h.1.1

/-- The first day of at most n from d on that is as wanted; d + n if there is none. -/
def firstF (p : Int → Bool) : Nat → Int → Int
  | 0, d => d
  | n + 1, d => if p d then d else firstF p n (d + 1)
theorem firstF_ge (p : Int → Bool) : ∀ (n : Nat) (d : Int), d ≤ firstF p n d ∧ firstF p n d ≤ d + n
  | 0, d => by simp [firstF]
  | n + 1, d => by
    rw [firstF]
    split
    · omega
    · have := firstF_ge p n (d + 1); omega
theorem firstF_not (p : Int → Bool) : ∀ (n : Nat) (d x : Int), d ≤ x → x < firstF p n d → p x = false
  | 0, d, x, h, h' => by simp [firstF] at h'; omega
  | n + 1, d, x, h, h' => by
    rw [firstF] at h'
    split at h'
    · omega
    · rename_i hp
      by_cases e : x = d
      · subst e; simpa using hp
      · exact firstF_not p n (d + 1) x (by omega) h'
theorem firstF_hit (p : Int → Bool) : ∀ (n : Nat) (d : Int), firstF p n d < d + n → p (firstF p n d) = true
  | 0, d, h => by simp [firstF] at h
  | n + 1, d, h => by
    rw [firstF] at h ⊢
    split
    · assumption
    · rename_i hp
      rw [if_neg hp] at h
      exact firstF_hit p n (d + 1) (by omega)
theorem firstF_eq {p : Int → Bool} {n : Nat} {d x : Int} (h1 : d ≤ x) (h2 : x ≤ d + n) (h3 : ∀ y, d ≤ y → y < x → p y = false) (h4 : x < d + n → p x = true) : firstF p n d = x := by
  have a := firstF_ge p n d
  rcases Int.lt_trichotomy (firstF p n d) x with h | h | h
  · have := firstF_hit p n d (by omega)
    rw [h3 _ a.1 h] at this; cases this
  · exact h
  · have := firstF_not p n d x h1 h
    rw [h4 (by omega)] at this; cases this

/-- The first working day from d on; beyond the last day if there is none. -/
def fromD (cl : List Int) (d : Int) : Int := firstF (workB cl) (1000001 - d).toNat d
theorem fromD_ge (cl : List Int) (d : Int) : d ≤ fromD cl d := (firstF_ge _ _ _).1
theorem fromD_le {cl : List Int} {d : Int} (h : d ≤ 1000001) : fromD cl d ≤ 1000001 := by
  have := (firstF_ge (workB cl) (1000001 - d).toNat d).2
  unfold fromD; omega
theorem fromD_out {cl : List Int} {d : Int} (h : 1000000 < d) : fromD cl d = d := by
  unfold fromD
  rw [show (1000001 - d).toNat = 0 by omega]
  rfl
theorem fromD_step {cl : List Int} {d : Int} (h : d ≤ 1000000) : fromD cl d = if workB cl d then d else fromD cl (d + 1) := by
  unfold fromD
  rw [show (1000001 - d).toNat = (1000001 - (d + 1)).toNat + 1 by omega, firstF]
theorem fromD_work {cl : List Int} {d : Int} (h : fromD cl d ≤ 1000000) : workB cl (fromD cl d) = true := by
  have := fromD_ge cl d
  exact firstF_hit _ _ _ (by have e : firstF (workB cl) (1000001 - d).toNat d = fromD cl d := rfl; omega)
theorem fromD_self {cl : List Int} {d : Int} (h : workB cl d = true) : fromD cl d = d := by
  have := dayB_iff.1 (workB_day h)
  rw [fromD_step this.2, if_pos h]

/-- The end of n working days behind d; beyond the last day if there are not so many. -/
def workF (cl : List Int) : Nat → Int → Int
  | 0, d => d
  | n + 1, d => if dayB d then workF cl n (fromD cl (d + 1)) else d

/-! ### dates -/
def leapB (y : Int) : Bool := (decide (y % 4 = 0) && decide (y % 100 ≠ 0)) || decide (y % 400 = 0)
/-- The days from 1600 to the beginning of a year. -/
def yearD (y : Int) : Int := 365 * (y - 1600) + (y - 1600 + 3) / 4 - (y - 1600 + 99) / 100 + (y - 1600 + 399) / 400
/-- The days of a month (1 to 12). -/
def monD (y m : Int) : Int :=
  if m = 2 then (if leapB y then 29 else 28) else if m = 4 ∨ m = 6 ∨ m = 9 ∨ m = 11 then 30 else 31
/-- The days of a year ahead of a month (1 to 13). -/
def cumD (y : Int) : Nat → Int
  | 0 => 0
  | 1 => 0
  | m + 2 => cumD y (m + 1) + monD y (m + 1)
structure IsDate (day y m d : Int) : Prop where
  y1 : 1600 ≤ y
  m1 : 1 ≤ m
  m12 : m ≤ 12
  d1 : 1 ≤ d
  dm : d ≤ monD y m
  eq : day = yearD y + cumD y m.toNat + d - 1
/-- The day n months later. -/
def MonthsIs (day n r e : Int) : Prop :=
  ∃ y m d, IsDate day y m d ∧ ((9999 < (12 * y + m - 1 + n) / 12 ∧ r = 0 ∧ e = 10) ∨
    ((12 * y + m - 1 + n) / 12 ≤ 9999 ∧ ∃ v, v = yearD ((12 * y + m - 1 + n) / 12) + cumD ((12 * y + m - 1 + n) / 12) ((12 * y + m - 1 + n) % 12 + 1).toNat + min d (monD ((12 * y + m - 1 + n) / 12) ((12 * y + m - 1 + n) % 12 + 1)) - 1 ∧
      ((v ≤ 1000000 ∧ r = v ∧ e = 0) ∨ (1000000 < v ∧ r = 0 ∧ e = 10))))

/-! ### terms -/
/-- The end of a term ahead of the search for a working day. -/
def StepIs (day n unit : Int) (cl : List Int) (r e : Int) : Prop :=
  if unit = 1 then r = day + n ∧ e = 0
  else if unit = 2 then r = day + 7 * n ∧ e = 0
  else if unit = 3 then MonthsIs day n r e
  else if unit = 4 then MonthsIs day (12 * n) r e
  else r = workF cl n.toNat day ∧ e = 0
def termB (n unit : Int) : Bool := decide (1 ≤ unit) && decide (unit ≤ 5) && decide (0 ≤ n) && decide (n ≤ 1000000)
def AddIs (day n unit : Int) (cl : List Int) (r e : Int) : Prop :=
  if dayB day && termB n unit then
    if 1000 < cl.length then r = 0 ∧ e = 2
    else ∃ x f, StepIs day n unit cl x f ∧
      if f = 0 ∧ dayB x = true ∧ fromD cl x ≤ 1000000 then r = fromD cl x ∧ e = 0 else r = 0 ∧ e = 10
  else r = 0 ∧ e = 1

/-! ### limits -/
structure Lim where
  id : ByteArray
  n : Int
  unit : Int
  fr : Int
  stops : Stops
def stopB (s : S31) : Bool := decide (0 ≤ s.f0) && decide (s.f0 ≤ s.f1) && decide (s.f1 ≤ 1000000)
def Lim.proper (l : Lim) : Bool := nmB l.id && dayB l.fr && termB l.n l.unit && decide (l.stops.length ≤ 60) && l.stops.all stopB
def Lim.paused (l : Lim) (d : Int) : Bool := pausedB l.fr l.stops d

/-- How many of the k days behind a are as wanted. -/
def cntF (p : Int → Bool) (a : Int) : Nat → Nat
  | 0 => 0
  | k + 1 => cntF p a k + if p (a + (k + 1)) then 1 else 0
/-- D is the n-th day behind a that is as wanted. -/
def NthIs (p : Int → Bool) (a : Int) (n : Nat) (D : Int) : Prop := ∃ k : Nat, D = a + k ∧ cntF p a k = n ∧ (k ≠ 0 → p D = true)
/-- The first day from d on on which offices are open, and that is not paused. -/
def openD (l : Lim) (cl : List Int) (d : Int) : Int := firstF (fun x => !l.paused x && workB cl x) (1000001 - d).toNat d
def DueIs (l : Lim) (cl : List Int) (r e : Int) : Prop :=
  if l.proper then ∃ a f, AddIs l.fr l.n l.unit cl a f ∧
    if f = 0 then ∃ D, NthIs (fun d => !l.paused d) l.fr (a - l.fr).toNat D ∧ if openD l cl D ≤ 1000000 then r = openD l cl D ∧ e = 0 else r = 0 ∧ e = 10
    else r = 0 ∧ e = f
  else r = 0 ∧ e = 1
end Go.Proofs.Ytioofhmkeajkpaa
