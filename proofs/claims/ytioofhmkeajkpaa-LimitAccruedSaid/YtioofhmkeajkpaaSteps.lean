/-
  The steps of a walk along a region's tree; allocations; the results of a call.
-/
import Derived.Test.YtioofhmkeajkpaaMaps
namespace Go.Proofs.Ytioofhmkeajkpaa
open Go Go.RowKit

def nth : List Oper → Nat → Option Oper
  | [], _ => none
  | x :: _, 0 => some x
  | _ :: l, n + 1 => nth l n

theorem nth_eq : ∀ (l : List Oper) (n : Nat), nth l n = l[n]?
  | [], _ => rfl
  | _ :: _, 0 => rfl
  | _ :: l, n + 1 => by simp [nth, nth_eq l n]

theorem of_nth {ops : Array Oper} {i : Nat} {o : Oper} (h : nth ops.toList i = some o) : ops[i]? = some o := by
  rw [nth_eq] at h; simpa using h

def isV (o : Oper) : Bool := match o.op with
  | .move _ | .assign _ | .pick .. | .load .. | .nilCheck _ | .binOp .. | .unOp .. | .convert .. | .slice .. | .fieldAddr .. | .field .. | .indexAddr .. | .index .. | .lookup .. | .extract .. | .build .. | .makeFunc .. => true
  | .call { callee := .builtin .len, .. } | .call { callee := .builtin .max, .. } | .call { callee := .builtin .min, .. } => true
  | _ => false

theorem isV_run {o : Oper} (h : isV o = true) (ρ : Operand → Value) : ∃ s : Sem Value, execOp ρ o = (do pure (.value (← s))) := by
  obtain ⟨dst, op, type, pos, after, guard⟩ := o
  cases op <;> simp only [isV] at h <;> try contradiction
  case move x => exact ⟨pure (ρ x), rfl⟩
  case assign x => exact ⟨pure (ρ x), rfl⟩
  case pick c x y => exact ⟨do pure (if ← asBool (ρ c) then ρ x else ρ y), by simp [execOp]⟩
  case nilCheck x =>
    simp only [execOp]
    split
    · exact ⟨runtimePanic .nilDeref, rfl⟩
    · exact ⟨runtimePanic .nilDeref, rfl⟩
    · exact ⟨runtimePanic .nilDeref, rfl⟩
    · rename_i name first captured _
      split
      · exact ⟨runtimePanic .nilDeref, rfl⟩
      · rename_i t v _
        refine ⟨do
          if (← nilAhead ((← program).types.size + Made.depth) t v name) != some false then
            unsupported (.noEntry "op/nilCheck.the method's receiver behind this interface value is a nil pointer, or cannot be seen to be none, and the arguments act or may panic (ledger 612)")
          pure (.func (.method name) first captured), ?_⟩
        simp
        congr 1; funext p; congr 1; funext b
        split <;> simp <;> rfl
      · exact ⟨pure _, rfl⟩
    · exact ⟨pure _, rfl⟩
  case call c =>
    obtain ⟨callee, args, ats⟩ := c
    cases callee with
    | value f => simp at h
    | invoke r m => simp at h
    | builtin b =>
      rw [execOp_builtin1 rfl]
      cases b <;> simp at h <;> exact ⟨_, rfl⟩
  all_goals exact ⟨_, rfl⟩

section
variable {P : Program} {ops : Array Oper} {Q : Exit → Act → World → Prop} {t : RT} {S : List (Nat × Value)} {a : Act} {w : World}

theorem cw_rd {i d : Nat} {o : Oper} (ho' : nth ops.toList i = some o) (hv : isV o = true) (hd : o.dst = some d) (hlt : Nat.blt d a.tmps.size = true) (hg : Region.wanted o (yielded ops a.tmps) = true)
    (h : ∀ K : Act → World → Prop, (∀ a' : Act, cwT P ops (Strict Q) t ((i, a'.tmps.getD d undef) :: S) a' w → K a' w) → o.wp P a w K (Strict Q)) : cwT P ops (Strict Q) (.rd i t) S a w := by
  have ho := of_nth ho'
  have hlt' : d < a.tmps.size := by rw [Nat.blt_eq] at hlt; exact hlt
  have h1 := h (fun a' w' => w' = w ∧ cwT P ops (Strict Q) t ((i, a'.tmps.getD d undef) :: S) a' w) (fun a' hc => ⟨rfl, hc⟩)
  obtain ⟨s, hs⟩ := isV_run hv a.eval
  unfold Oper.wp at h1
  rw [hs] at h1
  simp only [Sem.run_bind, Sem.run_pure] at h1
  cases hr : s.run P w with
  | halt x w' =>
    rw [hr] at h1
    simp only [Result.andThen_halt] at h1
    cases x <;> simp only [Oper.upon] at h1
    exact h1.elim
  | ok v w' =>
    rw [hr] at h1
    simp only [Result.andThen_ok, Oper.upon] at h1
    obtain ⟨rfl, hc⟩ := h1
    refine ⟨o, v, ho, .inl ⟨hg, by rw [hs]; simp [hr]⟩, ?_⟩
    have : (a.put o.dst v).tmps.getD d undef = v := by
      simp [Act.put, hd, hlt']
    rw [this] at hc
    exact hc

theorem cw_skip {i : Nat} {o : Oper} (ho : nth ops.toList i = some o) (hg : Region.wanted o (yielded ops a.tmps) = false) (h : cwT P ops (Strict Q) t ((i, undef) :: S) (a.put o.dst undef) w) :
    cwT P ops (Strict Q) (.rd i t) S a w := ⟨o, undef, of_nth ho, .inr ⟨hg, rfl⟩, h⟩

theorem wpOp_of {i : Nat} {o : Oper} {K : Act → World → Prop} (ho : ops[i]? = some o) (hg : Region.wanted o (yielded ops a.tmps) = true) (h : o.wp P a w K (Strict Q)) : wpOp P ops (Strict Q) i K a w := by
  unfold wpOp
  simp only [ho, hg, if_true]
  exact .inl h

theorem cw_e1 {i : Nat} {fl : List Nat} {o : Oper} (ho : nth ops.toList i = some o) (hg : Region.wanted o (yielded ops a.tmps) = true)
    (h : ∀ K : Act → World → Prop, (∀ a' w', (floatsOk P ops fl S a' w' ∧ cwT P ops (Strict Q) t S a' w') → K a' w') → o.wp P a w K (Strict Q)) : cwT P ops (Strict Q) (.e1 i fl t) S a w :=
  wpOp_of (of_nth ho) hg (h _ fun _ _ h => h)

theorem cw_e1_skip {i : Nat} {fl : List Nat} {o : Oper} (ho' : nth ops.toList i = some o) (hg : Region.wanted o (yielded ops a.tmps) = false) (hf : floatsOk P ops fl S (a.put o.dst undef) w)
    (h : cwT P ops (Strict Q) t S (a.put o.dst undef) w) : cwT P ops (Strict Q) (.e1 i fl t) S a w := by
  have ho := of_nth ho'
  show wpOp _ _ _ _ _ _ _
  unfold wpOp
  simp only [ho, hg]
  exact ⟨hf, h⟩

theorem cw_e2 {i j : Nat} {fl fl' : List Nat} {t' : RT} (h1 : cwT P ops (Strict Q) (.e1 i fl t) S a w) (h2 : cwT P ops (Strict Q) (.e1 j fl' t') S a w) :
    cwT P ops (Strict Q) (.e2 i fl t j fl' t') S a w := ⟨h1, h2⟩
theorem cw_e3 {i j k : Nat} {fl fl' fl'' : List Nat} {t' t'' : RT} (h1 : cwT P ops (Strict Q) (.e1 i fl t) S a w) (h2 : cwT P ops (Strict Q) (.e1 j fl' t') S a w) (h3 : cwT P ops (Strict Q) (.e1 k fl'' t'') S a w) :
    cwT P ops (Strict Q) (.e3 i fl t j fl' t' k fl'' t'') S a w := ⟨h1, h2, h3⟩
theorem cw_nil (h : Q .normal a w) : cwT P ops (Strict Q) .nil S a w := h

/-- One read that hung in the air, looked at anew. -/
theorem yldI_of {i : Nat} {o : Oper} {v : Value} (ho : nth ops.toList i = some o) (hg : Region.wanted o (yielded ops a.tmps) = true) (hr : (execOp a.eval o).run P w = .ok (.value v) w) : YldI P ops i v a w :=
  ⟨o, of_nth ho, .inl ⟨hg, hr⟩⟩

theorem fl_nil {fl : List Nat} : floatsOk P ops fl [] a w := trivial
theorem fl_skip {fl : List Nat} {j : Nat} {v : Value} (hj : fl.contains j = false) (h : floatsOk P ops fl S a w) : floatsOk P ops fl ((j, v) :: S) a w := by
  unfold floatsOk; rw [if_neg (by rw [hj]; simp)]; exact ⟨trivial, h⟩
theorem fl_take {fl : List Nat} {j : Nat} {v : Value} (hj : fl.contains j = true) (hy : YldI P ops j v a w) (h : floatsOk P ops fl S a w) : floatsOk P ops fl ((j, v) :: S) a w := by
  unfold floatsOk; rw [if_pos hj]; exact ⟨hy, h⟩
theorem fl_none : floatsOk P ops [] S a w := by
  induction S with
  | nil => trivial
  | cons p S ih => obtain ⟨j, v⟩ := p; exact fl_skip rfl ih

theorem yldI_load1 {i : Nat} {o : Oper} {v : Value} {t : TypeId} {x : Operand} {p : Addr} (ho : nth ops.toList i = some o) (hg : Region.wanted o (yielded ops a.tmps) = true) (hop : o.op = .load t x) (hx : a.eval x = .pointer (some p))
    (ht : isAggB P t = some false) (hc : w.cell? p = some v) : YldI P ops i v a w :=
  yldI_of ho hg (by rw [execOp_load hop, hx]; simp [run_load1 ht hc])
end
end Go.Proofs.Ytioofhmkeajkpaa
