/-
  Words for a region whose order is drawn: a tree of its operations (reads ahead, effects behind) that is walked once, and the proof that every order that the edges allow comes to what the walk shows.
-/
import Derived.WalkKit
import Derived.KernelRfl
namespace Go.Proofs.Ytioofhmkeajkpaa
open Go

inductive RT where
  | nil
  | rd (i : Nat) (t : RT)
  | e1 (i : Nat) (fl : List Nat) (t : RT)
  | e2 (i : Nat) (fl : List Nat) (t : RT) (j : Nat) (fl' : List Nat) (t' : RT)
  | e3 (i : Nat) (fl : List Nat) (t : RT) (j : Nat) (fl' : List Nat) (t' : RT) (k : Nat) (fl'' : List Nat) (t'' : RT)

def Strict (Q : Exit → Act → World → Prop) : Exit → Act → World → Prop
  | .panic _, _, _ => False
  | .outgrown, _, _ => False
  | e, a, w => Q e a w

theorem Strict.imp {Q : Exit → Act → World → Prop} (e : Exit) (a : Act) (w : World) (h : Strict Q e a w) : Q e a w := by
  cases e <;> first | exact h | exact (h : False).elim

theorem Strict.letsOut {Q : Exit → Act → World → Prop} (h : LetsOut (Strict Q)) : False := by
  obtain ⟨_, _, h⟩ := h; exact h

/-- o, run on a in w, gives v and leaves the world; or it is passed over. -/
def Yld (P : Program) (ops : Array Oper) (o : Oper) (v : Value) (a : Act) (w : World) : Prop :=
  (Region.wanted o (yielded ops a.tmps) = true ∧ (execOp a.eval o).run P w = .ok (.value v) w) ∨
  (Region.wanted o (yielded ops a.tmps) = false ∧ v = undef)

def YldI (P : Program) (ops : Array Oper) (i : Nat) (v : Value) (a : Act) (w : World) : Prop :=
  ∃ o, ops[i]? = some o ∧ Yld P ops o v a w

def floatsOk (P : Program) (ops : Array Oper) (fl : List Nat) : List (Nat × Value) → Act → World → Prop
  | [], _, _ => True
  | (j, v) :: S, a, w => (if fl.contains j then YldI P ops j v a w else True) ∧ floatsOk P ops fl S a w

theorem floatsOk_mem {P : Program} {ops : Array Oper} {fl : List Nat} {a : Act} {w : World} : ∀ {S : List (Nat × Value)}, floatsOk P ops fl S a w →
    ∀ p ∈ S, p.1 ∈ fl → YldI P ops p.1 p.2 a w
  | [], _, p, hp, _ => by cases hp
  | (j, v) :: S, h, p, hp, hf => by
    rcases List.mem_cons.1 hp with rfl | hp
    · have := h.1
      rw [if_pos (by simpa using hf)] at this
      exact this
    · exact floatsOk_mem h.2 p hp hf

def cwT (P : Program) (ops : Array Oper) (Q : Exit → Act → World → Prop) : RT → List (Nat × Value) → Act → World → Prop
  | .nil, _, a, w => Q .normal a w
  | .rd i t, S, a, w => ∃ o v, ops[i]? = some o ∧ Yld P ops o v a w ∧ cwT P ops Q t ((i, v) :: S) (a.put o.dst v) w
  | .e1 i fl t, S, a, w => wpOp P ops Q i (fun a' w' => floatsOk P ops fl S a' w' ∧ cwT P ops Q t S a' w') a w
  | .e2 i fl t j fl' t', S, a, w =>
    wpOp P ops Q i (fun a' w' => floatsOk P ops fl S a' w' ∧ cwT P ops Q t S a' w') a w ∧
    wpOp P ops Q j (fun a' w' => floatsOk P ops fl' S a' w' ∧ cwT P ops Q t' S a' w') a w
  | .e3 i fl t j fl' t' k fl'' t'', S, a, w =>
    wpOp P ops Q i (fun a' w' => floatsOk P ops fl S a' w' ∧ cwT P ops Q t S a' w') a w ∧
    wpOp P ops Q j (fun a' w' => floatsOk P ops fl' S a' w' ∧ cwT P ops Q t' S a' w') a w ∧
    wpOp P ops Q k (fun a' w' => floatsOk P ops fl'' S a' w' ∧ cwT P ops Q t'' S a' w') a w

/-- What leans on no world. -/
def worldless (o : Oper) : Bool := match o.op with
  | .move _ | .assign _ => true
  | _ => false

def preds (o : Oper) : List Nat := (o.after.toList.filter (Region.binds .any ·)).map (·.on)

/-- The check of a tree: 'done' is what stands ahead. -/
def readyOk (ops : Array Oper) (done : List Nat) (i : Nat) : Bool :=
  !done.contains i && match ops[i]? with
    | none => false
    | some o => (preds o).all (done.contains ·)

def onlyReady (ops : Array Oper) (done : List Nat) (these : List Nat) : Bool :=
  (List.range ops.size).all fun j => done.contains j || these.contains j || match ops[j]? with
    | none => true
    | some o => (preds o).any (!done.contains ·)

def flOk (B : List Nat) (S : List Nat) (i : Nat) (fl : List Nat) : Bool :=
  S.all fun j => fl.contains j || (B.getD i 0).testBit j

def rtOk (ops : Array Oper) (B : List Nat) : RT → List Nat → List Nat → Bool
  | .nil, done, _ => (List.range ops.size).all (done.contains ·)
  | .rd i t, done, S => readyOk ops done i && rtOk ops B t (i :: done) (if ((ops[i]?).map worldless).getD false then S else i :: S)
  | .e1 i fl t, done, S => readyOk ops done i && onlyReady ops done [i] && flOk B S i fl && rtOk ops B t (i :: done) S
  | .e2 i fl t j fl' t', done, S => onlyReady ops done [i, j] &&
      (readyOk ops done i && flOk B S i fl && rtOk ops B t (i :: done) S) &&
      (readyOk ops done j && flOk B S j fl' && rtOk ops B t' (j :: done) S)
  | .e3 i fl t j fl' t' k fl'' t'', done, S => onlyReady ops done [i, j, k] &&
      (readyOk ops done i && flOk B S i fl && rtOk ops B t (i :: done) S) &&
      (readyOk ops done j && flOk B S j fl' && rtOk ops B t' (j :: done) S) &&
      (readyOk ops done k && flOk B S k fl'' && rtOk ops B t'' (k :: done) S)

/-- The check of the table of ancestors. -/
def ancOk (ops : Array Oper) (B : List Nat) : Bool :=
  (List.range ops.size).all fun i => match ops[i]? with
    | none => true
    | some o => (List.range ops.size).all fun j => !(B.getD i 0).testBit j || (preds o).contains j || (preds o).any fun q => decide (q < i) && (B.getD q 0).testBit j

def apartOk (ops : Array Oper) : Bool :=
  (List.range ops.size).all fun i => match ops[i]? with
    | none => true
    | some oi => (preds oi).all (decide <| · < i) && (List.range ops.size).all fun j => match ops[j]? with
      | none => true
      | some oj => (match oj.dst with
        | none => true
        | some d => (i == j || oi.dst != some d) && ((preds oi).contains j || !(oi.looksAt ops).contains d))

def regionOk (ops : Array Oper) (B : List Nat) (t : RT) : Bool :=
  Region.noSelect ops && ancOk ops B && apartOk ops && rtOk ops B t [] []

section
variable {P : Program} {ops : Array Oper} {Q : Exit → Act → World → Prop}

theorem preds_binds {o : Oper} {e : Edge} (he : e ∈ o.after) (hb : Region.binds .any e = true) : e.on ∈ preds o := by
  unfold preds
  exact List.mem_map.2 ⟨e, List.mem_filter.2 ⟨by simpa using he, hb⟩, rfl⟩

theorem preds_all {o : Oper} {p : Nat → Prop} (h : ∀ e ∈ o.after, Region.binds .any e = true → p e.on) : ∀ q ∈ preds o, p q := by
  intro q hq
  unfold preds at hq
  obtain ⟨e, he, rfl⟩ := List.mem_map.1 hq
  obtain ⟨h1, h2⟩ := List.mem_filter.1 he
  exact h e (by simpa using h1) h2

theorem anc_done {B : List Nat} (hB : ancOk ops B = true) {E : Nat → Prop} (hdown : ∀ i o, E i → ops[i]? = some o → ∀ q ∈ preds o, E q) :
    ∀ (n i : Nat), i < n → ∀ o, ops[i]? = some o → (∀ q ∈ preds o, E q) → ∀ j, (B.getD i 0).testBit j = true → j < ops.size → E j := by
  intro n
  induction n with
  | zero => intro i hi; omega
  | succ n ih =>
    intro i hi o ho hp j hj hjs
    have hlt : i < ops.size := (Array.getElem?_eq_some_iff.1 ho).1
    unfold ancOk at hB
    have h1 := List.all_eq_true.1 hB i (List.mem_range.2 hlt)
    simp only [ho] at h1
    have h2 := List.all_eq_true.1 h1 j (List.mem_range.2 hjs)
    simp only [hj, Bool.not_true, Bool.false_or, Bool.or_eq_true] at h2
    rcases h2 with h2 | h2
    · exact hp j (by simpa using h2)
    · obtain ⟨q, hq, hq2⟩ := List.any_eq_true.1 h2
      simp only [Bool.and_eq_true, decide_eq_true_eq] at hq2
      have hEq := hp q hq
      rcases Nat.lt_or_ge q ops.size with hqs | hqs
      · have hoq : ops[q]? = some ops[q] := Array.getElem?_eq_getElem hqs
        exact ih q (by omega) _ hoq (hdown q _ hEq hoq) j hq2.2 hjs
      · omega

theorem apart_at {i j : Nat} {oi oj : Oper} (h : apartOk ops = true) (hi : ops[i]? = some oi) (hj : ops[j]? = some oj) :
    (∀ q ∈ preds oi, q < i) ∧ ∀ d, oj.dst = some d → (i ≠ j → oi.dst ≠ some d) ∧ (j ∉ preds oi → d ∉ oi.looksAt ops) := by
  unfold apartOk at h
  have a1 := List.all_eq_true.1 h i (List.mem_range.2 (Array.getElem?_eq_some_iff.1 hi).1)
  simp only [hi, Bool.and_eq_true] at a1
  obtain ⟨a0, a1⟩ := a1
  refine ⟨fun q hq => by simpa using List.all_eq_true.1 a0 q hq, fun d hd => ?_⟩
  have a2 := List.all_eq_true.1 a1 j (List.mem_range.2 (Array.getElem?_eq_some_iff.1 hj).1)
  simp only [hj, hd, Bool.and_eq_true, Bool.or_eq_true, beq_iff_eq, bne_iff_ne, ne_eq, List.contains_iff_mem, Bool.not_eq_true', Bool.eq_false_iff] at a2
  obtain ⟨a2, a3⟩ := a2
  refine ⟨fun hne => (a2.resolve_left hne), fun hp => ?_⟩
  have := a3.resolve_left hp
  simpa using this

theorem apart_of {i j : Nat} {oi oj : Oper} (h : apartOk ops = true) (hi : ops[i]? = some oi) (hj : ops[j]? = some oj) (hne : i ≠ j)
    (h1 : j ∉ preds oi) (h2 : i ∉ preds oj) : oi.apart ops oj = true := by
  have a1 := (apart_at h hi hj).2
  have a2 := (apart_at h hj hi).2
  unfold Oper.apart
  simp only [Bool.and_eq_true]
  constructor
  · cases hd : oi.dst with
    | none => rfl
    | some d =>
      have := a2 d hd
      simp only [Bool.and_eq_true, Bool.not_eq_true', bne_iff_ne, ne_eq]
      refine ⟨?_, ?_⟩
      · have := this.2 h2
        simpa using this
      · exact this.1 (Ne.symm hne)
  · cases hd : oj.dst with
    | none => rfl
    | some d =>
      have := (a1 d hd).2 h1
      simpa using this

theorem Yld.put {o : Oper} {v u : Value} {a : Act} {w : World} {d : Option Tmp} (hs : ∀ cs b, o.op ≠ .select cs b) (hd : ∀ t, d = some t → t ∉ o.looksAt ops) :
    Yld P ops o v (a.put d u) w ↔ Yld P ops o v a w := by
  unfold Yld
  rw [execOp_put o hs a d u hd, wanted_put o a d u hd]

theorem Yld.worldless {o : Oper} {v : Value} {a : Act} {w w' : World} (hw : worldless o = true) (h : Yld P ops o v a w) : Yld P ops o v a w' := by
  unfold Yld at *
  rcases h with ⟨h1, h2⟩ | h
  · refine .inl ⟨h1, ?_⟩
    obtain ⟨dst, op, type, pos, after, guard⟩ := o
    unfold Proofs.Ytioofhmkeajkpaa.worldless at hw
    cases op <;> simp at hw <;> simp [execOp, pure] at h2 ⊢ <;> exact h2
  · exact .inr h

/-- An operation behind a store of a temporary that it does not look at. -/
theorem wpOp_past {i : Nat} {oi op : Oper} {v : Value} {K : Act → World → Prop} {a : Act} {w : World} (hi : ops[i]? = some oi) (hap : op.apart ops oi = true)
    (hsi : ∀ cs b, oi.op ≠ .select cs b) (h : wpOp P ops (Strict Q) i K (a.put op.dst v) w) :
    wpOp P ops (Strict Q) i (fun a' w' => K (a'.put op.dst v) w') a w := by
  obtain ⟨h1, h2, h3⟩ := Oper.apart_spec hap
  unfold wpOp at *
  simp only [hi] at *
  rw [wanted_put oi a op.dst v h1] at h
  split
  · rename_i hw
    simp only [hw, if_true] at h
    rcases h with h | ⟨_, hlets⟩
    case inr => exact (Strict.letsOut hlets).elim
    refine .inl ?_
    unfold Oper.wp at *
    rw [execOp_put oi hsi a op.dst v h1] at h
    generalize (execOp a.eval oi).run P w = r at *
    cases r with
    | ok n w' =>
      cases n <;> simp only [Oper.upon] at h ⊢
      case value u => rw [← Act.put_comm a v u h2]; exact h
      case skip => rw [← Act.put_comm a v undef h2]; exact h
      case defer d =>
        rw [← Act.put_comm _ v undef h2, ← Act.put_defers]
        exact h
      case enter f args =>
        refine Calls.mono h fun e w'' he => ?_
        cases e with
        | returned u =>
          show K ((a.put oi.dst u).put op.dst v) w''
          rw [← Act.put_comm a v u h2]; exact he
        | panicked c => exact he
        | outgrown => exact he
      case row row args => exact Rows.mono h fun u w'' he => by rw [← Act.put_comm a v u h2]; exact he
    | halt x w' =>
      cases x <;> simp only [Oper.upon] at h ⊢
      case panic u => exact h
  · rename_i hw
    simp only [hw] at h
    rw [← Act.put_comm a v undef h2]; exact h

/-- What an operation leaves of the frame. -/
theorem wpOp_strong {i : Nat} {oi : Oper} {K : Act → World → Prop} {a : Act} {w : World} (hi : ops[i]? = some oi) (h : wpOp P ops (Strict Q) i K a w) :
    wpOp P ops (Strict Q) i (fun a' w' => K a' w' ∧ ∃ u, a'.tmps = (a.put oi.dst u).tmps) a w := by
  unfold wpOp at *
  simp only [hi] at *
  split
  · rename_i hw
    simp only [hw, if_true] at h
    rcases h with h | ⟨_, hlets⟩
    case inr => exact (Strict.letsOut hlets).elim
    refine .inl ?_
    unfold Oper.wp at *
    generalize (execOp a.eval oi).run P w = r at *
    cases r with
    | ok n w' =>
      cases n <;> simp only [Oper.upon] at h ⊢
      case value u => exact ⟨h, u, rfl⟩
      case skip => exact ⟨h, _, rfl⟩
      case defer d => exact ⟨h, undef, by cases oi.dst <;> rfl⟩
      case enter f args =>
        refine Calls.mono h fun e w'' he => ?_
        cases e with
        | returned u => exact ⟨he, u, rfl⟩
        | panicked c => exact he
        | outgrown => exact he
      case row row args => exact Rows.mono h fun u w'' he => ⟨he, u, rfl⟩
    | halt x w' =>
      cases x <;> simp only [Oper.upon] at h ⊢
      case panic u => exact h
  · rename_i hw
    simp only [hw] at h
    exact ⟨h, undef, rfl⟩

theorem Yld.tmps {o : Oper} {v : Value} {a a' : Act} {w : World} (h : a'.tmps = a.tmps) (hy : Yld P ops o v a w) : Yld P ops o v a' w := by
  have he : a'.eval = a.eval := by funext x; cases x <;> simp [Act.eval, h]
  unfold Yld at *
  rw [he, h]; exact hy

def putAll (ops : Array Oper) : List (Nat × Value) → Act → Act
  | [], a => a
  | (j, v) :: L, a => (putAll ops L a).put ((ops[j]?).bind (·.dst)) v

theorem Act.put_none (a : Act) (v : Value) : a.put none v = a := rfl

/-- The list L may be put behind or ahead of one more. -/
theorem putAll_put {d : Option Tmp} {u : Value} : ∀ (L : List (Nat × Value)) (a : Act), (∀ p ∈ L, ∀ t, d = some t → (ops[p.1]?).bind (·.dst) ≠ some t) →
    putAll ops L (a.put d u) = (putAll ops L a).put d u
  | [], _, _ => rfl
  | (j, v) :: L, a, h => by
    simp only [putAll]
    rw [putAll_put L a (fun p hp => h p (List.mem_cons_of_mem _ hp))]
    exact Act.put_comm _ _ _ (fun t ht => h (j, v) (by simp) t ht)

theorem wpOp_pastAll {i : Nat} {oi : Oper} {K : Act → World → Prop} {w : World} (hi : ops[i]? = some oi) (hsi : ∀ cs b, oi.op ≠ .select cs b) :
    ∀ (L : List (Nat × Value)) (a : Act), (∀ p ∈ L, ∃ o, ops[p.1]? = some o ∧ o.apart ops oi = true) → wpOp P ops (Strict Q) i K (putAll ops L a) w →
      wpOp P ops (Strict Q) i (fun a' w' => K (putAll ops L a') w') a w
  | [], _, _, h => h
  | (j, v) :: L, a, hL, h => by
    obtain ⟨o, ho, hap⟩ := hL (j, v) (by simp)
    simp only [putAll] at h ⊢
    simp only [] at ho
    rw [ho] at h ⊢
    exact wpOp_pastAll hi hsi L a (fun p hp => hL p (List.mem_cons_of_mem _ hp)) (wpOp_past (op := o) hi hap hsi h)

theorem Yld_pastAll {o : Oper} {v : Value} {w : World} (hs : ∀ cs b, o.op ≠ .select cs b) :
    ∀ (L : List (Nat × Value)) (a : Act), (∀ p ∈ L, ∀ t, (ops[p.1]?).bind (·.dst) = some t → t ∉ o.looksAt ops) → (Yld P ops o v (putAll ops L a) w ↔ Yld P ops o v a w)
  | [], _, _ => Iff.rfl
  | (j, u) :: L, a, h => by
    simp only [putAll]
    rw [Yld.put hs (fun t ht => h (j, u) (by simp) t ht)]
    exact Yld_pastAll hs L a (fun p hp => h p (List.mem_cons_of_mem _ hp))

theorem Yld.wpOp' {i : Nat} {o : Oper} {v : Value} {a : Act} {w : World} (hi : ops[i]? = some o) (hy : Yld P ops o v a w)
    {K : Act → World → Prop} (h : K (a.put o.dst v) w) : wpOp P ops Q i K a w := by
  unfold Go.wpOp
  simp only [hi]
  rcases hy with ⟨hw, hv⟩ | ⟨hw, rfl⟩
  · simp only [hw, if_true, Oper.wp, hv, Oper.upon]; exact .inl h
  · simp only [hw, Bool.false_eq_true, if_false]; exact h
end

theorem getD_done {listed : Array Bool} {j : Nat} (h : listed.getD j true = false) : listed.getD j false = false := by
  rcases Nat.lt_or_ge j listed.size with hl | hl
  · simp [hl] at h ⊢; exact h
  · simp [Array.getElem?_eq_none hl] at h

structure Inv (P : Program) (ops : Array Oper) (B : List Nat) (t : RT) (S : List (Nat × Value)) (C SN : List Nat) (listed : Array Bool) (L : List (Nat × Value)) (a : Act) (w : World) : Prop where
  size : listed.size = ops.size
  down : ∀ i o, listed.getD i false = true → ops[i]? = some o → ∀ q ∈ preds o, listed.getD q false = true
  mem : ∀ j, C.contains j = true ↔ (listed.getD j false = true ∨ ∃ p ∈ L, p.1 = j)
  apart : (L.map (·.1)).Nodup ∧ ∀ p ∈ L, listed.getD p.1 false = false
  sub : ∀ p ∈ L, (∃ o, ops[p.1]? = some o ∧ worldless o = true) ∨ (p ∈ S ∧ p.1 ∈ SN)
  yld : ∀ p ∈ L, YldI P ops p.1 p.2 (putAll ops L a) w
  closed : ∀ p ∈ L, ∀ o, ops[p.1]? = some o → ∀ q ∈ preds o, C.contains q = true
  ok : rtOk ops B t C SN = true

theorem putAll_tmps {ops : Array Oper} : ∀ (L : List (Nat × Value)) {a a' : Act}, a'.tmps = a.tmps → (putAll ops L a').tmps = (putAll ops L a).tmps
  | [], _, _, h => h
  | (j, v) :: L, a, a', h => by
    have := putAll_tmps (ops := ops) L h
    simp only [putAll]
    cases (ops[j]?).bind (·.dst) <;> simp [Act.put, this]

theorem putAll_erase {ops : Array Oper} : ∀ (L : List (Nat × Value)) (a : Act) (i : Nat) (v : Value) (o : Oper), (i, v) ∈ L → (L.map (·.1)).Nodup → ops[i]? = some o →
    (∀ p ∈ L, p.1 ≠ i → ∀ t, o.dst = some t → (ops[p.1]?).bind (·.dst) ≠ some t) →
    putAll ops (L.filter (fun p => p.1 != i)) (a.put o.dst v) = putAll ops L a
  | [], _, _, _, _, h, _, _, _ => by cases h
  | (j, u) :: L, a, i, v, o, hm, hnd, ho, hd => by
    simp only [List.map_cons, List.nodup_cons] at hnd
    by_cases hji : j = i
    · subst hji
      have huv : u = v := by
        rcases List.mem_cons.1 hm with h | h
        · injection h with _ h; exact h.symm
        · exact absurd (List.mem_map.2 ⟨_, h, rfl⟩) hnd.1
      subst huv
      have hf : (L.filter (fun p => p.1 != j)) = L := by
        refine List.filter_eq_self.2 fun p hp => ?_
        simp only [bne_iff_ne, ne_eq]
        intro e
        exact hnd.1 (List.mem_map.2 ⟨p, hp, e⟩)
      rw [List.filter_cons_of_neg (by simp), hf]
      simp only [putAll, ho, Option.bind_some]
      exact putAll_put L a (fun p hp t ht => hd p (List.mem_cons_of_mem _ hp) (fun e => hnd.1 (List.mem_map.2 ⟨p, hp, e⟩)) t ht)
    · have hm' : (i, v) ∈ L := by
        rcases List.mem_cons.1 hm with h | h
        · injection h with h _; exact absurd h.symm hji
        · exact h
      rw [List.filter_cons_of_pos (by simpa using hji)]
      simp only [putAll]
      rw [putAll_erase L a i v o hm' hnd.2 ho (fun p hp => hd p (List.mem_cons_of_mem _ hp))]

theorem List.contains_cons_nat {i j : Nat} {C : List Nat} : (i :: C).contains j = true ↔ (j = i ∨ C.contains j = true) := by
  simp

theorem getD_set_iff {listed : Array Bool} {i j : Nat} (hi : i < listed.size) : (listed.setIfInBounds i true).getD j false = true ↔ (j = i ∨ listed.getD j false = true) := by
  by_cases h : i = j
  · subst h; simp [hi]
  · rw [getD_set_ne false h]
    constructor
    · exact .inr
    · rintro (h' | h')
      · exact absurd h'.symm h
      · exact h'

theorem only_one {P : Program} {ops : Array Oper} {B : List Nat} {t : RT} {S : List (Nat × Value)} {C SN : List Nat} {listed : Array Bool} {L : List (Nat × Value)} {a : Act} {w : World} {i : Nat} {oi : Oper} {these : List Nat}
    (hI : Inv P ops B t S C SN listed L a w) (hi : ops[i]? = some oi) (hun : listed.getD i false = false) (hpr : ∀ q ∈ preds oi, listed.getD q false = true) (hL : ¬ ∃ p ∈ L, p.1 = i)
    (ho : onlyReady ops C these = true) : i ∈ these := by
  unfold onlyReady at ho
  have h1 := List.all_eq_true.1 ho i (List.mem_range.2 (Array.getElem?_eq_some_iff.1 hi).1)
  simp only [hi, Bool.or_eq_true] at h1
  rcases h1 with (h1 | h1) | h1
  · rcases (hI.mem i).1 h1 with h | h
    · rw [hun] at h; cases h
    · exact absurd h hL
  · simpa using h1
  · obtain ⟨q, hq, hq2⟩ := List.any_eq_true.1 h1
    have := (hI.mem q).2 (.inl (hpr q hq))
    rw [this] at hq2; cases hq2

theorem effect_step {P : Program} {ops : Array Oper} {Q : Exit → Act → World → Prop} {B : List Nat} (hB : ancOk ops B = true) (hA : apartOk ops = true) (hns : Region.noSelect ops = true)
    {listed : Array Bool} {a : Act} {w : World} {i : Nat} {oi : Oper} (hi : ops[i]? = some oi) (hun : listed.getD i true = false) (hpr : ∀ q ∈ preds oi, listed.getD q false = true)
    {t t' : RT} {fl : List Nat} {S : List (Nat × Value)} {C SN : List Nat} {L : List (Nat × Value)} (hI : Inv P ops B t S C SN listed L a w) (hL : ¬ ∃ p ∈ L, p.1 = i)
    (hfl : flOk B SN i fl = true) (hok : rtOk ops B t' (i :: C) SN = true)
    (hc : wpOp P ops (Strict Q) i (fun a' w' => floatsOk P ops fl S a' w' ∧ cwT P ops (Strict Q) t' S a' w') (putAll ops L a) w) :
    wpOp P ops (Strict Q) i (fun a' w' => ∃ L' t' S' C' SN', Inv P ops B t' S' C' SN' (listed.setIfInBounds i true) L' a' w' ∧ cwT P ops (Strict Q) t' S' (putAll ops L' a') w') a w := by
  have hun' := getD_done hun
  have hsel := fun (j : Nat) (o : Oper) (h : ops[j]? = some o) cs b => Region.noSelect_spec hns j o cs b h
  have hiC : C.contains i ≠ true := fun h => by
    rcases (hI.mem i).1 h with h | h
    · rw [hun'] at h; cases h
    · exact hL h
  have hnp : ∀ p ∈ L, p.1 ∉ preds oi := fun p hp h => by
    have h1 := hpr _ h
    rw [hI.apart.2 p hp] at h1; cases h1
  have hap : ∀ p ∈ L, ∃ o, ops[p.1]? = some o ∧ o.apart ops oi = true := fun p hp => by
    obtain ⟨o, ho, _⟩ := hI.yld p hp
    refine ⟨o, ho, apart_of hA ho hi (fun e => hL ⟨p, hp, e⟩) (fun h => hiC (hI.closed p hp o ho _ h)) (hnp p hp)⟩
  have hlt : i < listed.size := by rw [hI.size]; exact (Array.getElem?_eq_some_iff.1 hi).1
  have h1 := wpOp_pastAll hi (hsel i oi hi) L a hap hc
  refine wpOp_mono (fun a' w' h => ?_) (wpOp_strong hi h1)
  obtain ⟨⟨hf, hcw⟩, u, hu⟩ := h
  refine ⟨L, t', S, i :: C, SN, ⟨by simp [hI.size], ?_, ?_, ?_, hI.sub, ?_, ?_, hok⟩, hcw⟩
  · intro k o hk ho q hq
    rw [getD_set_iff hlt] at hk ⊢
    rcases hk with rfl | hk
    · rw [hi] at ho; cases ho; exact .inr (hpr q hq)
    · exact .inr (hI.down k o hk ho q hq)
  · intro j
    rw [List.contains_cons_nat, hI.mem j, getD_set_iff hlt]
    constructor
    · rintro (h | h | h)
      · exact .inl (.inl h)
      · exact .inl (.inr h)
      · exact .inr h
    · rintro ((h | h) | h)
      · exact .inl h
      · exact .inr (.inl h)
      · exact .inr (.inr h)
  · refine ⟨hI.apart.1, fun p hp => ?_⟩
    rw [getD_set_ne false (fun e => hL ⟨p, hp, e.symm⟩)]
    exact hI.apart.2 p hp
  · intro p hp
    obtain ⟨o, ho, hy⟩ := hI.yld p hp
    rcases hI.sub p hp with ⟨o', ho', hw⟩ | ⟨hS, hSN⟩
    · rw [ho] at ho'; cases ho'
      refine ⟨o, ho, ?_⟩
      refine Yld.worldless (w := w) hw ?_
      have e1 : (putAll ops L a').tmps = ((putAll ops L a).put oi.dst u).tmps := by
        rw [putAll_tmps L hu, putAll_put L a]
        intro p' hp' t' ht'
        obtain ⟨o'', ho'', _⟩ := hI.yld p' hp'
        rw [ho'']
        simp only [Option.bind_some]
        intro e
        exact ((apart_at hA ho'' hi).2 t' ht').1 (fun e => hL ⟨p', hp', e⟩) e
      refine Yld.tmps e1 ((Yld.put (hsel _ o ho) ?_).2 hy)
      intro t' ht'
      exact ((apart_at hA ho hi).2 t' ht').2 (fun h => hiC (hI.closed p hp o ho _ h))
    · refine floatsOk_mem hf p hS ?_
      have h2 := List.all_eq_true.1 hfl p.1 hSN
      simp only [Bool.or_eq_true, List.contains_iff_mem] at h2
      rcases h2 with h2 | h2
      · exact h2
      · have hd := anc_done hB (E := fun j => listed.getD j false = true) hI.down (i + 1) i (by omega) oi hi hpr p.1 h2 (Array.getElem?_eq_some_iff.1 ho).1
        rw [hI.apart.2 p hp] at hd; cases hd
  · intro p hp o ho q hq
    rw [List.contains_cons_nat]
    exact .inr (hI.closed p hp o ho q hq)

theorem advance {P : Program} {ops : Array Oper} {Q : Exit → Act → World → Prop} {B : List Nat} (hB : ancOk ops B = true) (hA : apartOk ops = true) (hns : Region.noSelect ops = true)
    {listed : Array Bool} {a : Act} {w : World} {i : Nat} {oi : Oper} (hi : ops[i]? = some oi) (hun : listed.getD i true = false) (hpr : ∀ q ∈ preds oi, listed.getD q false = true) :
    ∀ (t : RT) (S : List (Nat × Value)) (C SN : List Nat) (L : List (Nat × Value)), Inv P ops B t S C SN listed L a w → cwT P ops (Strict Q) t S (putAll ops L a) w →
      wpOp P ops (Strict Q) i (fun a' w' => ∃ L' t' S' C' SN', Inv P ops B t' S' C' SN' (listed.setIfInBounds i true) L' a' w' ∧ cwT P ops (Strict Q) t' S' (putAll ops L' a') w') a w := by
  have hun' := getD_done hun
  have hsel := fun (j : Nat) (o : Oper) (h : ops[j]? = some o) cs b => Region.noSelect_spec hns j o cs b h
  have inL : ∀ (t : RT) (S : List (Nat × Value)) (C SN : List Nat) (L : List (Nat × Value)), Inv P ops B t S C SN listed L a w → cwT P ops (Strict Q) t S (putAll ops L a) w → (∃ p ∈ L, p.1 = i) →
      wpOp P ops (Strict Q) i (fun a' w' => ∃ L' t' S' C' SN', Inv P ops B t' S' C' SN' (listed.setIfInBounds i true) L' a' w' ∧ cwT P ops (Strict Q) t' S' (putAll ops L' a') w') a w := by
    intro t S C SN L hI hc ⟨⟨j, v⟩, hp, hj⟩
    simp only [] at hj
    subst hj
    have hlt : j < listed.size := by rw [hI.size]; exact (Array.getElem?_eq_some_iff.1 hi).1
    have hnp : ∀ p ∈ L, p.1 ∉ preds oi := fun p hp h => by
      have h1 := hpr _ h
      rw [hI.apart.2 p hp] at h1; cases h1
    obtain ⟨o, ho, hy⟩ := hI.yld _ hp
    simp only [] at ho hy
    rw [hi] at ho; cases ho
    have hyA : Yld P ops oi v a w := by
      refine (Yld_pastAll (hsel j oi hi) L a fun p hp t ht => ?_).1 hy
      obtain ⟨o', ho', _⟩ := hI.yld p hp
      rw [ho'] at ht
      exact ((apart_at hA hi ho').2 t ht).2 (hnp p hp)
    refine hyA.wpOp' hi ?_
    have hput : putAll ops (L.filter (fun p => p.1 != j)) (a.put oi.dst v) = putAll ops L a := by
      refine putAll_erase L a j v oi hp hI.apart.1 hi fun p hp hne t ht => ?_
      obtain ⟨o', ho', _⟩ := hI.yld p hp
      rw [ho']
      simp only [Option.bind_some]
      exact ((apart_at hA ho' hi).2 t ht).1 hne
    refine ⟨L.filter (fun p => p.1 != j), t, S, C, SN, ⟨by simp [hI.size], ?_, ?_, ?_, ?_, ?_, ?_, hI.ok⟩, by rw [hput]; exact hc⟩
    · intro k o hk ho q hq
      rw [getD_set_iff hlt] at hk ⊢
      rcases hk with rfl | hk
      · rw [hi] at ho; cases ho; exact .inr (hpr q hq)
      · exact .inr (hI.down k o hk ho q hq)
    · intro k
      rw [hI.mem k, getD_set_iff hlt]
      constructor
      · rintro (h | ⟨p, hp, rfl⟩)
        · exact .inl (.inr h)
        · by_cases e : p.1 = j
          · exact .inl (.inl e)
          · exact .inr ⟨p, List.mem_filter.2 ⟨hp, by simpa using e⟩, rfl⟩
      · rintro ((rfl | h) | ⟨p, hp, rfl⟩)
        · exact .inr ⟨_, hp, rfl⟩
        · exact .inl h
        · exact .inr ⟨p, (List.mem_filter.1 hp).1, rfl⟩
    · refine ⟨hI.apart.1.sublist ((List.filter_sublist).map _), fun p hp => ?_⟩
      obtain ⟨h1, h2⟩ := List.mem_filter.1 hp
      rw [getD_set_ne false (by simpa using Ne.symm (by simpa using h2))]
      exact hI.apart.2 p h1
    · exact fun p hp => hI.sub p (List.mem_filter.1 hp).1
    · intro p hp
      rw [hput]
      exact hI.yld p (List.mem_filter.1 hp).1
    · exact fun p hp => hI.closed p (List.mem_filter.1 hp).1
  intro t
  induction t with
  | nil =>
    intro S C SN L hI hc
    by_cases hL : ∃ p ∈ L, p.1 = i
    · exact inL _ S C SN L hI hc hL
    · have h := hI.ok
      simp only [rtOk] at h
      have h1 := List.all_eq_true.1 h i (List.mem_range.2 (Array.getElem?_eq_some_iff.1 hi).1)
      rcases (hI.mem i).1 h1 with h1 | h1
      · rw [hun'] at h1; cases h1
      · exact absurd h1 hL
  | rd j t ih =>
    intro S C SN L hI hc
    by_cases hL : ∃ p ∈ L, p.1 = i
    · exact inL _ S C SN L hI hc hL
    · have hk := hI.ok
      simp only [rtOk, Bool.and_eq_true] at hk
      obtain ⟨hrdy, hk⟩ := hk
      obtain ⟨o, v, ho, hy, hc⟩ := hc
      unfold readyOk at hrdy
      simp only [ho, Bool.and_eq_true, Bool.not_eq_true'] at hrdy
      obtain ⟨hjC, hjp⟩ := hrdy
      have hjC' : C.contains j ≠ true := by rw [hjC]; simp
      have hjp' := List.all_eq_true.1 hjp
      have hself : ∀ t, o.dst = some t → t ∉ o.looksAt ops := fun t ht => ((apart_at hA ho ho).2 t ht).2 (fun h => hjC' (hjp' j h))
      refine ih ((j, v) :: S) (j :: C) (if worldless o then SN else j :: SN) ((j, v) :: L) ⟨hI.size, hI.down, ?_, ?_, ?_, ?_, ?_, ?_⟩ ?_
      · intro k
        rw [List.contains_cons_nat, hI.mem k]
        constructor
        · rintro (h | h | ⟨p, hp, h⟩)
          · exact .inr ⟨(j, v), by simp, h.symm⟩
          · exact .inl h
          · exact .inr ⟨p, List.mem_cons_of_mem _ hp, h⟩
        · rintro (h | ⟨p, hp, h⟩)
          · exact .inr (.inl h)
          · rcases List.mem_cons.1 hp with rfl | hp
            · exact .inl h.symm
            · exact .inr (.inr ⟨p, hp, h⟩)
      · have hj1 : ∀ p ∈ L, p.1 ≠ j := fun p hp e => hjC' ((hI.mem j).2 (.inr ⟨p, hp, e⟩))
        refine ⟨?_, fun p hp => ?_⟩
        · simp only [List.map_cons, List.nodup_cons]
          refine ⟨fun h => ?_, hI.apart.1⟩
          obtain ⟨p, hp, e⟩ := List.mem_map.1 h
          exact hj1 p hp e
        · rcases List.mem_cons.1 hp with rfl | hp
          · cases hl : listed.getD j false
            · rfl
            · exact absurd ((hI.mem j).2 (.inl hl)) hjC'
          · exact hI.apart.2 p hp
      · intro p hp
        rcases List.mem_cons.1 hp with rfl | hp
        · by_cases hw : worldless o = true
          · exact .inl ⟨o, ho, hw⟩
          · exact .inr ⟨by simp, by rw [if_neg hw]; simp⟩
        · rcases hI.sub p hp with h | ⟨h1, h2⟩
          · exact .inl h
          · refine .inr ⟨List.mem_cons_of_mem _ h1, ?_⟩
            split
            · exact h2
            · exact List.mem_cons_of_mem _ h2
      · intro p hp
        simp only [putAll, ho, Option.bind_some]
        rcases List.mem_cons.1 hp with rfl | hp
        · exact ⟨o, ho, (Yld.put (hsel j o ho) hself).2 hy⟩
        · obtain ⟨o', ho', hy'⟩ := hI.yld p hp
          refine ⟨o', ho', (Yld.put (hsel _ o' ho') fun t ht => ?_).2 hy'⟩
          exact ((apart_at hA ho' ho).2 t ht).2 (fun h => hjC' (hI.closed p hp o' ho' _ h))
      · intro p hp o' ho' q hq
        rw [List.contains_cons_nat]
        rcases List.mem_cons.1 hp with rfl | hp
        · simp only [] at ho'
          rw [ho] at ho'; cases ho'
          exact .inr (hjp' q hq)
        · exact .inr (hI.closed p hp o' ho' q hq)
      · simpa [ho] using hk
      · simp only [putAll, ho, Option.bind_some]; exact hc
  | e1 j fl t ih =>
    intro S C SN L hI hc
    by_cases hL : ∃ p ∈ L, p.1 = i
    · exact inL _ S C SN L hI hc hL
    · have hk := hI.ok
      simp only [rtOk, Bool.and_eq_true] at hk
      obtain ⟨⟨⟨hr, ho⟩, hf⟩, hk⟩ := hk
      have hij := only_one hI hi hun' hpr hL ho
      simp at hij
      subst hij
      exact effect_step hB hA hns hi hun hpr hI hL hf hk hc
  | e2 j fl t j' fl' t' ih ih' =>
    intro S C SN L hI hc
    by_cases hL : ∃ p ∈ L, p.1 = i
    · exact inL _ S C SN L hI hc hL
    · have hk := hI.ok
      simp only [rtOk, Bool.and_eq_true] at hk
      obtain ⟨⟨ho, ⟨hr, hf⟩, hk⟩, ⟨hr', hf'⟩, hk'⟩ := hk
      have hij := only_one hI hi hun' hpr hL ho
      simp at hij
      rcases hij with rfl | rfl
      · exact effect_step hB hA hns hi hun hpr hI hL hf hk hc.1
      · exact effect_step hB hA hns hi hun hpr hI hL hf' hk' hc.2
  | e3 j fl t j' fl' t' j'' fl'' t'' ih ih' ih'' =>
    intro S C SN L hI hc
    by_cases hL : ∃ p ∈ L, p.1 = i
    · exact inL _ S C SN L hI hc hL
    · have hk := hI.ok
      simp only [rtOk, Bool.and_eq_true] at hk
      obtain ⟨⟨⟨ho, ⟨hr, hf⟩, hk⟩, ⟨hr', hf'⟩, hk'⟩, ⟨hr'', hf''⟩, hk''⟩ := hk
      have hij := only_one hI hi hun' hpr hL ho
      simp at hij
      rcases hij with rfl | rfl | rfl
      · exact effect_step hB hA hns hi hun hpr hI hL hf hk hc.1
      · exact effect_step hB hA hns hi hun hpr hI hL hf' hk' hc.2.1
      · exact effect_step hB hA hns hi hun hpr hI hL hf'' hk'' hc.2.2

theorem count_set {ops : Array Oper} {listed : Array Bool} {i n : Nat} (hs : listed.size = ops.size) (hi : i < ops.size) (hun : listed.getD i false = false)
    (h : ((List.range ops.size).filter (fun j => !listed.getD j false)).length = n + 1) :
    ((List.range ops.size).filter (fun j => !(listed.setIfInBounds i true).getD j false)).length = n := by
  have e : (List.range ops.size).filter (fun j => !(listed.setIfInBounds i true).getD j false) = ((List.range ops.size).filter (fun j => !listed.getD j false)).filter (· != i) := by
    rw [List.filter_filter]
    refine List.filter_congr fun j _ => ?_
    by_cases hij : i = j
    · subst hij; simp [hs, hi]
    · rw [getD_set_ne false hij]
      have : (j != i) = true := by simpa using Ne.symm hij
      rw [this]; simp
  have hnd : ((List.range ops.size).filter (fun j => !listed.getD j false)).Nodup := List.nodup_range.filter _
  have hm : i ∈ (List.range ops.size).filter (fun j => !listed.getD j false) := List.mem_filter.2 ⟨List.mem_range.2 hi, by rw [hun]; rfl⟩
  rw [e, ← hnd.erase_eq_filter, List.length_erase_of_mem hm, h]
  omega

theorem wpAny_of_cwT {P : Program} {ops : Array Oper} {Q : Exit → Act → World → Prop} {B : List Nat} (hB : ancOk ops B = true) (hA : apartOk ops = true) (hns : Region.noSelect ops = true) :
    ∀ (fuel : Nat) (listed : Array Bool) (L : List (Nat × Value)) (t : RT) (S : List (Nat × Value)) (C SN : List Nat) (a : Act) (w : World),
      Inv P ops B t S C SN listed L a w → ((List.range ops.size).filter (fun j => !listed.getD j false)).length = fuel →
      cwT P ops (Strict Q) t S (putAll ops L a) w → wpAny P .any ops (Strict Q) fuel listed a w := by
  have ended : ∀ (listed : Array Bool) (L : List (Nat × Value)) (t : RT) (S : List (Nat × Value)) (C SN : List Nat) (a : Act) (w : World),
      Inv P ops B t S C SN listed L a w → (∀ j, j < ops.size → listed.getD j false = true) → cwT P ops (Strict Q) t S (putAll ops L a) w → Strict Q .normal a w := by
    intro listed L t S C SN a w hI hall hc
    have hL : L = [] := by
      cases L with
      | nil => rfl
      | cons p L =>
        obtain ⟨o, ho, _⟩ := hI.yld p (by simp)
        have h1 := hall p.1 (Array.getElem?_eq_some_iff.1 ho).1
        rw [hI.apart.2 p (by simp)] at h1; cases h1
    subst hL
    have hno : ∀ j, readyOk ops C j = true → False := fun j h => by
      unfold readyOk at h
      simp only [Bool.and_eq_true, Bool.not_eq_true'] at h
      cases ho : ops[j]? with
      | none => rw [ho] at h; simp at h
      | some o =>
        have h1 := (hI.mem j).2 (.inl (hall j (Array.getElem?_eq_some_iff.1 ho).1))
        rw [h.1] at h1; cases h1
    have hk := hI.ok
    cases t with
    | nil => exact hc
    | rd j t => simp only [rtOk, Bool.and_eq_true] at hk; exact (hno j hk.1).elim
    | e1 j fl t => simp only [rtOk, Bool.and_eq_true] at hk; exact (hno j hk.1.1.1).elim
    | e2 j fl t j' fl' t' => simp only [rtOk, Bool.and_eq_true] at hk; exact (hno j hk.1.2.1.1).elim
    | e3 j fl t j' fl' t' j'' fl'' t'' => simp only [rtOk, Bool.and_eq_true] at hk; exact (hno j hk.1.1.2.1.1).elim
  intro fuel
  induction fuel with
  | zero =>
    intro listed L t S C SN a w hI hf hc
    have hall : ∀ j, j < ops.size → listed.getD j false = true := fun j hj => by
      have h0 := List.eq_nil_of_length_eq_zero hf
      cases hl : listed.getD j false
      · have : j ∈ (List.range ops.size).filter (fun j => !listed.getD j false) := List.mem_filter.2 ⟨List.mem_range.2 hj, by rw [hl]; rfl⟩
        rw [h0] at this; cases this
      · rfl
    refine ⟨?_, ended listed L t S C SN a w hI hall hc⟩
    refine List.eq_nil_iff_forall_not_mem.2 fun j hj => ?_
    obtain ⟨h1, o, ho, _⟩ := mem_ready.1 hj
    have h2 := hall j (Array.getElem?_eq_some_iff.1 ho).1
    rw [getD_done h1] at h2; cases h2
  | succ fuel ih =>
    intro listed L t S C SN a w hI hf hc
    refine ⟨fun hr => ?_, fun i hi => ?_⟩
    · -- nothing is ready: all is done
      refine ended listed L t S C SN a w hI ?_ hc
      have key : ∀ n j, j < n → j < ops.size → listed.getD j false = true := by
        intro n
        induction n with
        | zero => intro j h; omega
        | succ n ihn =>
          intro j hj hjs
          cases hl : listed.getD j false with
          | true => rfl
          | false =>
            have ho : ops[j]? = some ops[j] := Array.getElem?_eq_getElem hjs
            have hm : j ∈ Region.ready .any ops listed := mem_ready.2 ⟨by
              have : j < listed.size := by rw [hI.size]; exact hjs
              simp [this] at hl ⊢; exact hl, _, ho, fun e he hb => by
              have hq := preds_binds he hb
              have hlt := (apart_at hA ho ho).1 _ hq
              exact ihn e.on (by omega) (by omega)⟩
            rw [hr] at hm; cases hm
      exact fun j hj => key (j + 1) j (by omega) hj
    · obtain ⟨h1, o, ho, hall⟩ := mem_ready.1 hi
      have := advance hB hA hns ho h1 (preds_all (p := fun q => listed.getD q false = true) hall) t S C SN L hI hc
      refine wpOp_mono (fun a' w' h => ?_) this
      obtain ⟨L', t', S', C', SN', hI', hc'⟩ := h
      exact ih _ L' t' S' C' SN' a' w' hI' (count_set hI.size (Array.getElem?_eq_some_iff.1 ho).1 (getD_done h1) hf) hc'

theorem getD_rep (n j : Nat) : (Array.replicate n false).getD j false = false := by
  rcases Nat.lt_or_ge j n with h | h
  · simp [h]
  · simp [h]

theorem wp_region_rt {P : Program} {ops : Array Oper} {Q : Exit → Act → World → Prop} {a : Act} {w : World} {id : Nat} (hm : P.follows .mixedOrders = true) (B : List Nat) (t : RT)
    (hok : regionOk ops B t = true) (h : cwT P ops (Strict Q) t [] a w.drew) : (Code.region id ops true).wp P Q a w := by
  unfold regionOk at hok
  simp only [Bool.and_eq_true] at hok
  obtain ⟨⟨⟨h1, h2⟩, h3⟩, h4⟩ := hok
  refine Code.wp_mono Strict.imp (wp_region_any hm ?_)
  refine wpAny_of_cwT h2 h3 h1 ops.size _ [] t [] [] [] a _ ⟨by simp, ?_, ?_, ⟨by simp, by simp⟩, by simp, by simp, by simp, h4⟩ ?_ h
  · intro i o hi
    rw [getD_rep] at hi; cases hi
  · intro j
    rw [getD_rep]; simp
  · rw [List.filter_eq_self.2 fun j _ => by rw [getD_rep]; rfl]; simp
end Go.Proofs.Ytioofhmkeajkpaa
