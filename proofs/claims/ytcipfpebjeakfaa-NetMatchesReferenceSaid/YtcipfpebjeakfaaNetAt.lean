/-
  The network of package net in memory: what its blocks hold, as a state of lists; and what each change of a block does to the state.
-/
import Derived.Test.YtcipfpebjeakfaaSteps
import Derived.Test.YtcipfpebjeakfaaRows
import Derived.WideKeyPair
namespace Go.Proofs.Ytcipfpebjeakfaa
open Go Go.RowKit

/-! ### the state -/
structure Msg where
  texts : List ByteArray
  length : Nat
  heard : Nat

inductive SetId where
  | has (i : Nat)
  | got (i j : Nat)
  | all
  deriving DecidableEq

structure NetS where
  n : Nat
  texts : Nat → List ByteArray
  sets : SetId → List ByteArray
  heard : Nat → Nat → Nat
  known : Nat → Nat → Nat
  queues : Nat → Nat → List Msg
  off : Nat → Nat → Bool

def upd {α : Type} (f : Nat → α) (i : Nat) (v : α) : Nat → α := fun j => if j = i then v else f j
def upd2 {α : Type} (f : Nat → Nat → α) (i j : Nat) (v : α) : Nat → Nat → α := fun a b => if a = i ∧ b = j then v else f a b
def updS (f : SetId → List ByteArray) (i : SetId) (v : List ByteArray) : SetId → List ByteArray := fun j => if j = i then v else f j

theorem upd_same {α : Type} (f : Nat → α) (i : Nat) (v : α) : upd f i v i = v := by simp [upd]
theorem upd_ne {α : Type} (f : Nat → α) {i j : Nat} (v : α) (h : j ≠ i) : upd f i v j = f j := by simp [upd, h]
theorem upd2_same {α : Type} (f : Nat → Nat → α) (i j : Nat) (v : α) : upd2 f i j v i j = v := by simp [upd2]
theorem upd2_ne {α : Type} (f : Nat → Nat → α) {i j a b : Nat} (v : α) (h : ¬ (a = i ∧ b = j)) : upd2 f i j v a b = f a b := by simp only [upd2, if_neg h]

/-- The valid sets. -/
def SetId.ok (n : Nat) : SetId → Prop
  | .has i => i < n
  | .got i j => i < n ∧ j < n
  | .all => True

/-! ### the blocks -/
inductive Tag where
  | oth | net | nodes | node (i : Nat) | set (s : SetId) | texts (i : Nat) | queues | cut | qcell (i j : Nat) | qrow (i j : Nat) | msg

structure Lay where
  nodes : Value
  queues : Nat
  cut : Nat
  node : Nat → Nat
  sets : SetId → Nat
  tv : Nat → Value
  qcell : Nat → Nat → Nat
  qv : Nat → Nat → Value
  mv : Nat → Nat → List Value
  tag : Nat → Tag

def strs (xs : List ByteArray) : List (Value × Value) := xs.map fun s => (.string s, .bool true)
def pairV (a b : Nat) : Value := .agg #[.int .i64 a, .int .i64 b]
abbrev ptr (b : Nat) : Value := .pointer (some ⟨b, 0, none⟩)
def msgCells : List Value → List Msg → List Value
  | v :: vs, m :: ms => v :: .int .i64 m.length :: .int .i64 m.heard :: msgCells vs ms
  | _, _ => []
def pairs (n : Nat) : List (Nat × Nat) := (List.range n).flatMap fun a => (List.range n).map fun b => (a, b)

def NodeCells (L : Lay) (S : NetS) (i : Nat) (c : Array Value) : Prop :=
  c.size = 26 ∧ c[0]? = some (L.tv i) ∧ c[1]? = some (.map (some (L.sets (.has i)))) ∧
  ∀ j, j < S.n → c[2 + j * 3]? = some (.int .i64 (S.heard i j)) ∧ c[2 + j * 3 + 1]? = some (.int .i64 (S.known i j)) ∧ c[2 + j * 3 + 2]? = some (.map (some (L.sets (.got i j))))

def CutOk (n : Nat) (off : Nat → Nat → Bool) (m : List (Value × Value)) : Prop :=
  (∀ k v, (k, v) ∈ m → v = .bool true ∧ ∃ a b, a < b ∧ b < n ∧ k = pairV a b ∧ off a b = true) ∧ ∀ a b, a < b → b < n → off a b = true → pairV a b ∈ m.map (·.1)

structure NetAt (w : World) (p : Nat) (L : Lay) (S : NetS) : Prop where
  n8 : S.n ≤ 8
  fresh : ∀ b, w.heap.size ≤ b → L.tag b = .oth
  tnet : L.tag p = .net
  net : Blk w p 55 #[L.nodes, .map (some L.queues), .map (some L.cut), .map (some (L.sets .all))]
  tnodes : ∀ b, rowBlock L.nodes = some b → L.tag b = .nodes
  nodes : Row w 56 1 L.nodes ((List.range S.n).map fun i => ptr (L.node i))
  tnode : ∀ i, i < S.n → L.tag (L.node i) = .node i
  node : ∀ i, i < S.n → ∃ c, Blk w (L.node i) 61 c ∧ NodeCells L S i c
  tset : ∀ s, s.ok S.n → L.tag (L.sets s) = .set s
  sets : ∀ s, s.ok S.n → MapAt Try.prog 9 w (L.sets s) (strs (S.sets s))
  ttexts : ∀ i, i < S.n → ∀ b, rowBlock (L.tv i) = some b → L.tag b = .texts i
  texts : ∀ i, i < S.n → Row w 9 1 (L.tv i) ((S.texts i).map .string)
  tqueues : L.tag L.queues = .queues
  queues : MapAt Try.prog 66 w L.queues ((pairs S.n).map fun p => (pairV p.1 p.2, ptr (L.qcell p.1 p.2)))
  tcut : L.tag L.cut = .cut
  cut : ∃ m, MapAt Try.prog 66 w L.cut m ∧ CutOk S.n S.off m
  tqcell : ∀ i j, i < S.n → j < S.n → L.tag (L.qcell i j) = .qcell i j
  qcell : ∀ i j, i < S.n → j < S.n → Blk w (L.qcell i j) 65 #[L.qv i j]
  tqrow : ∀ i j, i < S.n → j < S.n → ∀ b, rowBlock (L.qv i j) = some b → L.tag b = .qrow i j
  qrow : ∀ i j, i < S.n → j < S.n → Row w 83 3 (L.qv i j) (msgCells (L.mv i j) (S.queues i j))
  mlen : ∀ i j, i < S.n → j < S.n → (L.mv i j).length = (S.queues i j).length
  msgs : ∀ i j, i < S.n → j < S.n → ∀ (k : Nat) (v : Value) (m : Msg), (L.mv i j)[k]? = some v → (S.queues i j)[k]? = some m →
    Row w 9 1 v (m.texts.map .string) ∧ ∀ b, rowBlock v = some b → L.tag b = .msg

/-- The state is within its limits. -/
structure Wf (S : NetS) : Prop where
  n1 : 1 ≤ S.n
  n8 : S.n ≤ 8
  allN : (S.sets .all).Nodup
  all : (S.sets .all).length ≤ 1000
  size : ∀ s ∈ S.sets .all, s.size ≤ 20000
  textsN : ∀ i, i < S.n → (S.texts i).Nodup
  texts : ∀ i, i < S.n → ∀ s ∈ S.texts i, s ∈ S.sets .all
  has : ∀ i, i < S.n → S.sets (.has i) = S.texts i
  gotN : ∀ i j, i < S.n → j < S.n → (S.sets (.got i j)).Nodup
  got : ∀ i j, i < S.n → j < S.n → ∀ s ∈ S.sets (.got i j), s ∈ S.sets .all
  heard : ∀ i j, i < S.n → j < S.n → S.heard i j ≤ 1000
  known : ∀ i j, i < S.n → j < S.n → S.known i j ≤ 1000
  qlen : ∀ i j, i < S.n → j < S.n → (S.queues i j).length ≤ 100
  msg : ∀ i j, i < S.n → j < S.n → ∀ m ∈ S.queues i j, m.texts.Nodup ∧ (∀ s ∈ m.texts, s ∈ S.sets .all) ∧ m.length ≤ 1000 ∧ m.heard ≤ 1000
  sym : ∀ i j, S.off i j = S.off j i

section
variable {w w' : World} {p : Nat} {L : Lay} {S : NetS} {F : Nat → Prop}

theorem NetAt.ltag (h : NetAt w p L S) {b : Nat} (hb : L.tag b ≠ .oth) : b < w.heap.size := by
  rcases Nat.lt_or_ge b w.heap.size with h' | h'
  · exact h'
  · exact absurd (h.fresh b h') hb

/-- Nothing of the network has turned. -/
theorem NetAt.keep (h : NetAt w p L S) (ht : Touch F w w') (hF : ∀ b, F b → L.tag b = .oth) :
    NetAt w' p L S := by
  have nf : ∀ {b : Nat} {t : Tag}, L.tag b = t → t ≠ .oth → ¬ F b := fun hb hne hf => hne (hb ▸ hF _ hf)
  exact {
    n8 := h.n8
    fresh := fun b hb => h.fresh b (Nat.le_trans ht.size hb)
    tnet := h.tnet
    net := ht.obj h.net (nf h.tnet (by simp))
    tnodes := h.tnodes
    nodes := h.nodes.keep ht fun b hb => nf (h.tnodes b hb) (by simp)
    tnode := h.tnode
    node := fun i hi => by
      obtain ⟨c, hc, hn⟩ := h.node i hi
      exact ⟨c, ht.obj hc (nf (h.tnode i hi) (by simp)), hn⟩
    tset := h.tset
    sets := fun s hs => (h.sets s hs).keep ht (nf (h.tset s hs) (by simp))
    ttexts := h.ttexts
    texts := fun i hi => (h.texts i hi).keep ht fun b hb => nf (h.ttexts i hi b hb) (by simp)
    tqueues := h.tqueues
    queues := h.queues.keep ht (nf h.tqueues (by simp))
    tcut := h.tcut
    cut := by
      obtain ⟨m, hm, hc⟩ := h.cut
      exact ⟨m, hm.keep ht (nf h.tcut (by simp)), hc⟩
    tqcell := h.tqcell
    qcell := fun i j hi hj => ht.obj (h.qcell i j hi hj) (nf (h.tqcell i j hi hj) (by simp))
    tqrow := h.tqrow
    qrow := fun i j hi hj => (h.qrow i j hi hj).keep ht fun b hb => nf (h.tqrow i j hi hj b hb) (by simp)
    mlen := h.mlen
    msgs := fun i j hi hj k v m hv hm => ⟨(h.msgs i j hi hj k v m hv hm).1.keep ht fun b hb => nf ((h.msgs i j hi hj k v m hv hm).2 b hb) (by simp), (h.msgs i j hi hj k v m hv hm).2⟩ }

theorem NetAt.alloc (h : NetAt w p L S) (o : Obj) : NetAt (w.alloc o) p L S := h.keep (Ext.alloc w o) fun _ hf => hf.elim
theorem NetAt.drew (h : NetAt w p L S) : NetAt w.drew p L S := h.keep (F := fun _ => False) ((Touch.refl _ w).drew) fun _ hf => hf.elim

/-- A set has got another list. -/
theorem NetAt.setSet (h : NetAt w p L S) {s : SetId} (hs : s.ok S.n) (xs : List ByteArray) (ht : Touch (· = L.sets s) w w') (hm : MapAt Try.prog 9 w' (L.sets s) (strs xs)) :
    NetAt w' p L { S with sets := updS S.sets s xs } := by
  have nf : ∀ {b : Nat} {t : Tag}, L.tag b = t → t ≠ .set s → ¬ (b = L.sets s) := fun hb hne hf => hne (by rw [← hb, hf]; exact (h.tset s hs).symm ▸ rfl)
  exact {
    n8 := h.n8
    fresh := fun b hb => h.fresh b (Nat.le_trans ht.size hb)
    tnet := h.tnet
    net := ht.obj h.net (nf h.tnet (by simp))
    tnodes := h.tnodes
    nodes := h.nodes.keep ht fun b hb => nf (h.tnodes b hb) (by simp)
    tnode := h.tnode
    node := fun i hi => by
      obtain ⟨c, hc, hn⟩ := h.node i hi
      exact ⟨c, ht.obj hc (nf (h.tnode i hi) (by simp)), hn⟩
    tset := h.tset
    sets := fun s' hs' => by
      by_cases e : s' = s
      · subst e; simpa [updS] using hm
      · simpa [updS, e] using (h.sets s' hs').keep ht (nf (h.tset s' hs') (by simpa using e))
    ttexts := h.ttexts
    texts := fun i hi => (h.texts i hi).keep ht fun b hb => nf (h.ttexts i hi b hb) (by simp)
    tqueues := h.tqueues
    queues := h.queues.keep ht (nf h.tqueues (by simp))
    tcut := h.tcut
    cut := by
      obtain ⟨m, hm, hc⟩ := h.cut
      exact ⟨m, hm.keep ht (nf h.tcut (by simp)), hc⟩
    tqcell := h.tqcell
    qcell := fun i j hi hj => ht.obj (h.qcell i j hi hj) (nf (h.tqcell i j hi hj) (by simp))
    tqrow := h.tqrow
    qrow := fun i j hi hj => (h.qrow i j hi hj).keep ht fun b hb => nf (h.tqrow i j hi hj b hb) (by simp)
    mlen := h.mlen
    msgs := fun i j hi hj k v m hv hm => ⟨(h.msgs i j hi hj k v m hv hm).1.keep ht fun b hb => nf ((h.msgs i j hi hj k v m hv hm).2 b hb) (by simp), (h.msgs i j hi hj k v m hv hm).2⟩ }

/-- A node has got another list of texts, in a row of its own. -/
theorem NetAt.setTexts (h : NetAt w p L S) {i : Nat} (hi : i < S.n) {v : Value} {c : Array Value} (xs : List ByteArray) (hc0 : Blk w (L.node i) 61 c) (hn : NodeCells L S i c)
    (ht : Touch (fun b => b = L.node i ∨ rowBlock (L.tv i) = some b) w w') (hc : Blk w' (L.node i) 61 (c.setIfInBounds 0 v)) (hr : Row w' 9 1 v (xs.map .string))
    (hv : rowBlock v = rowBlock (L.tv i) ∨ ∃ g, rowBlock v = some g ∧ w.heap.size ≤ g ∧ g < w'.heap.size) :
    NetAt w' p { L with tv := upd L.tv i v, tag := fun b => if rowBlock v = some b then .texts i else L.tag b } { S with texts := upd S.texts i xs } := by
  have hne : ∀ {b : Nat} {t : Tag}, L.tag b = t → t ≠ .oth → t ≠ .texts i → (if rowBlock v = some b then Tag.texts i else L.tag b) = t := by
    intro b t hb h1 h2
    rw [if_neg, hb]
    intro e
    rcases hv with hv | ⟨g, hg, hg1, hg2⟩
    · exact h2 (by rw [← hb]; exact h.ttexts i hi b (by rw [← hv]; exact e))
    · rw [hg] at e
      injection e with e
      subst e
      exact h1 (by rw [← hb]; exact h.fresh _ hg1)
  have nf : ∀ {b : Nat} {t : Tag}, L.tag b = t → t ≠ .node i → t ≠ .texts i → ¬ (b = L.node i ∨ rowBlock (L.tv i) = some b) := by
    rintro b t hb h1 h2 (rfl | hf)
    · exact h1 (by rw [← hb]; exact h.tnode i hi)
    · exact h2 (by rw [← hb]; exact h.ttexts i hi b hf)
  exact {
    n8 := h.n8
    fresh := fun b hb => by
      show (if rowBlock v = some b then Tag.texts i else L.tag b) = .oth
      rw [if_neg, h.fresh b (Nat.le_trans ht.size hb)]
      intro e
      have := hr.lt e
      omega
    tnet := hne h.tnet (by simp) (by simp)
    net := ht.obj h.net (nf h.tnet (by simp) (by simp))
    tnodes := fun b hb => hne (h.tnodes b hb) (by simp) (by simp)
    nodes := h.nodes.keep ht fun b hb => nf (h.tnodes b hb) (by simp) (by simp)
    tnode := fun k hk => hne (h.tnode k hk) (by simp) (by simp)
    node := fun k hk => by
      by_cases e : k = i
      · subst e
        refine ⟨_, hc, ?_⟩
        obtain ⟨h1, h2, h3, h4⟩ := hn
        refine ⟨by simpa using h1, by simp [upd, h1], ?_, fun j hj => ?_⟩
        · rw [Array.getElem?_setIfInBounds_ne (by omega)]; exact h3
        · obtain ⟨a1, a2, a3⟩ := h4 j hj
          refine ⟨?_, ?_, ?_⟩
          · rw [Array.getElem?_setIfInBounds_ne (by omega)]; exact a1
          · rw [Array.getElem?_setIfInBounds_ne (by omega)]; exact a2
          · rw [Array.getElem?_setIfInBounds_ne (by omega)]; exact a3
      · obtain ⟨c', hc', hn'⟩ := h.node k hk
        refine ⟨c', ht.obj hc' (nf (h.tnode k hk) (by simpa using e) (by simp)), ?_⟩
        obtain ⟨h1, h2, h3, h4⟩ := hn'
        exact ⟨h1, by simpa [upd, e] using h2, h3, h4⟩
    tset := fun s hs => hne (h.tset s hs) (by simp) (by simp)
    sets := fun s hs => (h.sets s hs).keep ht (nf (h.tset s hs) (by simp) (by simp))
    ttexts := fun k hk b hb => by
      by_cases e : k = i
      · subst e
        simp only [upd, if_true] at hb
        simp only [hb, if_true]
      · simp only [upd, if_neg e] at hb
        exact hne (h.ttexts k hk b hb) (by simp) (by simpa using e)
    texts := fun k hk => by
      by_cases e : k = i
      · subst e; simpa [upd] using hr
      · simpa [upd, e] using (h.texts k hk).keep ht fun b hb => nf (h.ttexts k hk b hb) (by simp) (by simpa using e)
    tqueues := hne h.tqueues (by simp) (by simp)
    queues := h.queues.keep ht (nf h.tqueues (by simp) (by simp))
    tcut := hne h.tcut (by simp) (by simp)
    cut := by
      obtain ⟨m, hm, hc⟩ := h.cut
      exact ⟨m, hm.keep ht (nf h.tcut (by simp) (by simp)), hc⟩
    tqcell := fun i j hi hj => hne (h.tqcell i j hi hj) (by simp) (by simp)
    qcell := fun i j hi hj => ht.obj (h.qcell i j hi hj) (nf (h.tqcell i j hi hj) (by simp) (by simp))
    tqrow := fun i j hi hj b hb => hne (h.tqrow i j hi hj b hb) (by simp) (by simp)
    qrow := fun i j hi hj => (h.qrow i j hi hj).keep ht fun b hb => nf (h.tqrow i j hi hj b hb) (by simp) (by simp)
    mlen := h.mlen
    msgs := fun i j hi hj k v m hv hm => ⟨(h.msgs i j hi hj k v m hv hm).1.keep ht fun b hb => nf ((h.msgs i j hi hj k v m hv hm).2 b hb) (by simp) (by simp), fun b hb => hne ((h.msgs i j hi hj k v m hv hm).2 b hb) (by simp) (by simp)⟩ }

/-- What a node heard from another one, and knows of it, has turned. -/
theorem NetAt.setPeer (h : NetAt w p L S) {i j : Nat} (hi : i < S.n) (hj : j < S.n) {c c' : Array Value} (x y : Nat) (hc0 : Blk w (L.node i) 61 c) (hn : NodeCells L S i c)
    (ht : Touch (· = L.node i) w w') (hc : Blk w' (L.node i) 61 c') (hc1 : c' = (c.setIfInBounds (2 + j * 3) (.int .i64 x)).setIfInBounds (2 + j * 3 + 1) (.int .i64 y)) :
    NetAt w' p L { S with heard := upd2 S.heard i j x, known := upd2 S.known i j y } := by
  have nf : ∀ {b : Nat} {t : Tag}, L.tag b = t → t ≠ .node i → ¬ (b = L.node i) := fun hb hne hf => hne (by rw [← hb, hf]; exact h.tnode i hi)
  exact {
    n8 := h.n8
    fresh := fun b hb => h.fresh b (Nat.le_trans ht.size hb)
    tnet := h.tnet
    net := ht.obj h.net (nf h.tnet (by simp))
    tnodes := h.tnodes
    nodes := h.nodes.keep ht fun b hb => nf (h.tnodes b hb) (by simp)
    tnode := h.tnode
    node := fun k hk => by
      by_cases e : k = i
      · subst e
        refine ⟨_, hc, ?_⟩
        obtain ⟨h1, h2, h3, h4⟩ := hn
        have h8 := h.n8
        subst hc1
        refine ⟨by simpa using h1, ?_, ?_, fun l hl => ?_⟩
        · rw [Array.getElem?_setIfInBounds_ne (by omega), Array.getElem?_setIfInBounds_ne (by omega)]; exact h2
        · rw [Array.getElem?_setIfInBounds_ne (by omega), Array.getElem?_setIfInBounds_ne (by omega)]; exact h3
        · have hl' : l < 8 := Nat.lt_of_lt_of_le hl h.n8
          obtain ⟨a1, a2, a3⟩ := h4 l hl
          by_cases el : l = j
          · subst el
            refine ⟨?_, ?_, ?_⟩
            · have hz : 2 + l * 3 < c.size := by rw [h1]; omega
              rw [Array.getElem?_setIfInBounds_ne (by omega)]; simp [upd2, hz]
            · have hz : 2 + l * 3 + 1 < c.size := by rw [h1]; omega
              simp [upd2, hz]
            · rw [Array.getElem?_setIfInBounds_ne (by omega), Array.getElem?_setIfInBounds_ne (by omega)]; exact a3
          · refine ⟨?_, ?_, ?_⟩
            · rw [Array.getElem?_setIfInBounds_ne (by omega), Array.getElem?_setIfInBounds_ne (by omega)]; simpa [upd2, el] using a1
            · rw [Array.getElem?_setIfInBounds_ne (by omega), Array.getElem?_setIfInBounds_ne (by omega)]; simpa [upd2, el] using a2
            · rw [Array.getElem?_setIfInBounds_ne (by omega), Array.getElem?_setIfInBounds_ne (by omega)]; exact a3
      · obtain ⟨c', hc', hn'⟩ := h.node k hk
        refine ⟨c', ht.obj hc' (nf (h.tnode k hk) (by simpa using e)), ?_⟩
        obtain ⟨h1, h2, h3, h4⟩ := hn'
        refine ⟨h1, h2, h3, fun l hl => ?_⟩
        obtain ⟨a1, a2, a3⟩ := h4 l hl
        exact ⟨by simpa [upd2, e] using a1, by simpa [upd2, e] using a2, a3⟩
    tset := h.tset
    sets := fun s hs => (h.sets s hs).keep ht (nf (h.tset s hs) (by simp))
    ttexts := h.ttexts
    texts := fun i hi => (h.texts i hi).keep ht fun b hb => nf (h.ttexts i hi b hb) (by simp)
    tqueues := h.tqueues
    queues := h.queues.keep ht (nf h.tqueues (by simp))
    tcut := h.tcut
    cut := by
      obtain ⟨m, hm, hc⟩ := h.cut
      exact ⟨m, hm.keep ht (nf h.tcut (by simp)), hc⟩
    tqcell := h.tqcell
    qcell := fun i j hi hj => ht.obj (h.qcell i j hi hj) (nf (h.tqcell i j hi hj) (by simp))
    tqrow := h.tqrow
    qrow := fun i j hi hj => (h.qrow i j hi hj).keep ht fun b hb => nf (h.tqrow i j hi hj b hb) (by simp)
    mlen := h.mlen
    msgs := fun i j hi hj k v m hv hm => ⟨(h.msgs i j hi hj k v m hv hm).1.keep ht fun b hb => nf ((h.msgs i j hi hj k v m hv hm).2 b hb) (by simp), (h.msgs i j hi hj k v m hv hm).2⟩ }

/-- A queue has got other messages, in a row of its own; the rows of new texts are new. -/
theorem NetAt.setQueue (h : NetAt w p L S) {i j : Nat} (hi : i < S.n) (hj : j < S.n) {v : Value} (ms : List Value) (ds : List Msg) (N : Nat → Prop)
    (ht : Touch (fun b => b = L.qcell i j ∨ rowBlock (L.qv i j) = some b) w w') (hc : Blk w' (L.qcell i j) 65 #[v]) (hr : Row w' 83 3 v (msgCells ms ds)) (hl : ms.length = ds.length)
    (hv : (∀ b, rowBlock v = some b → rowBlock (L.qv i j) = some b) ∨ ∃ g, rowBlock v = some g ∧ L.tag g = .oth ∧ g < w'.heap.size ∧ ¬ N g)
    (hN : ∀ b, N b → L.tag b = .oth ∧ b < w'.heap.size)
    (hm : ∀ (k : Nat) (u : Value) (m : Msg), ms[k]? = some u → ds[k]? = some m → Row w' 9 1 u (m.texts.map .string) ∧ ∀ b, rowBlock u = some b → L.tag b = .msg ∨ N b) :
    NetAt w' p { L with qv := upd2 L.qv i j v, mv := upd2 L.mv i j ms, tag := open Classical in fun b => if N b then .msg else if rowBlock v = some b then .qrow i j else L.tag b } { S with queues := upd2 S.queues i j ds } := by
  have hne : ∀ {b : Nat} {t : Tag}, L.tag b = t → t ≠ .oth → t ≠ .qrow i j → (open Classical in if N b then Tag.msg else if rowBlock v = some b then .qrow i j else L.tag b) = t := by
    intro b t hb h1 h2
    rw [if_neg (fun hn => h1 (by rw [← hb]; exact (hN b hn).1)), if_neg, hb]
    intro e
    rcases hv with hv | ⟨g, hg, hg1, hg2⟩
    · exact h2 (by rw [← hb]; exact h.tqrow i j hi hj b (hv b e))
    · rw [hg] at e
      injection e with e
      subst e
      exact h1 (by rw [← hb]; exact hg1)
  have nf : ∀ {b : Nat} {t : Tag}, L.tag b = t → t ≠ .qcell i j → t ≠ .qrow i j → ¬ (b = L.qcell i j ∨ rowBlock (L.qv i j) = some b) := by
    rintro b t hb h1 h2 (rfl | hf)
    · exact h1 (by rw [← hb]; exact h.tqcell i j hi hj)
    · exact h2 (by rw [← hb]; exact h.tqrow i j hi hj b hf)
  exact {
    n8 := h.n8
    fresh := fun b hb => by
      show (open Classical in if N b then Tag.msg else if rowBlock v = some b then .qrow i j else L.tag b) = .oth
      rw [if_neg (fun hn => by have := (hN b hn).2; omega), if_neg, h.fresh b (Nat.le_trans ht.size hb)]
      intro e
      have := hr.lt e
      omega
    tnet := hne h.tnet (by simp) (by simp)
    net := ht.obj h.net (nf h.tnet (by simp) (by simp))
    tnodes := fun b hb => hne (h.tnodes b hb) (by simp) (by simp)
    nodes := h.nodes.keep ht fun b hb => nf (h.tnodes b hb) (by simp) (by simp)
    tnode := fun k hk => hne (h.tnode k hk) (by simp) (by simp)
    node := fun i hi => by
      obtain ⟨c, hc, hn⟩ := h.node i hi
      exact ⟨c, ht.obj hc (nf (h.tnode i hi) (by simp) (by simp)), hn⟩
    tset := fun s hs => hne (h.tset s hs) (by simp) (by simp)
    sets := fun s hs => (h.sets s hs).keep ht (nf (h.tset s hs) (by simp) (by simp))
    ttexts := fun k hk b hb => hne (h.ttexts k hk b hb) (by simp) (by simp)
    texts := fun k hk => (h.texts k hk).keep ht fun b hb => nf (h.ttexts k hk b hb) (by simp) (by simp)
    tqueues := hne h.tqueues (by simp) (by simp)
    queues := h.queues.keep ht (nf h.tqueues (by simp) (by simp))
    tcut := hne h.tcut (by simp) (by simp)
    cut := by
      obtain ⟨m, hm, hc⟩ := h.cut
      exact ⟨m, hm.keep ht (nf h.tcut (by simp) (by simp)), hc⟩
    tqcell := fun i j hi hj => hne (h.tqcell i j hi hj) (by simp) (by simp)
    qcell := fun a b ha hb => by
      by_cases e : a = i ∧ b = j
      · obtain ⟨rfl, rfl⟩ := e; simpa [upd2] using hc
      · simpa only [upd2, if_neg e] using ht.obj (h.qcell a b ha hb) (nf (h.tqcell a b ha hb) (by simpa using e) (by simp))
    tqrow := fun a b ha hb g hg => by
      by_cases e : a = i ∧ b = j
      · obtain ⟨rfl, rfl⟩ := e
        simp only [upd2, and_self, if_true] at hg
        have hnn : ¬ N g := fun hn => by
          rcases hv with hv | ⟨g', hg', _, _, hg2⟩
          · have := h.tqrow a b ha hb g (hv g hg)
            rw [(hN g hn).1] at this; cases this
          · rw [hg'] at hg; injection hg with hg; subst hg; exact hg2 hn
        simp only [if_neg hnn, hg, if_true]
      · simp only [upd2, if_neg e] at hg
        exact hne (h.tqrow a b ha hb g hg) (by simp) (by simpa using e)
    qrow := fun a b ha hb => by
      by_cases e : a = i ∧ b = j
      · obtain ⟨rfl, rfl⟩ := e; simpa [upd2] using hr
      · simpa only [upd2, if_neg e] using (h.qrow a b ha hb).keep ht fun g hg => nf (h.tqrow a b ha hb g hg) (by simp) (by simpa using e)
    mlen := fun a b ha hb => by
      by_cases e : a = i ∧ b = j
      · obtain ⟨rfl, rfl⟩ := e; simpa [upd2] using hl
      · simpa only [upd2, if_neg e] using h.mlen a b ha hb
    msgs := fun a b ha hb k u m hu hm' => by
      by_cases e : a = i ∧ b = j
      · obtain ⟨rfl, rfl⟩ := e
        simp only [upd2, and_self, if_true] at hu hm'
        obtain ⟨h1, h2⟩ := hm k u m hu hm'
        refine ⟨h1, fun g hg => ?_⟩
        rcases h2 g hg with h3 | h3
        · exact hne h3 (by simp) (by simp)
        · simp only [h3, if_true]
      · simp only [upd2, if_neg e] at hu hm'
        exact ⟨(h.msgs a b ha hb k u m hu hm').1.keep ht fun g hg => nf ((h.msgs a b ha hb k u m hu hm').2 g hg) (by simp) (by simp), fun g hg => hne ((h.msgs a b ha hb k u m hu hm').2 g hg) (by simp) (by simp)⟩ }

/-- The map of cut lines has turned. -/
theorem NetAt.setCut (h : NetAt w p L S) (off : Nat → Nat → Bool) {m : List (Value × Value)} (ht : Touch (· = L.cut) w w') (hm : MapAt Try.prog 66 w' L.cut m) (hc : CutOk S.n off m) :
    NetAt w' p L { S with off := off } := by
  have nf : ∀ {b : Nat} {t : Tag}, L.tag b = t → t ≠ .cut → ¬ (b = L.cut) := fun hb hne hf => hne (by rw [← hb, hf]; exact h.tcut)
  exact {
    n8 := h.n8
    fresh := fun b hb => h.fresh b (Nat.le_trans ht.size hb)
    tnet := h.tnet
    net := ht.obj h.net (nf h.tnet (by simp))
    tnodes := h.tnodes
    nodes := h.nodes.keep ht fun b hb => nf (h.tnodes b hb) (by simp)
    tnode := h.tnode
    node := fun i hi => by
      obtain ⟨c, hc, hn⟩ := h.node i hi
      exact ⟨c, ht.obj hc (nf (h.tnode i hi) (by simp)), hn⟩
    tset := h.tset
    sets := fun s hs => (h.sets s hs).keep ht (nf (h.tset s hs) (by simp))
    ttexts := h.ttexts
    texts := fun i hi => (h.texts i hi).keep ht fun b hb => nf (h.ttexts i hi b hb) (by simp)
    tqueues := h.tqueues
    queues := h.queues.keep ht (nf h.tqueues (by simp))
    tcut := h.tcut
    cut := ⟨m, hm, hc⟩
    tqcell := h.tqcell
    qcell := fun i j hi hj => ht.obj (h.qcell i j hi hj) (nf (h.tqcell i j hi hj) (by simp))
    tqrow := h.tqrow
    qrow := fun i j hi hj => (h.qrow i j hi hj).keep ht fun b hb => nf (h.tqrow i j hi hj b hb) (by simp)
    mlen := h.mlen
    msgs := fun i j hi hj k v m hv hm => ⟨(h.msgs i j hi hj k v m hv hm).1.keep ht fun b hb => nf ((h.msgs i j hi hj k v m hv hm).2 b hb) (by simp), (h.msgs i j hi hj k v m hv hm).2⟩ }
end
end Go.Proofs.Ytcipfpebjeakfaa
