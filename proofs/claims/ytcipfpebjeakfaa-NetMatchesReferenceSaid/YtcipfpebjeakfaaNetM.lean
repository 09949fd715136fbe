/-
  A network half made: what New's loops keep.
-/
import Derived.Test.YtcipfpebjeakfaaNetJ
namespace Go.Proofs.Ytcipfpebjeakfaa
open Go Go.RowKit Go.WideMaps

/-- The state of a new network. -/
def NetS.fresh (n : Nat) : NetS := ⟨n, fun _ => [], fun _ => [], fun _ _ => 0, fun _ _ => 0, fun _ _ => [], fun _ _ => false⟩

def tagU (tag : Nat → Tag) (g : Nat) (t : Tag) : Nat → Tag := fun x => if x = g then t else tag x
theorem tagU_same (tag : Nat → Tag) (g : Nat) (t : Tag) : tagU tag g t g = t := by simp [tagU]
theorem tagU_ne {tag : Nat → Tag} {g : Nat} (t : Tag) {x : Nat} (h : x ≠ g) : tagU tag g t x = tag x := by simp [tagU, h]

def pairsTo (n a b : Nat) : List (Nat × Nat) := (List.range a).flatMap (fun i => (List.range n).map fun j => (i, j)) ++ (List.range b).map fun j => (a, j)
theorem pairsTo_full (n : Nat) : pairsTo n n 0 = pairs n := by simp [pairsTo, pairs]
theorem pairsTo_next (n a : Nat) : pairsTo n a n = pairsTo n (a + 1) 0 := by
  simp [pairsTo, List.range_succ]
theorem pairsTo_one (n a b : Nat) : pairsTo n a (b + 1) = pairsTo n a b ++ [(a, b)] := by
  simp [pairsTo, List.range_succ, List.append_assoc]

/-- Nodes 0 .. a-1 are whole; if cur, node a is there with b of its peers. -/
structure NewAt (B : Nat) (w : World) (p : Nat) (L : Lay) (n a : Nat) (cur : Bool) (b : Nat) : Prop where
  fresh : ∀ x, w.heap.size ≤ x → L.tag x = .oth
  old : ∀ x, x < B → L.tag x = .oth
  tnet : L.tag p = .net
  net : Blk w p 55 #[L.nodes, .map (some L.queues), .map (some L.cut), .map (some (L.sets .all))]
  tnodes : ∀ b, rowBlock L.nodes = some b → L.tag b = .nodes
  nodes : Row w 56 1 L.nodes ((List.range a).map fun i => ptr (L.node i))
  tnode : ∀ i, (i < a ∨ (cur = true ∧ i = a)) → L.tag (L.node i) = .node i
  node : ∀ i, (i < a ∨ (cur = true ∧ i = a)) → ∃ c, Blk w (L.node i) 61 c ∧ c.size = 26 ∧ c[0]? = some (.slice none 0 0) ∧ c[1]? = some (.map (some (L.sets (.has i)))) ∧
    (∀ j, j < 8 → c[2 + j * 3]? = some (.int .i64 0) ∧ c[2 + j * 3 + 1]? = some (.int .i64 0)) ∧ ∀ j, ((i < a ∧ j < n) ∨ (cur = true ∧ i = a ∧ j < b)) → c[2 + j * 3 + 2]? = some (.map (some (L.sets (.got i j))))
  tall : L.tag (L.sets .all) = .set .all
  all : MapAt Try.prog 9 w (L.sets .all) []
  thas : ∀ i, (i < a ∨ (cur = true ∧ i = a)) → L.tag (L.sets (.has i)) = .set (.has i)
  has : ∀ i, (i < a ∨ (cur = true ∧ i = a)) → MapAt Try.prog 9 w (L.sets (.has i)) []
  tgot : ∀ i j, ((i < a ∧ j < n) ∨ (cur = true ∧ i = a ∧ j < b)) → L.tag (L.sets (.got i j)) = .set (.got i j)
  got : ∀ i j, ((i < a ∧ j < n) ∨ (cur = true ∧ i = a ∧ j < b)) → MapAt Try.prog 9 w (L.sets (.got i j)) []
  tqueues : L.tag L.queues = .queues
  queues : MapAt Try.prog 66 w L.queues ((pairsTo n a b).map fun q => (pairV q.1 q.2, ptr (L.qcell q.1 q.2)))
  tcut : L.tag L.cut = .cut
  cut : MapAt Try.prog 66 w L.cut []
  tqcell : ∀ i j, ((i < a ∧ j < n) ∨ (cur = true ∧ i = a ∧ j < b)) → L.tag (L.qcell i j) = .qcell i j
  qcell : ∀ i j, ((i < a ∧ j < n) ∨ (cur = true ∧ i = a ∧ j < b)) → Blk w (L.qcell i j) 65 #[.slice none 0 0]

/-- All is made. -/
theorem NewAt.done {B : Nat} {w : World} {p : Nat} {L : Lay} {n : Nat} (h : NewAt B w p L n n false 0) (h8 : n ≤ 8) :
    NetAt w p { L with tv := fun _ => .slice none 0 0, qv := fun _ _ => .slice none 0 0, mv := fun _ _ => [] } (NetS.fresh n) := by
  exact {
    n8 := h8
    fresh := h.fresh
    tnet := h.tnet
    net := h.net
    tnodes := h.tnodes
    nodes := h.nodes
    tnode := fun i hi => h.tnode i (.inl hi)
    node := fun i hi => by
      obtain ⟨c, hc, h1, h2, h3, h4, h5⟩ := h.node i (.inl hi)
      refine ⟨c, hc, h1, h2, h3, fun j hj => ⟨(h4 j (Nat.lt_of_lt_of_le hj h8)).1, (h4 j (Nat.lt_of_lt_of_le hj h8)).2, h5 j (.inl ⟨hi, hj⟩)⟩⟩
    tset := fun s hs => by
      cases s with
      | has i => exact h.thas i (.inl hs)
      | got i j => exact h.tgot i j (.inl hs)
      | all => exact h.tall
    sets := fun s hs => by
      cases s with
      | has i => exact h.has i (.inl hs)
      | got i j => exact h.got i j (.inl hs)
      | all => exact h.all
    ttexts := fun i hi b hb => by simp [rowBlock] at hb
    texts := fun i hi => Row.nil _ _ _
    tqueues := h.tqueues
    queues := by have := h.queues; rw [pairsTo_full] at this; exact this
    tcut := h.tcut
    cut := ⟨[], h.cut, fun k v hk => (by cases hk), fun a b hab hb ho => (by cases ho)⟩
    tqcell := fun i j hi hj => h.tqcell i j (.inl ⟨hi, hj⟩)
    qcell := fun i j hi hj => h.qcell i j (.inl ⟨hi, hj⟩)
    tqrow := fun i j hi hj b hb => by simp [rowBlock] at hb
    qrow := fun i j hi hj => Row.nil _ _ _
    mlen := fun i j hi hj => rfl
    msgs := fun i j hi hj k v m hv hm => by simp at hv }

/-- A new node. -/
theorem NewAt.node1 {B : Nat} {w w' : World} {p : Nat} {L : Lay} {n a g1 g2 : Nat} {c : Array Value} (h : NewAt B w p L n a false 0) (hE : Ext w w') (hg1 : w.heap.size ≤ g1) (hg2 : g1 < g2) (hg3 : g2 < w'.heap.size) (hB : B ≤ w.heap.size)
    (hm : MapAt Try.prog 9 w' g1 []) (hc : Blk w' g2 61 c) (hs : c.size = 26) (h0 : c[0]? = some (.slice none 0 0)) (h1 : c[1]? = some (.map (some g1)))
    (hz : ∀ j, j < 8 → c[2 + j * 3]? = some (.int .i64 0) ∧ c[2 + j * 3 + 1]? = some (.int .i64 0)) :
    NewAt B w' p { L with node := upd L.node a g2, sets := fun s => if s = .has a then g1 else L.sets s, tag := tagU (tagU L.tag g1 (.set (.has a))) g2 (.node a) } n a true 0 := by
  have old1 : ∀ {x : Nat} {t : Tag}, L.tag x = t → t ≠ .oth → tagU (tagU L.tag g1 (.set (.has a))) g2 (.node a) x = t := by
    intro x t hx ht
    have hlt : x < w.heap.size := by
      rcases Nat.lt_or_ge x w.heap.size with h' | h'
      · exact h'
      · exact absurd ((h.fresh x h').symm.trans hx).symm ht
    rw [tagU_ne _ (by omega), tagU_ne _ (by omega), hx]
  have hset : ∀ {s : SetId}, s ≠ .has a → (if s = .has a then g1 else L.sets s) = L.sets s := fun hne => if_neg hne
  have cs : ∀ i, (i < a ∨ (true = true ∧ i = a)) → i ≠ a → i < a := fun i hi hne => by rcases hi with h | h; exact h; exact absurd h.2 hne
  have cd : ∀ i j, ((i < a ∧ j < n) ∨ (true = true ∧ i = a ∧ j < 0)) → (i < a ∧ j < n) := fun i j hi => by rcases hi with h | h; exact h; omega
  have ne : ∀ {i : Nat}, i < a → i ≠ a := fun h => by omega
  exact {
    fresh := fun x hx => by
      show tagU (tagU L.tag g1 _) g2 _ x = .oth
      rw [tagU_ne _ (by omega), tagU_ne _ (by omega)]
      exact h.fresh x (Nat.le_trans hE.size hx)
    old := fun x hx => by
      show tagU (tagU L.tag g1 _) g2 _ x = .oth
      rw [tagU_ne _ (by omega), tagU_ne _ (by omega)]
      exact h.old x hx
    tnet := old1 h.tnet (by simp)
    net := by
      have := hE.obj h.net (fun h => h)
      simpa [hset] using this
    tnodes := fun b hb => old1 (h.tnodes b hb) (by simp)
    nodes := by
      have := h.nodes.keep hE (fun _ _ h => h)
      have e : (List.range a).map (fun i => ptr (upd L.node a g2 i)) = (List.range a).map fun i => ptr (L.node i) := List.map_congr_left fun i hi => by
        rw [upd_ne _ _ (ne (List.mem_range.1 hi))]
      show Row w' 56 1 L.nodes ((List.range a).map fun i => ptr (upd L.node a g2 i))
      rw [e]; exact this
    tnode := fun i hi => by
      show tagU (tagU L.tag g1 _) g2 _ (upd L.node a g2 i) = _
      by_cases e : i = a
      · subst e; rw [upd_same, tagU_same]
      · rw [upd_ne _ _ e]; exact old1 (h.tnode i (.inl (cs i hi e))) (by simp)
    node := fun i hi => by
      show ∃ c, Blk w' (upd L.node a g2 i) 61 c ∧ _
      by_cases e : i = a
      · subst e
        rw [upd_same]
        refine ⟨c, hc, hs, h0, by simpa using h1, hz, fun j hj => ?_⟩
        have := cd _ _ hj; omega
      · rw [upd_ne _ _ e]
        obtain ⟨c', hc', k1, k2, k3, k4, k5⟩ := h.node i (.inl (cs i hi e))
        refine ⟨c', hE.obj hc' (fun h => h), k1, k2, by simpa [e] using k3, k4, fun j hj => by simpa using k5 j (.inl (cd _ _ hj))⟩
    tall := by simpa using old1 h.tall (by simp)
    all := by simpa using h.all.keep hE (fun h => h)
    thas := fun i hi => by
      by_cases e : i = a
      · subst e
        show tagU (tagU L.tag g1 _) g2 _ (if SetId.has i = SetId.has i then g1 else _) = _
        rw [if_pos rfl, tagU_ne _ (by omega), tagU_same]
      · have := old1 (h.thas i (.inl (cs i hi e))) (by simp)
        simpa [e] using this
    has := fun i hi => by
      by_cases e : i = a
      · subst e; simpa using hm
      · simpa [e] using (h.has i (.inl (cs i hi e))).keep hE (fun h => h)
    tgot := fun i j hi => by simpa using old1 (h.tgot i j (.inl (cd _ _ hi))) (by simp)
    got := fun i j hi => by simpa using (h.got i j (.inl (cd _ _ hi))).keep hE (fun h => h)
    tqueues := old1 h.tqueues (by simp)
    queues := h.queues.keep hE (fun h => h)
    tcut := old1 h.tcut (by simp)
    cut := h.cut.keep hE (fun h => h)
    tqcell := fun i j hi => old1 (h.tqcell i j (.inl (cd _ _ hi))) (by simp)
    qcell := fun i j hi => hE.obj (h.qcell i j (.inl (cd _ _ hi))) (fun h => h) }

/-- One more peer and its queue. -/
theorem NewAt.peer1 {B : Nat} {w w' : World} {p : Nat} {L : Lay} {n a b g1 g2 : Nat} {c : Array Value} (h : NewAt B w p L n a true b) (hb : b < n) (h8 : n ≤ 8) (hB : B ≤ w.heap.size)
    (hc0 : Blk w (L.node a) 61 c) (ht : Touch (fun x => x = L.node a ∨ x = L.queues) w w') (hg1 : w.heap.size ≤ g1) (hg2 : g1 < g2) (hg3 : g2 < w'.heap.size)
    (hm : MapAt Try.prog 9 w' g1 []) (hq : Blk w' g2 65 #[.slice none 0 0]) (hc : Blk w' (L.node a) 61 (c.setIfInBounds (2 + b * 3 + 2) (.map (some g1))))
    (hqs : MapAt Try.prog 66 w' L.queues (((pairsTo n a b).map fun q => (pairV q.1 q.2, ptr (L.qcell q.1 q.2))) ++ [(pairV a b, ptr g2)])) :
    NewAt B w' p { L with sets := fun s => if s = .got a b then g1 else L.sets s, qcell := upd2 L.qcell a b g2, tag := tagU (tagU L.tag g1 (.set (.got a b))) g2 (.qcell a b) } n a true (b + 1) := by
  have old1 : ∀ {x : Nat} {t : Tag}, L.tag x = t → t ≠ .oth → tagU (tagU L.tag g1 (.set (.got a b))) g2 (.qcell a b) x = t := by
    intro x t hx ht
    have hlt : x < w.heap.size := by
      rcases Nat.lt_or_ge x w.heap.size with h' | h'
      · exact h'
      · exact absurd ((h.fresh x h').symm.trans hx).symm ht
    rw [tagU_ne _ (by omega), tagU_ne _ (by omega), hx]
  have nf : ∀ {x : Nat} {t : Tag}, L.tag x = t → t ≠ .node a → t ≠ .queues → ¬ (x = L.node a ∨ x = L.queues) := by
    rintro x t hx h1 h2 (rfl | rfl)
    · exact h1 (hx.symm.trans (h.tnode a (.inr ⟨rfl, rfl⟩)))
    · exact h2 (hx.symm.trans h.tqueues)
  have cd : ∀ i j, ((i < a ∧ j < n) ∨ (true = true ∧ i = a ∧ j < b + 1)) → ¬ (i = a ∧ j = b) → ((i < a ∧ j < n) ∨ (true = true ∧ i = a ∧ j < b)) := fun i j hi hne => by
    rcases hi with hi | hi
    · exact .inl hi
    · exact .inr ⟨rfl, hi.2.1, by omega⟩
  exact {
    fresh := fun x hx => by
      show tagU (tagU L.tag g1 _) g2 _ x = .oth
      rw [tagU_ne _ (by omega), tagU_ne _ (by omega)]
      exact h.fresh x (Nat.le_trans ht.size hx)
    old := fun x hx => by
      show tagU (tagU L.tag g1 _) g2 _ x = .oth
      rw [tagU_ne _ (by omega), tagU_ne _ (by omega)]
      exact h.old x hx
    tnet := old1 h.tnet (by simp)
    net := by
      have := ht.obj h.net (nf h.tnet (by simp) (by simp))
      simpa using this
    tnodes := fun b hb => old1 (h.tnodes b hb) (by simp)
    nodes := h.nodes.keep ht fun b hb => nf (h.tnodes b hb) (by simp) (by simp)
    tnode := fun i hi => old1 (h.tnode i hi) (by simp)
    node := fun i hi => by
      show ∃ c, Blk w' (L.node i) 61 c ∧ _
      by_cases e : i = a
      · subst e
        obtain ⟨c', hc', k1, k2, k3, k4, k5⟩ := h.node i hi
        have : c' = c := by
          have e2 := hc'.symm.trans hc0
          injection e2 with e2
          injection e2
        subst this
        refine ⟨_, hc, by simpa using k1, ?_, ?_, fun j hj => ⟨?_, ?_⟩, fun j hj => ?_⟩
        · rw [Array.getElem?_setIfInBounds_ne (by omega)]; exact k2
        · rw [Array.getElem?_setIfInBounds_ne (by omega)]; simpa using k3
        · rw [Array.getElem?_setIfInBounds_ne (by omega)]; exact (k4 j hj).1
        · rw [Array.getElem?_setIfInBounds_ne (by omega)]; exact (k4 j hj).2
        · by_cases ej : j = b
          · subst ej
            rw [Array.getElem?_setIfInBounds_self_of_lt (by omega)]
            simp
          · rw [Array.getElem?_setIfInBounds_ne (by omega)]
            have := k5 j (cd i j hj (fun h => ej h.2))
            simpa [ej] using this
      · obtain ⟨c', hc', k1, k2, k3, k4, k5⟩ := h.node i hi
        have hne : ¬ (L.node i = L.node a ∨ L.node i = L.queues) := nf (h.tnode i hi) (by simpa using e) (by simp)
        refine ⟨c', ht.obj hc' hne, k1, k2, by simpa using k3, k4, fun j hj => ?_⟩
        have := k5 j (cd i j hj (fun h => e h.1))
        simpa [e] using this
    tall := by simpa using old1 h.tall (by simp)
    all := by simpa using h.all.keep ht (nf h.tall (by simp) (by simp))
    thas := fun i hi => by simpa using old1 (h.thas i hi) (by simp)
    has := fun i hi => by simpa using (h.has i hi).keep ht (nf (h.thas i hi) (by simp) (by simp))
    tgot := fun i j hi => by
      by_cases e : i = a ∧ j = b
      · obtain ⟨rfl, rfl⟩ := e
        show tagU (tagU L.tag g1 _) g2 _ (if SetId.got i j = SetId.got i j then g1 else _) = _
        rw [if_pos rfl, tagU_ne _ (by omega), tagU_same]
      · have := old1 (h.tgot i j (cd i j hi e)) (by simp)
        have e' : ¬ (SetId.got i j = SetId.got a b) := by simpa using e
        simpa only [if_neg e'] using this
    got := fun i j hi => by
      by_cases e : i = a ∧ j = b
      · obtain ⟨rfl, rfl⟩ := e; simpa using hm
      · have e' : ¬ (SetId.got i j = SetId.got a b) := by simpa using e
        have := (h.got i j (cd i j hi e)).keep ht (nf (h.tgot i j (cd i j hi e)) (by simp) (by simp))
        simpa only [if_neg e'] using this
    tqueues := old1 h.tqueues (by simp)
    queues := by
      have e : (pairsTo n a (b + 1)).map (fun q => (pairV q.1 q.2, ptr (upd2 L.qcell a b g2 q.1 q.2))) = ((pairsTo n a b).map fun q => (pairV q.1 q.2, ptr (L.qcell q.1 q.2))) ++ [(pairV a b, ptr g2)] := by
        rw [pairsTo_one, List.map_append]
        congr 1
        · refine List.map_congr_left fun q hq => ?_
          rw [upd2_ne]
          rintro ⟨h1, h2⟩
          simp only [pairsTo, List.mem_append, List.mem_flatMap, List.mem_map, List.mem_range] at hq
          rcases hq with ⟨i, hi, j, hj, rfl⟩ | ⟨j, hj, rfl⟩
          · simp at h1; omega
          · simp at h2; omega
        · simp [upd2_same]
      show MapAt Try.prog 66 w' L.queues ((pairsTo n a (b + 1)).map fun q => (pairV q.1 q.2, ptr (upd2 L.qcell a b g2 q.1 q.2)))
      rw [e]; exact hqs
    tcut := old1 h.tcut (by simp)
    cut := h.cut.keep ht (nf h.tcut (by simp) (by simp))
    tqcell := fun i j hi => by
      show tagU (tagU L.tag g1 _) g2 _ (upd2 L.qcell a b g2 i j) = _
      by_cases e : i = a ∧ j = b
      · obtain ⟨rfl, rfl⟩ := e
        rw [upd2_same, tagU_same]
      · rw [upd2_ne _ _ e]
        exact old1 (h.tqcell i j (cd i j hi e)) (by simp)
    qcell := fun i j hi => by
      show Blk w' (upd2 L.qcell a b g2 i j) 65 _
      by_cases e : i = a ∧ j = b
      · obtain ⟨rfl, rfl⟩ := e
        rw [upd2_same]; exact hq
      · rw [upd2_ne _ _ e]
        exact ht.obj (h.qcell i j (cd i j hi e)) (nf (h.tqcell i j (cd i j hi e)) (by simp) (by simp)) }

/-- The node goes into the row. -/
theorem NewAt.row1 {B : Nat} {w w' : World} {p : Nat} {L : Lay} {n a : Nat} {v : Value} (h : NewAt B w p L n a true n) (hB : B ≤ w.heap.size)
    (ht : Touch (fun x => x = p ∨ rowBlock L.nodes = some x) w w') (hp : Blk w' p 55 #[v, .map (some L.queues), .map (some L.cut), .map (some (L.sets .all))])
    (hr : Row w' 56 1 v (((List.range a).map fun i => ptr (L.node i)) ++ [ptr (L.node a)])) (hv : rowBlock v = rowBlock L.nodes ∨ ∃ g, rowBlock v = some g ∧ w.heap.size ≤ g ∧ g < w'.heap.size) :
    NewAt B w' p { L with nodes := v, tag := fun x => if rowBlock v = some x then .nodes else L.tag x } n (a + 1) false 0 := by
  have old1 : ∀ {x : Nat} {t : Tag}, L.tag x = t → t ≠ .oth → t ≠ .nodes → (if rowBlock v = some x then Tag.nodes else L.tag x) = t := by
    intro x t hx h1 h2
    rw [if_neg, hx]
    intro e
    rcases hv with hv | ⟨g, hg, hg1, hg2⟩
    · exact h2 (hx.symm.trans (h.tnodes x (by rw [← hv]; exact e)))
    · rw [hg] at e
      injection e with e
      subst e
      exact h1 (hx.symm.trans (h.fresh _ hg1))
  have nf : ∀ {x : Nat} {t : Tag}, L.tag x = t → t ≠ .net → t ≠ .nodes → ¬ (x = p ∨ rowBlock L.nodes = some x) := by
    rintro x t hx h1 h2 (rfl | e)
    · exact h1 (hx.symm.trans h.tnet)
    · exact h2 (hx.symm.trans (h.tnodes x e))
  have ci : ∀ i, (i < a + 1 ∨ (false = true ∧ i = a + 1)) → (i < a ∨ (true = true ∧ i = a)) := fun i hi => by
    rcases hi with hi | hi
    · by_cases e : i = a
      · exact .inr ⟨rfl, e⟩
      · exact .inl (by omega)
    · cases hi.1
  have cd : ∀ i j, ((i < a + 1 ∧ j < n) ∨ (false = true ∧ i = a + 1 ∧ j < 0)) → ((i < a ∧ j < n) ∨ (true = true ∧ i = a ∧ j < n)) := fun i j hi => by
    rcases hi with hi | hi
    · by_cases e : i = a
      · exact .inr ⟨rfl, e, hi.2⟩
      · exact .inl ⟨by omega, hi.2⟩
    · cases hi.1
  exact {
    fresh := fun x hx => by
      show (if rowBlock v = some x then Tag.nodes else L.tag x) = .oth
      rw [if_neg, h.fresh x (Nat.le_trans ht.size hx)]
      intro e
      have := hr.lt e
      omega
    old := fun x hx => by
      show (if rowBlock v = some x then Tag.nodes else L.tag x) = .oth
      rw [if_neg, h.old x hx]
      intro e
      rcases hv with hv | ⟨g, hg, hg1, hg2⟩
      · have := h.tnodes x (by rw [← hv]; exact e)
        rw [h.old x hx] at this; cases this
      · rw [hg] at e
        injection e with e
        omega
    tnet := old1 h.tnet (by simp) (by simp)
    net := hp
    tnodes := fun b hb => if_pos hb
    nodes := by
      have e : (List.range (a + 1)).map (fun i => ptr (L.node i)) = ((List.range a).map fun i => ptr (L.node i)) ++ [ptr (L.node a)] := by rw [List.range_succ, List.map_append]; rfl
      show Row w' 56 1 v ((List.range (a + 1)).map fun i => ptr (L.node i))
      rw [e]; exact hr
    tnode := fun i hi => old1 (h.tnode i (ci i hi)) (by simp) (by simp)
    node := fun i hi => by
      obtain ⟨c, hc, k1, k2, k3, k4, k5⟩ := h.node i (ci i hi)
      exact ⟨c, ht.obj hc (nf (h.tnode i (ci i hi)) (by simp) (by simp)), k1, k2, k3, k4, fun j hj => k5 j (cd i j hj)⟩
    tall := old1 h.tall (by simp) (by simp)
    all := h.all.keep ht (nf h.tall (by simp) (by simp))
    thas := fun i hi => old1 (h.thas i (ci i hi)) (by simp) (by simp)
    has := fun i hi => (h.has i (ci i hi)).keep ht (nf (h.thas i (ci i hi)) (by simp) (by simp))
    tgot := fun i j hi => old1 (h.tgot i j (cd i j hi)) (by simp) (by simp)
    got := fun i j hi => (h.got i j (cd i j hi)).keep ht (nf (h.tgot i j (cd i j hi)) (by simp) (by simp))
    tqueues := old1 h.tqueues (by simp) (by simp)
    queues := by
      have := h.queues.keep ht (nf h.tqueues (by simp) (by simp))
      rw [pairsTo_next] at this
      exact this
    tcut := old1 h.tcut (by simp) (by simp)
    cut := h.cut.keep ht (nf h.tcut (by simp) (by simp))
    tqcell := fun i j hi => old1 (h.tqcell i j (cd i j hi)) (by simp) (by simp)
    qcell := fun i j hi => ht.obj (h.qcell i j (cd i j hi)) (nf (h.tqcell i j (cd i j hi)) (by simp) (by simp)) }
end Go.Proofs.Ytcipfpebjeakfaa
