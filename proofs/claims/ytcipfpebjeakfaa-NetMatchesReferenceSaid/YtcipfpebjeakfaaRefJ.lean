/-
  The reference's New: a network half made.
-/
import Derived.Test.YtcipfpebjeakfaaRefI
namespace Go.Proofs.Ytcipfpebjeakfaa
open Go Go.RowKit

abbrev vnil : Value := .slice none 0 0
/-- The rows that are there. -/
def RowId.there (i iq io : Nat) : RowId → Prop
  | .nodes | .queues | .off => True
  | .heard k | .known k | .got k => k < i
  | .qrow k => k < iq
  | .orow k => k < io
  | _ => False
def RowId.Zero (W : World) (R : RLay) (n i iq io : Nat) : RowId → Prop
  | .nodes => RowN W 74 4 (R.val .nodes) i (nodeF R)
  | .queues => RowN W 75 1 (R.val .queues) iq (fun k _ => R.val (.qrow k))
  | .off => RowN W 76 1 (R.val .off) io (fun k _ => R.val (.orow k))
  | .heard k => RowN W 3 1 (R.val (.heard k)) n (fun _ _ => .int .i64 0)
  | .known k => RowN W 3 1 (R.val (.known k)) n (fun _ _ => .int .i64 0)
  | .got k => RowN W 39 1 (R.val (.got k)) n (fun _ _ => vnil)
  | .qrow k => RowN W 85 1 (R.val (.qrow k)) n (fun _ _ => vnil)
  | .orow k => RowN W 4 1 (R.val (.orow k)) n (fun _ _ => .bool false)
  | _ => True
theorem RowId.Zero.keep {W W' : World} {R : RLay} {n i iq io : Nat} {F : Nat → Prop} {r : RowId} (h : r.Zero W R n i iq io) (ht : Touch F W W') (hn : r.there i iq io → ∀ g, rowBlock (R.val r) = some g → ¬ F g) (hr : r.there i iq io) : r.Zero W' R n i iq io := by
  cases r with
  | nodes => exact RowN.keep h ht (hn hr)
  | queues => exact RowN.keep h ht (hn hr)
  | off => exact RowN.keep h ht (hn hr)
  | heard k => exact RowN.keep h ht (hn hr)
  | known k => exact RowN.keep h ht (hn hr)
  | got k => exact RowN.keep h ht (hn hr)
  | qrow k => exact RowN.keep h ht (hn hr)
  | orow k => exact RowN.keep h ht (hn hr)
  | _ => exact trivial

structure RHalf (w W : World) (q : Nat) (R : RLay) (n i iq io : Nat) : Prop where
  ext : Ext w W
  fresh : ∀ b, W.heap.size ≤ b → R.tag b = .oth
  old : ∀ b, b < w.heap.size → R.tag b = .oth
  tnet : R.tag q = .net
  net : Blk W q 71 #[R.val .nodes, R.val .queues, R.val .off, vnil]
  nil : ∀ r : RowId, ¬ r.there 9 9 9 → R.val r = vnil
  row : ∀ r : RowId, r.there i iq io → r.Zero W R n i iq io
  tag : ∀ r : RowId, r.there i iq io → ∀ b, rowBlock (R.val r) = some b → R.tag b = .row r

section
variable {w W W' : World} {q : Nat} {R : RLay} {n i iq io : Nat}
theorem RHalf.keep (h : RHalf w W q R n i iq io) (hE : Ext W W') : RHalf w W' q R n i iq io :=
  ⟨h.ext.then_ext hE, fun b hb => h.fresh b (Nat.le_trans hE.size hb), h.old, h.tnet, hE.obj h.net (fun h => h), h.nil, fun r hr => (h.row r hr).keep hE (fun _ _ _ h => h) hr, h.tag⟩

/-- All is made. -/
theorem RHalf.done (h : RHalf w W q R n n n n) (h8 : n ≤ 8) : RefAt W q R (NetS.fresh n) where
  n8 := h8
  fresh := h.fresh
  tnet := h.tnet
  net := by
    have := h.net
    rw [← h.nil .all (by simp [RowId.there])] at this
    exact this
  row := fun r hr => by
    cases r with
    | nodes => exact h.row .nodes trivial
    | queues => exact h.row .queues trivial
    | off => exact h.row .off trivial
    | heard k => exact h.row (.heard k) hr
    | known k => exact h.row (.known k) hr
    | got k => exact (h.row (.got k) hr : RowN _ _ _ _ _ _).congr fun a c ha hc => (h.nil (.gotT k a) (by simp [RowId.there])).symm
    | qrow k => exact (h.row (.qrow k) hr : RowN _ _ _ _ _ _).congr fun a c ha hc => (h.nil (.q k a) (by simp [RowId.there])).symm
    | orow k => exact h.row (.orow k) hr
    | all => show Row W 9 1 (R.val .all) _; rw [h.nil .all (by simp [RowId.there])]; exact Row.nil _ _ _
    | texts k => show Row W 9 1 (R.val (.texts k)) _; rw [h.nil (.texts k) (by simp [RowId.there])]; exact Row.nil _ _ _
    | gotT k j => show Row W 9 1 (R.val (.gotT k j)) _; rw [h.nil (.gotT k j) (by simp [RowId.there])]; exact Row.nil _ _ _
    | q k j => show Row W 87 3 (R.val (.q k j)) _; rw [h.nil (.q k j) (by simp [RowId.there])]; exact Row.nil _ _ _
    | msg k j l => exact fun m hm => by cases hm
  tag := fun r hr b hb => by
    by_cases ht : r.there 9 9 9
    · have : r.there n n n := by cases r <;> first | trivial | exact hr | exact ht.elim
      rw [h.tag r this b hb]
      cases r <;> first | rfl | exact ht.elim
    · rw [h.nil r ht] at hb
      simp [rowBlock] at hb

/-- A row that is not written. -/
theorem RHalf.other {F : Nat → Prop} {r0 : RowId} (h : RHalf w W q R n i iq io) (h0 : r0.there i iq io) (ht : Touch F W W') (hF : ∀ b, F b → b = q ∨ rowBlock (R.val r0) = some b) {r : RowId} (hr : r.there i iq io) (hne : r ≠ r0) : r.Zero W' R n i iq io :=
  (h.row r hr).keep ht (fun _ g hg hf => by
    have h1 := h.tag r hr g hg
    rcases hF g hf with rfl | h2
    · rw [h.tnet] at h1; cases h1
    · rw [h.tag r0 h0 g h2] at h1
      injection h1 with h1
      exact hne h1.symm) hr

/-- One queue row more. -/
theorem RHalf.addQ {W1 W2 W3 : World} (h : RHalf w W q R n i iq io) (h9 : iq < 9) {v u : Value} (hE : Ext W W1) (hu : RowN W1 85 1 u n (fun _ _ => vnil)) (nu : ∀ b, rowBlock u = some b → W.heap.size ≤ b)
    (hv : RowN W2 75 1 v (iq + 1) (fun k _ => if k = iq then u else R.val (.qrow k))) (ht : Touch (fun b => rowBlock (R.val .queues) = some b) W1 W2)
    (hs : rowBlock v = rowBlock (R.val .queues) ∨ ∃ g, rowBlock v = some g ∧ W1.heap.size ≤ g) (ht2 : Touch (· = q) W2 W3) (hnet : Blk W3 q 71 #[R.val .nodes, v, R.val .off, vnil]) :
    ∃ R', RHalf w W3 q R' n i (iq + 1) io := by
  have h1 := h.keep hE
  have htt : Touch (fun b => b = q ∨ rowBlock (R.val .queues) = some b) W1 W3 := (ht.mono (G := fun b => b = q ∨ rowBlock (R.val .queues) = some b) fun _ _ h => .inr h).trans ht2 fun _ _ h => .inl h
  have hul : ∀ b, rowBlock u = some b → b < W1.heap.size := fun b hb => by obtain ⟨xs, hx, _⟩ := hu; exact hx.lt hb
  have uq : ∀ b, rowBlock u = some b → R.tag b = .oth := fun b hb => h.fresh b (nu b hb)
  have qtag : ∀ b, rowBlock (R.val .queues) = some b → R.tag b = .row .queues := fun b hb => h.tag .queues trivial b hb
  have vu : ∀ b, rowBlock v = some b → ¬ rowBlock u = some b := fun b hb he => by
    rcases hs with hs | ⟨g, hg, hge⟩
    · have := qtag b (by rw [← hs]; exact hb); rw [uq b he] at this; cases this
    · rw [hg] at hb; injection hb with hb; have := hul b he; omega
  have hvl : ∀ b, rowBlock v = some b → b < W3.heap.size := fun b hb => by
    obtain ⟨xs, hx, _⟩ := hv
    exact Nat.lt_of_lt_of_le (hx.lt hb) ht2.size
  have hvn : ∀ b, rowBlock v = some b → w.heap.size ≤ b := fun b hb => by
    rcases hs with hs | ⟨g, hg, hge⟩
    · rcases Nat.lt_or_ge b w.heap.size with hlt | hlt
      · have h2 := qtag b (by rw [← hs]; exact hb); rw [h.old b hlt] at h2; cases h2
      · exact hlt
    · rw [hg] at hb; injection hb with hb; have := h1.ext.size; omega
  refine ⟨⟨fun r => if r = .queues then v else if r = .qrow iq then u else R.val r, fun b => if rowBlock v = some b then .row .queues else if rowBlock u = some b then .row (.qrow iq) else R.tag b⟩, ?_⟩
  have vals : ∀ r, r ≠ .queues → r ≠ .qrow iq → (if r = RowId.queues then v else if r = .qrow iq then u else R.val r) = R.val r := fun r h1 h2 => by rw [if_neg h1, if_neg h2]
  have tk : ∀ {b : Nat} {T : RTag}, R.tag b = T → T ≠ .oth → T ≠ .row .queues → (if rowBlock v = some b then RTag.row .queues else if rowBlock u = some b then .row (.qrow iq) else R.tag b) = T := by
    intro b T hb h2 h3
    rw [if_neg, if_neg]
    · exact hb
    · intro e; rw [uq b e] at hb; exact h2 hb.symm
    · intro e
      rcases hs with hs | ⟨g, hg, hge⟩
      · have := qtag b (by rw [← hs]; exact e); rw [hb] at this; exact h3 this
      · rw [hg] at e; injection e with e; subst e
        rw [h1.fresh g hge] at hb; exact h2 hb.symm
  exact {
    ext := h1.ext.trans htt fun b hb e => by
      rcases e with rfl | e
      · have := h.old _ hb; rw [h.tnet] at this; cases this
      · have := h.old b hb; rw [qtag b e] at this; cases this
    fresh := fun b hb => by
      have hsz := htt.size
      show (if rowBlock v = some b then RTag.row .queues else if rowBlock u = some b then .row (.qrow iq) else R.tag b) = .oth
      rw [if_neg fun e => by have := hvl b e; omega, if_neg fun e => by have := hul b e; omega]
      exact h1.fresh b (by omega)
    old := fun b hb => by
      have hsz := h.ext.size
      show (if rowBlock v = some b then RTag.row .queues else if rowBlock u = some b then .row (.qrow iq) else R.tag b) = .oth
      rw [if_neg fun e => by have := hvn b e; omega, if_neg fun e => by have := nu b e; omega]
      exact h.old b hb
    tnet := tk h.tnet (by simp) (by simp)
    net := by simpa using hnet
    nil := fun r hr => by
      have e1 : r ≠ .queues := fun e => by subst e; exact hr trivial
      have e2 : r ≠ .qrow iq := fun e => by subst e; exact hr h9
      show (if r = RowId.queues then v else if r = .qrow iq then u else R.val r) = vnil
      rw [vals r e1 e2]; exact h.nil r hr
    row := fun r hr => by
      by_cases e1 : r = .queues
      · subst e1
        refine RowN.congr (f := fun k _ => if k = iq then u else R.val (.qrow k)) (RowN.keep (by simpa [RowId.Zero] using hv) ht2 fun g hg e => ?_) fun k j hk hj => ?_
        · subst e
          have h2 := hnet
          rcases hs with hs' | ⟨g', hg', hge'⟩
          · have := qtag g (by rw [← hs']; simpa using hg); rw [h.tnet] at this; cases this
          · have hg2 : rowBlock v = some g := by simpa using hg
            rw [hg'] at hg2; injection hg2 with hg2; subst hg2
            have := h1.fresh g' hge'; rw [h.tnet] at this; cases this
        · by_cases e : k = iq
          · subst e; simp
          · simp [e]
      · by_cases e2 : r = .qrow iq
        · subst e2
          have hk := (hu.keep ht fun g hg e => by have := qtag g e; rw [uq g hg] at this; cases this).keep ht2 fun g hg e => by subst e; have := uq g hg; rw [h.tnet] at this; cases this
          simpa [RowId.Zero] using hk
        · have hr' : r.there i iq io := by
            cases r with
            | qrow k =>
              have h3 : k < iq + 1 := hr
              have h4 : k ≠ iq := fun e => e2 (by rw [e])
              show k < iq
              omega
            | _ => exact hr
          have ho := h1.other (r0 := .queues) trivial htt (fun _ h => h) hr' e1
          cases r with
          | queues => exact absurd rfl e1
          | nodes => exact RowN.congr (by simpa [RowId.Zero] using ho) fun a c ha hc => by unfold nodeF; rcases c with _ | _ | _ | c <;> simp
          | qrow k => simpa [RowId.Zero, show ¬ k = iq from fun e => e2 (by rw [e])] using ho
          | _ => first | exact trivial | simpa [RowId.Zero] using ho
    tag := fun r hr b hb => by
      by_cases e1 : r = .queues
      · subst e1
        have hb' : rowBlock v = some b := by simpa using hb
        show (if rowBlock v = some b then RTag.row .queues else if rowBlock u = some b then .row (.qrow iq) else R.tag b) = _
        rw [if_pos hb']
      · by_cases e2 : r = .qrow iq
        · subst e2
          have hb' : rowBlock u = some b := by simpa using hb
          show (if rowBlock v = some b then RTag.row .queues else if rowBlock u = some b then .row (.qrow iq) else R.tag b) = _
          rw [if_neg fun e => vu b e hb', if_pos hb']
        · have hr' : r.there i iq io := by
            cases r with
            | qrow k =>
              have h3 : k < iq + 1 := hr
              have h4 : k ≠ iq := fun e => e2 (by rw [e])
              show k < iq
              omega
            | _ => exact hr
          have hb' : rowBlock (R.val r) = some b := by rw [← vals r e1 e2]; exact hb
          exact tk (h.tag r hr' b hb') (by simp) (fun e => by injection e with e; exact e1 e) }
/-- One row of lines more. -/
theorem RHalf.addO {W1 W2 W3 : World} (h : RHalf w W q R n i iq io) (h9 : io < 9) {v u : Value} (hE : Ext W W1) (hu : RowN W1 4 1 u n (fun _ _ => .bool false)) (nu : ∀ b, rowBlock u = some b → W.heap.size ≤ b)
    (hv : RowN W2 76 1 v (io + 1) (fun k _ => if k = io then u else R.val (.orow k))) (ht : Touch (fun b => rowBlock (R.val .off) = some b) W1 W2)
    (hs : rowBlock v = rowBlock (R.val .off) ∨ ∃ g, rowBlock v = some g ∧ W1.heap.size ≤ g) (ht2 : Touch (· = q) W2 W3) (hnet : Blk W3 q 71 #[R.val .nodes, R.val .queues, v, vnil]) :
    ∃ R', RHalf w W3 q R' n i iq (io + 1) := by
  have h1 := h.keep hE
  have htt : Touch (fun b => b = q ∨ rowBlock (R.val .off) = some b) W1 W3 := (ht.mono (G := fun b => b = q ∨ rowBlock (R.val .off) = some b) fun _ _ h => .inr h).trans ht2 fun _ _ h => .inl h
  have hul : ∀ b, rowBlock u = some b → b < W1.heap.size := fun b hb => by obtain ⟨xs, hx, _⟩ := hu; exact hx.lt hb
  have uq : ∀ b, rowBlock u = some b → R.tag b = .oth := fun b hb => h.fresh b (nu b hb)
  have qtag : ∀ b, rowBlock (R.val .off) = some b → R.tag b = .row .off := fun b hb => h.tag .off trivial b hb
  have vu : ∀ b, rowBlock v = some b → ¬ rowBlock u = some b := fun b hb he => by
    rcases hs with hs | ⟨g, hg, hge⟩
    · have := qtag b (by rw [← hs]; exact hb); rw [uq b he] at this; cases this
    · rw [hg] at hb; injection hb with hb; have := hul b he; omega
  have hvl : ∀ b, rowBlock v = some b → b < W3.heap.size := fun b hb => by
    obtain ⟨xs, hx, _⟩ := hv
    exact Nat.lt_of_lt_of_le (hx.lt hb) ht2.size
  have hvn : ∀ b, rowBlock v = some b → w.heap.size ≤ b := fun b hb => by
    rcases hs with hs | ⟨g, hg, hge⟩
    · rcases Nat.lt_or_ge b w.heap.size with hlt | hlt
      · have h2 := qtag b (by rw [← hs]; exact hb); rw [h.old b hlt] at h2; cases h2
      · exact hlt
    · rw [hg] at hb; injection hb with hb; have := h1.ext.size; omega
  refine ⟨⟨fun r => if r = .off then v else if r = .orow io then u else R.val r, fun b => if rowBlock v = some b then .row .off else if rowBlock u = some b then .row (.orow io) else R.tag b⟩, ?_⟩
  have vals : ∀ r, r ≠ .off → r ≠ .orow io → (if r = RowId.off then v else if r = .orow io then u else R.val r) = R.val r := fun r h1 h2 => by rw [if_neg h1, if_neg h2]
  have tk : ∀ {b : Nat} {T : RTag}, R.tag b = T → T ≠ .oth → T ≠ .row .off → (if rowBlock v = some b then RTag.row .off else if rowBlock u = some b then .row (.orow io) else R.tag b) = T := by
    intro b T hb h2 h3
    rw [if_neg, if_neg]
    · exact hb
    · intro e; rw [uq b e] at hb; exact h2 hb.symm
    · intro e
      rcases hs with hs | ⟨g, hg, hge⟩
      · have := qtag b (by rw [← hs]; exact e); rw [hb] at this; exact h3 this
      · rw [hg] at e; injection e with e; subst e
        rw [h1.fresh g hge] at hb; exact h2 hb.symm
  exact {
    ext := h1.ext.trans htt fun b hb e => by
      rcases e with rfl | e
      · have := h.old _ hb; rw [h.tnet] at this; cases this
      · have := h.old b hb; rw [qtag b e] at this; cases this
    fresh := fun b hb => by
      have hsz := htt.size
      show (if rowBlock v = some b then RTag.row .off else if rowBlock u = some b then .row (.orow io) else R.tag b) = .oth
      rw [if_neg fun e => by have := hvl b e; omega, if_neg fun e => by have := hul b e; omega]
      exact h1.fresh b (by omega)
    old := fun b hb => by
      have hsz := h.ext.size
      show (if rowBlock v = some b then RTag.row .off else if rowBlock u = some b then .row (.orow io) else R.tag b) = .oth
      rw [if_neg fun e => by have := hvn b e; omega, if_neg fun e => by have := nu b e; omega]
      exact h.old b hb
    tnet := tk h.tnet (by simp) (by simp)
    net := by simpa using hnet
    nil := fun r hr => by
      have e1 : r ≠ .off := fun e => by subst e; exact hr trivial
      have e2 : r ≠ .orow io := fun e => by subst e; exact hr h9
      show (if r = RowId.off then v else if r = .orow io then u else R.val r) = vnil
      rw [vals r e1 e2]; exact h.nil r hr
    row := fun r hr => by
      by_cases e1 : r = .off
      · subst e1
        refine RowN.congr (f := fun k _ => if k = io then u else R.val (.orow k)) (RowN.keep (by simpa [RowId.Zero] using hv) ht2 fun g hg e => ?_) fun k j hk hj => ?_
        · subst e
          have h2 := hnet
          rcases hs with hs' | ⟨g', hg', hge'⟩
          · have := qtag g (by rw [← hs']; simpa using hg); rw [h.tnet] at this; cases this
          · have hg2 : rowBlock v = some g := by simpa using hg
            rw [hg'] at hg2; injection hg2 with hg2; subst hg2
            have := h1.fresh g' hge'; rw [h.tnet] at this; cases this
        · by_cases e : k = io
          · subst e; simp
          · simp [e]
      · by_cases e2 : r = .orow io
        · subst e2
          have hk := (hu.keep ht fun g hg e => by have := qtag g e; rw [uq g hg] at this; cases this).keep ht2 fun g hg e => by subst e; have := uq g hg; rw [h.tnet] at this; cases this
          simpa [RowId.Zero] using hk
        · have hr' : r.there i iq io := by
            cases r with
            | orow k =>
              have h3 : k < io + 1 := hr
              have h4 : k ≠ io := fun e => e2 (by rw [e])
              show k < io
              omega
            | _ => exact hr
          have ho := h1.other (r0 := .off) trivial htt (fun _ h => h) hr' e1
          cases r with
          | off => exact absurd rfl e1
          | nodes => exact RowN.congr (by simpa [RowId.Zero] using ho) fun a c ha hc => by unfold nodeF; rcases c with _ | _ | _ | c <;> simp
          | orow k => simpa [RowId.Zero, show ¬ k = io from fun e => e2 (by rw [e])] using ho
          | _ => first | exact trivial | simpa [RowId.Zero] using ho
    tag := fun r hr b hb => by
      by_cases e1 : r = .off
      · subst e1
        have hb' : rowBlock v = some b := by simpa using hb
        show (if rowBlock v = some b then RTag.row .off else if rowBlock u = some b then .row (.orow io) else R.tag b) = _
        rw [if_pos hb']
      · by_cases e2 : r = .orow io
        · subst e2
          have hb' : rowBlock u = some b := by simpa using hb
          show (if rowBlock v = some b then RTag.row .off else if rowBlock u = some b then .row (.orow io) else R.tag b) = _
          rw [if_neg fun e => vu b e hb', if_pos hb']
        · have hr' : r.there i iq io := by
            cases r with
            | orow k =>
              have h3 : k < io + 1 := hr
              have h4 : k ≠ io := fun e => e2 (by rw [e])
              show k < io
              omega
            | _ => exact hr
          have hb' : rowBlock (R.val r) = some b := by rw [← vals r e1 e2]; exact hb
          exact tk (h.tag r hr' b hb') (by simp) (fun e => by injection e with e; exact e1 e) }
/-- One node more. -/
theorem RHalf.addN {W1 W2 W3 : World} (h : RHalf w W q R n i iq io) (h9 : i < 9) {v vh vk vg : Value} (hE : Ext W W1) (hh : RowN W1 3 1 vh n (fun _ _ => .int .i64 0)) (hk : RowN W1 3 1 vk n (fun _ _ => .int .i64 0)) (hg : RowN W1 39 1 vg n (fun _ _ => vnil))
    (nh : ∀ b, rowBlock vh = some b → W.heap.size ≤ b) (nk : ∀ b, rowBlock vk = some b → W.heap.size ≤ b) (ng : ∀ b, rowBlock vg = some b → W.heap.size ≤ b) (hhk : ∀ b, rowBlock vh = some b → ¬ rowBlock vk = some b)
    (hv : RowN W2 74 4 v (i + 1) (fun k j => if k = i then [vnil, vh, vk, vg].getD j undef else nodeF R k j)) (ht : Touch (fun b => rowBlock (R.val .nodes) = some b) W1 W2)
    (hs : rowBlock v = rowBlock (R.val .nodes) ∨ ∃ g, rowBlock v = some g ∧ W1.heap.size ≤ g) (ht2 : Touch (· = q) W2 W3) (hnet : Blk W3 q 71 #[v, R.val .queues, R.val .off, vnil]) :
    ∃ R', RHalf w W3 q R' n (i + 1) iq io := by
  have h1 := h.keep hE
  have htt : Touch (fun b => b = q ∨ rowBlock (R.val .nodes) = some b) W1 W3 := (ht.mono (G := fun b => b = q ∨ rowBlock (R.val .nodes) = some b) fun _ _ h => .inr h).trans ht2 fun _ _ h => .inl h
  have lt : ∀ {E : TypeId} {f : Nat → Nat → Value} {u : Value}, RowN W1 E 1 u n f → ∀ b, rowBlock u = some b → b < W1.heap.size := fun hu b hb => by obtain ⟨xs, hx, _⟩ := hu; exact hx.lt hb
  have oth : ∀ {u : Value}, (∀ b, rowBlock u = some b → W.heap.size ≤ b) → ∀ b, rowBlock u = some b → R.tag b = .oth := fun nu b hb => h.fresh b (nu b hb)
  have hhg : ∀ b, rowBlock vh = some b → ¬ rowBlock vg = some b := fun b hb => by
    obtain ⟨xs, hx, _⟩ := hh
    obtain ⟨ys, hy, _⟩ := hg
    exact hx.unlike hy (by decide) hb
  have hkg : ∀ b, rowBlock vk = some b → ¬ rowBlock vg = some b := fun b hb => by
    obtain ⟨xs, hx, _⟩ := hk
    obtain ⟨ys, hy, _⟩ := hg
    exact hx.unlike hy (by decide) hb
  have qtag : ∀ b, rowBlock (R.val .nodes) = some b → R.tag b = .row .nodes := fun b hb => h.tag .nodes trivial b hb
  have vnew : ∀ b, rowBlock v = some b → rowBlock (R.val .nodes) = some b ∨ W1.heap.size ≤ b := fun b hb => by
    rcases hs with hs | ⟨g, hg, hge⟩
    · exact .inl (by rw [← hs]; exact hb)
    · rw [hg] at hb; injection hb with hb; exact .inr (by omega)
  have vu : ∀ {u : Value}, (∀ b, rowBlock u = some b → R.tag b = .oth) → (∀ b, rowBlock u = some b → b < W1.heap.size) → ∀ b, rowBlock v = some b → ¬ rowBlock u = some b := fun ho hl b hb he => by
    rcases vnew b hb with h2 | h2
    · have := qtag b h2; rw [ho b he] at this; cases this
    · have := hl b he; omega
  have hvl : ∀ b, rowBlock v = some b → b < W3.heap.size := fun b hb => by
    obtain ⟨xs, hx, _⟩ := hv
    exact Nat.lt_of_lt_of_le (hx.lt hb) ht2.size
  have hvn : ∀ b, rowBlock v = some b → w.heap.size ≤ b := fun b hb => by
    rcases vnew b hb with h2 | h2
    · rcases Nat.lt_or_ge b w.heap.size with hlt | hlt
      · have h3 := qtag b h2; rw [h.old b hlt] at h3; cases h3
      · exact hlt
    · have := h1.ext.size; omega
  refine ⟨⟨fun r => if r = .nodes then v else if r = .heard i then vh else if r = .known i then vk else if r = .got i then vg else R.val r,
    fun b => if rowBlock v = some b then .row .nodes else if rowBlock vh = some b then .row (.heard i) else if rowBlock vk = some b then .row (.known i) else if rowBlock vg = some b then .row (.got i) else R.tag b⟩, ?_⟩
  have vals : ∀ r, r ≠ .nodes → r ≠ .heard i → r ≠ .known i → r ≠ .got i → (if r = RowId.nodes then v else if r = .heard i then vh else if r = .known i then vk else if r = .got i then vg else R.val r) = R.val r := fun r h1 h2 h3 h4 => by rw [if_neg h1, if_neg h2, if_neg h3, if_neg h4]
  have tk : ∀ {b : Nat} {T : RTag}, R.tag b = T → T ≠ .oth → T ≠ .row .nodes → (if rowBlock v = some b then RTag.row .nodes else if rowBlock vh = some b then .row (.heard i) else if rowBlock vk = some b then .row (.known i) else if rowBlock vg = some b then .row (.got i) else R.tag b) = T := by
    intro b T hb h2 h3
    rw [if_neg, if_neg, if_neg, if_neg]
    · exact hb
    · intro e; rw [oth ng b e] at hb; exact h2 hb.symm
    · intro e; rw [oth nk b e] at hb; exact h2 hb.symm
    · intro e; rw [oth nh b e] at hb; exact h2 hb.symm
    · intro e
      rcases vnew b e with h4 | h4
      · have := qtag b h4; rw [hb] at this; exact h3 this
      · rw [h1.fresh b h4] at hb; exact h2 hb.symm
  have keepN : ∀ {E : TypeId} {f : Nat → Nat → Value} {u : Value}, RowN W1 E 1 u n f → (∀ b, rowBlock u = some b → R.tag b = .oth) → RowN W3 E 1 u n f := fun hu ho =>
    (hu.keep ht fun g hg e => by have := qtag g e; rw [ho g hg] at this; cases this).keep ht2 fun g hg e => by subst e; have := ho g hg; rw [h.tnet] at this; cases this
  have old' : ∀ r : RowId, r.there (i + 1) iq io → r ≠ .heard i → r ≠ .known i → r ≠ .got i → r.there i iq io := fun r hr e1 e2 e3 => by
    cases r with
    | heard k => have h3 : k < i + 1 := hr; have h4 : k ≠ i := fun e => e1 (by rw [e]); show k < i; omega
    | known k => have h3 : k < i + 1 := hr; have h4 : k ≠ i := fun e => e2 (by rw [e]); show k < i; omega
    | got k => have h3 : k < i + 1 := hr; have h4 : k ≠ i := fun e => e3 (by rw [e]); show k < i; omega
    | _ => exact hr
  exact {
    ext := h1.ext.trans htt fun b hb e => by
      rcases e with rfl | e
      · have := h.old _ hb; rw [h.tnet] at this; cases this
      · have := h.old b hb; rw [qtag b e] at this; cases this
    fresh := fun b hb => by
      have hsz := htt.size
      show (if rowBlock v = some b then RTag.row .nodes else if rowBlock vh = some b then .row (.heard i) else if rowBlock vk = some b then .row (.known i) else if rowBlock vg = some b then .row (.got i) else R.tag b) = .oth
      rw [if_neg fun e => by have := hvl b e; omega, if_neg fun e => by have := lt hh b e; omega, if_neg fun e => by have := lt hk b e; omega, if_neg fun e => by have := lt hg b e; omega]
      exact h1.fresh b (by omega)
    old := fun b hb => by
      have hsz := h.ext.size
      show (if rowBlock v = some b then RTag.row .nodes else if rowBlock vh = some b then .row (.heard i) else if rowBlock vk = some b then .row (.known i) else if rowBlock vg = some b then .row (.got i) else R.tag b) = .oth
      rw [if_neg fun e => by have := hvn b e; omega, if_neg fun e => by have := nh b e; omega, if_neg fun e => by have := nk b e; omega, if_neg fun e => by have := ng b e; omega]
      exact h.old b hb
    tnet := tk h.tnet (by simp) (by simp)
    net := by simpa using hnet
    nil := fun r hr => by
      have e1 : r ≠ .nodes := fun e => by subst e; exact hr trivial
      have e2 : r ≠ .heard i := fun e => by subst e; exact hr h9
      have e3 : r ≠ .known i := fun e => by subst e; exact hr h9
      have e4 : r ≠ .got i := fun e => by subst e; exact hr h9
      show (if r = RowId.nodes then v else if r = .heard i then vh else if r = .known i then vk else if r = .got i then vg else R.val r) = vnil
      rw [vals r e1 e2 e3 e4]; exact h.nil r hr
    row := fun r hr => by
      by_cases e1 : r = .nodes
      · subst e1
        have hv3 : RowN W3 74 4 v (i + 1) (fun k j => if k = i then [vnil, vh, vk, vg].getD j undef else nodeF R k j) := hv.keep ht2 fun g hg e => by
          subst e
          rcases vnew g hg with h2 | h2
          · have := qtag g h2; rw [h.tnet] at this; cases this
          · have := h1.fresh g h2; rw [h.tnet] at this; cases this
        refine RowN.congr (by simpa [RowId.Zero] using hv3) fun k j hk' hj => ?_
        have hj4 : j = 0 ∨ j = 1 ∨ j = 2 ∨ j = 3 := by omega
        have ht0 := h.nil (.texts k) (by simp [RowId.there])
        by_cases e : k = i
        · subst e
          rcases hj4 with rfl | rfl | rfl | rfl <;> simp [nodeF, ht0]
        · rcases hj4 with rfl | rfl | rfl | rfl <;> simp [nodeF, e]
      · by_cases e2 : r = .heard i
        · subst e2; simpa [RowId.Zero] using keepN hh (oth nh)
        · by_cases e3 : r = .known i
          · subst e3; simpa [RowId.Zero] using keepN hk (oth nk)
          · by_cases e4 : r = .got i
            · subst e4; simpa [RowId.Zero] using keepN hg (oth ng)
            · have ho := h1.other (r0 := .nodes) trivial htt (fun _ h => h) (old' r hr e2 e3 e4) e1
              cases r with
              | nodes => exact absurd rfl e1
              | heard k => simpa [RowId.Zero, show ¬ k = i from fun e => e2 (by rw [e])] using ho
              | known k => simpa [RowId.Zero, show ¬ k = i from fun e => e3 (by rw [e])] using ho
              | got k => simpa [RowId.Zero, show ¬ k = i from fun e => e4 (by rw [e])] using ho
              | _ => first | exact trivial | simpa [RowId.Zero] using ho
    tag := fun r hr b hb => by
      show (if rowBlock v = some b then RTag.row .nodes else if rowBlock vh = some b then .row (.heard i) else if rowBlock vk = some b then .row (.known i) else if rowBlock vg = some b then .row (.got i) else R.tag b) = _
      by_cases e1 : r = .nodes
      · subst e1
        have hb' : rowBlock v = some b := by simpa using hb
        rw [if_pos hb']
      · by_cases e2 : r = .heard i
        · subst e2
          have hb' : rowBlock vh = some b := by simpa using hb
          rw [if_neg fun e => vu (oth nh) (lt hh) b e hb', if_pos hb']
        · by_cases e3 : r = .known i
          · subst e3
            have hb' : rowBlock vk = some b := by simpa using hb
            rw [if_neg fun e => vu (oth nk) (lt hk) b e hb', if_neg fun e => hhk b e hb', if_pos hb']
          · by_cases e4 : r = .got i
            · subst e4
              have hb' : rowBlock vg = some b := by simpa using hb
              rw [if_neg fun e => vu (oth ng) (lt hg) b e hb', if_neg fun e => hhg b e hb', if_neg fun e => hkg b e hb', if_pos hb']
            · have hb' : rowBlock (R.val r) = some b := by rw [← vals r e1 e2 e3 e4]; exact hb
              exact tk (h.tag r (old' r hr e2 e3 e4) b hb') (by simp) (fun e => by injection e with e; exact e1 e) }
end
end Go.Proofs.Ytcipfpebjeakfaa
