/-
  How far a last day may lie behind its beginning: counting days.
-/
import Derived.Test.YtioofhmkeajkpaaMLimE
namespace Go.Proofs.Ytioofhmkeajkpaa
open Go Go.RowKit PLimitMatchesReference Go.Proofs.YtioofhmkeajkpaaW.PrintWords

def weekB (d : Int) : Bool := decide ((d + 5) % 7 < 5)
theorem cntF_le {p q : Int → Bool} {a : Int} : ∀ {k : Nat}, (∀ x, a < x → x ≤ a + k → p x = true → q x = true) → cntF p a k ≤ cntF q a k
  | 0, _ => Nat.le_refl _
  | k + 1, h => by
    have h1 := cntF_le (k := k) (fun x h1 h2 => h x h1 (by push_cast; omega))
    have h2 := h (a + (k + 1)) (by omega) (by push_cast; omega)
    rw [cntF, cntF]
    cases hp : p (a + (k + 1))
    · simp; omega
    · rw [h2 hp]; simp; omega
theorem cntF_or_le (p q : Int → Bool) (a : Int) : ∀ k, cntF (fun x => p x || q x) a k ≤ cntF p a k + cntF q a k
  | 0 => Nat.le_refl _
  | k + 1 => by
    have := cntF_or_le p q a k
    rw [cntF, cntF, cntF]
    cases p (a + (k + 1)) <;> cases q (a + (k + 1)) <;> simp <;> omega
theorem cntF_bd (p : Int → Bool) (a : Int) (k : Nat) : cntF p a k ≤ k := by
  have := cntF_not p a k
  omega
/-- Of three days that follow each other at least one is no day of a weekend. -/
theorem week_cnt (a : Int) : ∀ n : Nat, n ≤ 3 * cntF weekB a n + 2
  | 0 => by omega
  | 1 => by omega
  | 2 => by omega
  | n + 3 => by
    have h := week_cnt a n
    have e : cntF weekB a (n + 3) = cntF weekB a n + cntF weekB (a + n) 3 := cntF_add weekB a n 3
    have h3 : 1 ≤ cntF weekB (a + n) 3 := by
      have e1 : cntF weekB (a + n) 3 = (((0 + if weekB (a + n + ((0 : Nat) + 1)) then 1 else 0) + if weekB (a + n + ((1 : Nat) + 1)) then 1 else 0) + if weekB (a + n + ((2 : Nat) + 1)) then 1 else 0) := rfl
      rw [e1]
      unfold weekB
      simp only [decide_eq_true_eq]
      split <;> split <;> split <;> omega
    omega
theorem cnt_one (c a : Int) : ∀ k : Nat, cntF (fun x => decide (x = c)) a k ≤ (if a < c ∧ c ≤ a + k then 1 else 0)
  | 0 => by simp [cntF]
  | k + 1 => by
    have h := cnt_one c a k
    rw [cntF]
    simp only [decide_eq_true_eq]
    push_cast
    split at h <;> split <;> split <;> omega
theorem cnt_closed (a : Int) (k : Nat) : ∀ cl : List Int, cntF (fun x => decide (x ∈ cl)) a k ≤ cl.length
  | [] => by rw [cntF_none (fun _ _ _ => by simp)]; exact Nat.zero_le _
  | c :: cl => by
    have h := cnt_closed a k cl
    have h1 := cnt_one c a k
    have h2 := cntF_or_le (fun x => decide (x = c)) (fun x => decide (x ∈ cl)) a k
    have h3 : cntF (fun x => decide (x ∈ c :: cl)) a k ≤ cntF (fun x => decide (x = c) || decide (x ∈ cl)) a k := cntF_le (fun x _ _ hx => by simpa using hx)
    have h4 : (if a < c ∧ c ≤ a + k then 1 else 0) ≤ 1 := by split <;> omega
    rw [List.length_cons]
    omega
theorem cnt_stops (a : Int) (k : Nat) : ∀ ss : Stops, (∀ s ∈ ss, stopB s = true) → (cntF (fun x => ss.any (inB x)) a k : Int) ≤ sumS ss
  | [], _ => by
    have : cntF (fun x => ([] : Stops).any (inB x)) a k = 0 := cntF_none (fun _ _ _ => rfl)
    rw [this]; simp [sumS]
  | s :: ss, hs => by
    have h := cnt_stops a k ss (fun x hx => hs x (by simp [hx]))
    have h1 := cntF_in s a k
    have h2 := cntF_or_le (fun x => inB x s) (fun x => ss.any (inB x)) a k
    have h3 : cntF (fun x => (s :: ss).any (inB x)) a k = cntF (fun x => inB x s || ss.any (inB x)) a k := rfl
    have h5 := hs s (by simp)
    have h4 := stopB_iff.1 h5
    rw [sumS, if_pos h5, h3]
    omega
theorem cnt_paused {l : Lim} (hp : l.proper = true) (a : Int) (k : Nat) : (cntF l.paused a k : Int) ≤ sumS l.stops := by
  have h := cnt_stops a k l.stops (fun s hs => stopB_iff.2 ((Lim.proper_iff.1 hp).2.2.2.2 s hs))
  have h1 : cntF l.paused a k ≤ cntF (fun x => l.stops.any (inB x)) a k := cntF_le (fun x _ _ hx => by
    unfold Lim.paused pausedB at hx
    simp only [Bool.and_eq_true] at hx
    exact hx.2)
  omega
theorem workB_not {cl : List Int} {d : Int} (h : dayB d = true) (hw : workB cl d = false) (hk : weekB d = true) : decide (d ∈ cl) = true := by
  unfold workB at hw
  unfold weekB at hk
  rw [h, hk] at hw
  simpa using hw
/-- The next working day is not far. -/
theorem fromD_near {cl : List Int} {x : Int} (h0 : 0 ≤ x) (h1 : fromD cl x ≤ 1000000) : fromD cl x ≤ x + (3 * cl.length + 2) := by
  have hge := fromD_ge cl x
  have hnot := fun y => firstF_not (workB cl) (1000001 - x).toNat x y
  have hw := week_cnt (x - 1) (fromD cl x - x).toNat
  have hc := cnt_closed (x - 1) (fromD cl x - x).toNat cl
  have hl : cntF weekB (x - 1) (fromD cl x - x).toNat ≤ cntF (fun x => decide (x ∈ cl)) (x - 1) (fromD cl x - x).toNat := cntF_le (fun y hy1 hy2 hk => workB_not (dayB_iff.2 (by omega)) (hnot y (by omega) (by unfold fromD at *; omega)) hk)
  omega
theorem openD_near {l : Lim} {cl : List Int} {x : Int} (hp : l.proper = true) (h0 : 0 ≤ x) (h1 : openD l cl x ≤ 1000000) : openD l cl x ≤ x + (3 * (cl.length + sumS l.stops) + 2) := by
  have hge : x ≤ openD l cl x := (firstF_ge _ _ _).1
  have hnot := fun y => firstF_not (fun x => !l.paused x && workB cl x) (1000001 - x).toNat x y
  have hw := week_cnt (x - 1) (openD l cl x - x).toNat
  have hc := cnt_closed (x - 1) (openD l cl x - x).toNat cl
  have hs := cnt_paused hp (x - 1) (openD l cl x - x).toNat
  have ho := cntF_or_le l.paused (fun x => decide (x ∈ cl)) (x - 1) (openD l cl x - x).toNat
  have hl : cntF weekB (x - 1) (openD l cl x - x).toNat ≤ cntF (fun x => l.paused x || decide (x ∈ cl)) (x - 1) (openD l cl x - x).toNat := cntF_le (fun y hy1 hy2 hk => by
    have hn := hnot y (by omega) (by unfold openD at *; omega)
    cases hpy : l.paused y with
    | true => rfl
    | false =>
      rw [hpy] at hn
      simp only [Bool.not_false, Bool.true_and] at hn
      exact workB_not (dayB_iff.2 (by omega)) hn hk)
  omega
/-- The n-th working day. -/
theorem workF_cnt (cl : List Int) : ∀ (n : Nat) (x : Int), x ≤ workF cl n x ∧ cntF (workB cl) x (workF cl n x - x).toNat ≤ n
  | 0, x => by
    rw [workF, show (x - x).toNat = 0 by omega]
    exact ⟨Int.le_refl _, Nat.le_refl _⟩
  | n + 1, x => by
    rw [workF]
    split
    · obtain ⟨h1, h2⟩ := workF_cnt cl n (fromD cl (x + 1))
      have hge := fromD_ge cl (x + 1)
      refine ⟨by omega, ?_⟩
      obtain ⟨y, hy⟩ : ∃ y, fromD cl (x + 1) = y := ⟨_, rfl⟩
      have hnot := fun z => firstF_not (workB cl) (1000001 - (x + 1)).toNat (x + 1) z
      have hnot' : ∀ z, x < z → z < y → workB cl z = false := fun z hz1 hz2 => hnot z (by omega) (by rw [← hy] at hz2; exact hz2)
      rw [hy] at h1 h2 hge ⊢
      rw [show (workF cl n y - x).toNat = ((y - x).toNat - 1) + 1 + (workF cl n y - y).toNat by omega, cntF_add, cntF]
      rw [cntF_none (fun z hz1 hz2 => hnot' z hz1 (by omega))]
      rw [show x + ((((y - x).toNat - 1 + 1 : Nat)) : Int) = y by omega]
      split <;> omega
    · rw [show (x - x).toNat = 0 by omega]
      exact ⟨Int.le_refl _, Nat.zero_le _⟩
theorem workF_near {cl : List Int} {n : Nat} {x : Int} (h0 : 0 ≤ x) (h1 : workF cl n x ≤ 1000000) : workF cl n x ≤ x + (3 * (n + cl.length) + 2) := by
  obtain ⟨hge, hcn⟩ := workF_cnt cl n x
  have hw := week_cnt x (workF cl n x - x).toNat
  have hc := cnt_closed x (workF cl n x - x).toNat cl
  have ho := cntF_or_le (workB cl) (fun x => decide (x ∈ cl)) x (workF cl n x - x).toNat
  have hl : cntF weekB x (workF cl n x - x).toNat ≤ cntF (fun x => workB cl x || decide (x ∈ cl)) x (workF cl n x - x).toNat := cntF_le (fun y hy1 hy2 hk => by
    cases hwy : workB cl y with
    | true => rfl
    | false => exact workB_not (dayB_iff.2 (by omega)) hwy hk)
  omega
theorem short_le {n u : Int} (h : shortB n u = true) (hn : n ≤ 1000000) : n ≤ (if u = 2 then 600 else if u = 3 then 150 else if u = 4 then 12 else if u = 5 then 3000 else 4000) := by
  unfold shortB at h
  simp only [Bool.or_eq_true, decide_eq_true_eq] at h
  rcases h with h | h
  · exact h
  · omega
/-- The end of the term is not far. -/
theorem term_near {fr n u : Int} {cl : List Int} {a : Int} (h : AddIs fr n u cl a 0) (hs : shortB n u = true) (hc : cl.length ≤ 300) : fr ≤ a ∧ a ≤ fr + 10804 := by
  have hout := h.out
  unfold AddIs at h
  split at h
  · rename_i hb
    rw [if_neg (by omega)] at h
    simp only [Bool.and_eq_true] at hb
    have hd := dayB_iff.1 hb.1
    have ht := termB_iff.1 hb.2
    have hsl := short_le hs ht.2.2.2
    obtain ⟨x, f, hx, h⟩ := h
    split at h
    · rename_i hf
      obtain ⟨rfl, hdx, hfx⟩ := hf
      have hx0 := dayB_iff.1 hdx
      have hnear := fromD_near (cl := cl) hx0.1 hfx
      have : x ≤ fr + 9902 := by
        unfold StepIs at hx
        split at hx
        · rename_i hu; subst hu; simp at hsl; omega
        · rename_i hu1
          split at hx
          · rename_i hu; subst hu; simp at hsl; omega
          · rename_i hu2
            split at hx
            · rename_i hu; subst hu; simp at hsl
              have := months_le hx ht.2.2.1
              omega
            · rename_i hu3
              split at hx
              · rename_i hu; subst hu; simp at hsl
                have := months_le hx (by omega)
                omega
              · rename_i hu4
                obtain rfl : u = 5 := by omega
                simp at hsl
                have := workF_near (cl := cl) (n := n.toNat) hd.1 (by omega)
                omega
      omega
    · omega
  · omega
theorem due_near {l : Lim} {cl : List Int} {r : Int} (hw : fewB l cl = true) (h : DueIs l cl r 0) : r - l.fr ≤ 20000 := by
  obtain ⟨-, -, hsum, hsh, hcl⟩ := fewB_out hw
  obtain ⟨hp, a, k, ha, hc, rfl, hr, -, -⟩ := h.hit
  have hfr := (Lim.proper_iff.1 hp).2.1
  obtain ⟨ha0, ha1⟩ := term_near ha hsh hcl
  have hps := cnt_paused hp l.fr k
  have hn := cntF_not l.paused l.fr k
  have hop := openD_near (cl := cl) (x := l.fr + k) hp (by omega) hr
  omega
/-- The count of LimitLast. -/
theorem due_count {l : Lim} {cl : List Int} {r a f : Int} (h : DueIs l cl r 0) (ha : AddIs l.fr l.n l.unit cl a f) : f = 0 ∧ l.fr ≤ a ∧ a ≤ r ∧ a - l.fr ≤ cntF (fun d => !l.paused d) l.fr (r - l.fr).toNat := by
  obtain ⟨hp, a', k, ha', hc, rfl, hr, -, -⟩ := h.hit
  obtain ⟨rfl, rfl⟩ := ha'.unique ha
  have hge : l.fr + k ≤ openD l cl (l.fr + k) := (firstF_ge _ _ _).1
  have hbd := cntF_bd (fun d => !l.paused d) l.fr k
  have hmono := cntF_mono (fun d => !l.paused d) l.fr (k := k) (k' := (openD l cl (l.fr + k) - l.fr).toNat) (by omega)
  rcases ha.out with ⟨_, h1, _⟩ | ⟨_, h1⟩
  · exact ⟨rfl, h1, by omega, by omega⟩
  · omega
end Go.Proofs.Ytioofhmkeajkpaa

/-
  LimitLast: the walk.
-/
namespace Go.Proofs.Ytioofhmkeajkpaa
open Go Go.RowKit PLimitMatchesReference Go.Proofs.YtioofhmkeajkpaaW.PrintWords

attribute [local irreducible] World.cell? World.frozen? isAggB _root_.Go.Program.underlying

def upF (l : Lim) (x : Int) : Int := cntF (fun d => !l.paused d) l.fr (x - 1 - l.fr).toNat
theorem upF_start (l : Lim) : upF l (l.fr + 1) = 0 := by
  unfold upF
  rw [show (l.fr + 1 - 1 - l.fr).toNat = 0 by omega]
  rfl
theorem upF_step (l : Lim) (x : Int) (h : l.fr < x) : upF l (x + 1) = upF l x + (if l.paused x then 0 else 1) := by
  unfold upF
  rw [show (x + 1 - 1 - l.fr).toNat = (x - 1 - l.fr).toNat + 1 by omega, cntF, show l.fr + (((x - 1 - l.fr).toNat : Int) + 1) = x by omega]
  cases l.paused x <;> simp
theorem upF_bd (l : Lim) (x : Int) (h : l.fr < x) : 0 ≤ upF l x ∧ upF l x ≤ x - l.fr := by
  have := cntF_bd (fun d => !l.paused d) l.fr (x - 1 - l.fr).toNat
  unfold upF
  omega

set_option maxRecDepth 100000 in
set_option maxHeartbeats 8000000 in
theorem last_walk {w : World} {l : Lim} {v vc : Value} {cl : List Int} (hs : RStops w v l.stops) (_ : l.ok) (hv : RInts w vc cl) (hok : ∀ x ∈ cl, (Lit.int .i64 x).wf = true) :
    Calls Try.prog 7 #[.agg (limCells l v).toArray, vc] w fun e w' => e = .returned (.bool true) ∧ Ext w w' := by
  have hok' := Lib.hid hok
  clear hok
  have hone := hs.one
  have hfe := fun W (hE : Ext w W) => few_contract (l := l) (hs.ext hE) (hv.ext hE)
  cases hfw : fewB l cl with
  | false =>
    simp only [hfw] at hfe
    replace hfe := Lib.hid hfe
    clear hfw
    unfold limCells at hfe ⊢
    go_enter Try.func7, Try.ntmps7
    ((first | go_at_call 10 | (go_wp2_with fail; go_at_call 10)); refine (head_contract _).mono ?_; rintro _ w1 ⟨rfl, x1⟩)
    have b1 := (Blk.alloc' w #[.string l.id, .int .i64 l.n, .int .i64 l.unit, .int .i64 l.fr, v] 26).ext x1
    have hE1 := (Ext.alloc w _).then_ext x1
    ((first | go_at_call 11 | (go_wp2_with (first | ((with_reducible change wpList _ _ _ (Oper.mk _ (Op.load _ _) _ _ _ _ :: _) _ _); refine BigFrame.wpList_want rfl (fun K hK => ?_); refine op_loadN (p := ⟨w.heap.size, 0, none⟩) (vs := [.string l.id, .int .i64 l.n, .int .i64 l.unit, .int .i64 l.fr, v]) rfl rfl Try.ag26 Try.sz26 (blk_cells b1) ?_; refine hK _ _ ?_; clear hK K)); go_at_call 11)); refine (hfe.out _ hE1).mono ?_; rintro _ w3 ⟨rfl, x3⟩)
    go_wp2_with fail
    go_ret
    exact ⟨rfl, hE1.then_ext x3⟩
  | true =>
    obtain ⟨hl10, hid, -, -, hcl⟩ := fewB_out hfw
    have hat : ∀ W, Ext w W → LimAt W l v := fun W hE => ⟨hs.ext hE, by omega, Nat.le_trans hid (by omega)⟩
    have hdu := fun W (hE : Ext w W) => due_contract (hat W hE) (hv.ext hE) hok'.out (by omega)
    have had := fun W (hE : Ext w W) => add_contract (hv.ext hE) hok'.out (by omega) l.fr l.n l.unit
    have hpa := fun W (hE : Ext w W) d => refPaused_contract (hat W hE) d
    have hwo := fun W (hE : Ext w W) d h0 h1 => work_contract (hv.ext hE) hok'.out (by omega) d h0 h1
    replace hdu := Lib.hid hdu
    replace had := Lib.hid had
    replace hpa := Lib.hid hpa
    replace hwo := Lib.hid hwo
    clear hat hid hcl hl10
    have hfw' := Lib.hid hfw
    simp only [hfw] at hfe
    replace hfe := Lib.hid hfe
    clear hfw
    unfold limCells at hfe hdu hpa ⊢
    go_enter Try.func7, Try.ntmps7
    ((first | go_at_call 10 | (go_wp2_with fail; go_at_call 10)); refine (head_contract _).mono ?_; rintro _ w1 ⟨rfl, x1⟩)
    have b1 := (Blk.alloc' w #[.string l.id, .int .i64 l.n, .int .i64 l.unit, .int .i64 l.fr, v] 26).ext x1
    have hE1 := (Ext.alloc w _).then_ext x1
    ((first | go_at_call 11 | (go_wp2_with (first | ((with_reducible change wpList _ _ _ (Oper.mk _ (Op.load _ _) _ _ _ _ :: _) _ _); refine BigFrame.wpList_want rfl (fun K hK => ?_); refine op_loadN (p := ⟨w.heap.size, 0, none⟩) (vs := [.string l.id, .int .i64 l.n, .int .i64 l.unit, .int .i64 l.fr, v]) rfl rfl Try.ag26 Try.sz26 (blk_cells b1) ?_; refine hK _ _ ?_; clear hK K)); go_at_call 11)); refine (hfe.out _ hE1).mono ?_; rintro _ w3 ⟨rfl, x3⟩)
    have b3 := b1.ext x3
    have hE3 := hE1.then_ext x3
    ((first | go_at_call 12 | (go_wp2_with (first | ((with_reducible change wpList _ _ _ (Oper.mk _ (Op.load _ _) _ _ _ _ :: _) _ _); refine BigFrame.wpList_want rfl (fun K hK => ?_); refine op_loadN (p := ⟨w.heap.size, 0, none⟩) (vs := [.string l.id, .int .i64 l.n, .int .i64 l.unit, .int .i64 l.fr, v]) rfl rfl Try.ag26 Try.sz26 (blk_cells b3) ?_; refine hK _ _ ?_; clear hK K)); go_at_call 12)); refine (hdu.out _ hE3).mono ?_; rintro _ w4 ⟨r, e, rfl, hd, x4⟩)
    have b4 := b3.ext x4
    have hE4 := hE3.then_ext x4
    by_cases he : e = 0
    · subst he
      have hd' := Lib.hid hd
      ((first | go_at_call 23 | (go_wp2_with (first | ((with_reducible change wpList _ _ _ (Oper.mk _ (Op.load _ _) _ _ _ _ :: _) _ _); refine BigFrame.wpList_want rfl (fun K hK => ?_); refine op_load1 rfl rfl Try.ag3 (b4.cell (i := 3) rfl) ?_; refine hK _ _ ?_; clear hK K) | ((with_reducible change wpList _ _ _ (Oper.mk _ (Op.load _ _) _ _ _ _ :: _) _ _); refine BigFrame.wpList_want rfl (fun K hK => ?_); refine op_loadN (p := ⟨w.heap.size, 1, none⟩) (vs := [.int .i64 l.n, .int .i64 l.unit]) rfl rfl Try.ag23 Try.sz23 (blk_part [.string l.id] [.int .i64 l.n, .int .i64 l.unit] [.int .i64 l.fr, v] b4) ?_; refine hK _ _ ?_; clear hK K)); go_at_call 23)); refine (had.out _ hE4).mono ?_; rintro _ w5 ⟨a, f, rfl, hab, x5⟩)
      have b5 := b4.ext x5
      have hE5 := hE4.then_ext x5
      obtain ⟨rfl, ha0, ha1, hcnt⟩ := due_count hd'.out hab
      have hnear := due_near hfw'.out hd'.out
      obtain ⟨hpr, -, -, -, -, -, hr1, hnp, hwk⟩ := hd'.out.hit
      obtain ⟨hfr0, hfr1⟩ := (Lim.proper_iff.1 hpr).2.1
      have g1 : decide (r < a) = false := by simp; omega
      have g2 : decide (a < l.fr) = false := by simp; omega
      have g3 : decide (20000 < r - l.fr) = false := by simp; omega
      have hwo1 := hwo.out w5 hE5 r (by omega) (by omega)
      simp only [hwk] at hwo1
      have hpa1 := fun W hE => hpa.out W hE r
      simp only [hnp] at hpa1
      replace hpa1 := Lib.hid hpa1
      replace hwo1 := Lib.hid hwo1
      have hcnt' := Lib.hid hcnt
      clear hd hab hd' hfw' hpr hnp hwk hcnt hwo
      ((first | go_at_call 25 | (go_wp2_with (first | ((with_reducible change wpList _ _ _ (Oper.mk _ (Op.load _ _) _ _ _ _ :: _) _ _); refine BigFrame.wpList_want rfl (fun K hK => ?_); refine op_load1 rfl rfl Try.ag3 (b5.cell (i := 3) rfl) ?_; refine hK _ _ ?_; clear hK K)); go_at_call 25)); refine (hwo1.out).mono ?_; rintro _ w6 ⟨rfl, x6⟩)
      have b6 := b5.ext x6
      have hE6 := hE5.then_ext x6
      ((first | go_at_call 14 | (go_wp2_with (first | ((with_reducible change wpList _ _ _ (Oper.mk _ (Op.load _ _) _ _ _ _ :: _) _ _); refine BigFrame.wpList_want rfl (fun K hK => ?_); refine op_loadN (p := ⟨w.heap.size, 0, none⟩) (vs := [.string l.id, .int .i64 l.n, .int .i64 l.unit, .int .i64 l.fr, v]) rfl rfl Try.ag26 Try.sz26 (blk_cells b6) ?_; refine hK _ _ ?_; clear hK K)); go_at_call 14)); refine (hpa1.out _ hE6).mono ?_; rintro _ w7 ⟨rfl, x7⟩)
      have b7 := b6.ext x7
      have hE7 := hE6.then_ext x7
      clear x1 x3 x4 x5 x6 b1 b3 b4 b5 b6 hE1 hE3 hE4 hE5 hE6 hpa1 hwo1
      have hup0 := upF_start l
      have hup := fun x => upF_step l x
      have hub := fun x => upF_bd l x
      have hend : upF l (r + 1) = cntF (fun d => !l.paused d) l.fr (r - l.fr).toNat := by unfold upF; rw [show r + 1 - 1 - l.fr = r - l.fr by omega]
      replace hend := Lib.hid hend
      replace hup := Lib.hid hup
      go_wp2_with (first
        | ((with_reducible change wpList _ _ _ (Oper.mk _ (Op.load _ _) _ _ _ _ :: _) _ _); refine BigFrame.wpList_want rfl (fun K hK => ?_); refine op_load1 rfl rfl Try.ag3 (b7.cell (i := 3) rfl) ?_; refine hK _ _ ?_; clear hK K))
      go_loopw [10, 11] (fun n u W => ∃ x m : Int, u = .int .i64 x ∧ n = .int .i64 m ∧ l.fr < x ∧ x ≤ r + 1 ∧ m = upF l x ∧ Ext w7 W) (fun _ u _ => (r + 1 - intOf u).toNat)
      case atStart => exact ⟨l.fr + 1, 0, rfl, rfl, by omega, by omega, hup0.symm, Touch.refl _ _⟩
      case round =>
        obtain ⟨x, m, rfl, rfl, hx0, hx1, hm, hEW⟩ := hrel
        have hmb := hub x hx0
        rw [← hm] at hmb
        obtain ⟨hm0, hm1⟩ := hmb
        have bW := b7.ext hEW
        have hEw := hE7.then_ext hEW
        have hm' := Lib.hid hm
        clear hm
        by_cases hxr : x ≤ r
        · have hpx := fun W hE => hpa.out W hE x
          have hst := hup.out x hx0
          cases hp : l.paused x with
          | true =>
            simp only [hp] at hpx
            rw [hp] at hst
            replace hst := Lib.hid hst
            replace hpx := Lib.hid hpx
            clear hp
            ((first | go_at_call 14 | (go_wp2_with (first | ((with_reducible change wpList _ _ _ (Oper.mk _ (Op.load _ _) _ _ _ _ :: _) _ _); refine BigFrame.wpList_want rfl (fun K hK => ?_); refine op_loadN (p := ⟨w.heap.size, 0, none⟩) (vs := [.string l.id, .int .i64 l.n, .int .i64 l.unit, .int .i64 l.fr, v]) rfl rfl Try.ag26 Try.sz26 (blk_cells bW) ?_; refine hK _ _ ?_; clear hK K)); go_at_call 14)); refine (hpx.out _ hEw).mono ?_; rintro _ w8 ⟨rfl, x8⟩)
            go_wp2_with fail
            exact ⟨⟨x + 1, m, by go_num, rfl, by omega, by omega, by rw [hst.out, hm'.out]; simp, hEW.then_ext x8⟩, by simp [intOf]; omega⟩
          | false =>
            simp only [hp] at hpx
            rw [hp] at hst
            replace hst := Lib.hid hst
            replace hpx := Lib.hid hpx
            clear hp
            ((first | go_at_call 14 | (go_wp2_with (first | ((with_reducible change wpList _ _ _ (Oper.mk _ (Op.load _ _) _ _ _ _ :: _) _ _); refine BigFrame.wpList_want rfl (fun K hK => ?_); refine op_loadN (p := ⟨w.heap.size, 0, none⟩) (vs := [.string l.id, .int .i64 l.n, .int .i64 l.unit, .int .i64 l.fr, v]) rfl rfl Try.ag26 Try.sz26 (blk_cells bW) ?_; refine hK _ _ ?_; clear hK K)); go_at_call 14)); refine (hpx.out _ hEw).mono ?_; rintro _ w8 ⟨rfl, x8⟩)
            go_wp2_with fail
            exact ⟨⟨x + 1, m + 1, by go_num, by go_num, by omega, by omega, by rw [hst.out, hm'.out]; simp, hEW.then_ext x8⟩, by simp [intOf]; omega⟩
        · obtain rfl : x = r + 1 := by omega
          have hge : a - l.fr ≤ m := by have := hend.out; have := hcnt'.out; have := hm'.out; omega
          go_wp2_with (first
            | ((with_reducible change wpList _ _ _ (Oper.mk _ (Op.load _ _) _ _ _ _ :: _) _ _); refine BigFrame.wpList_want rfl (fun K hK => ?_); refine op_load1 rfl rfl Try.ag3 (bW.cell (i := 3) rfl) ?_; refine hK _ _ ?_; clear hK K))
          go_ret
          exact ⟨rfl, hEw⟩
    · obtain rfl : r = 0 := by
        rcases hd.out with ⟨h, _⟩ | ⟨h, _⟩
        · exact absurd h he
        · exact h
      have he' : (e != 0) = true := by simpa using he
      clear hd
      go_wp2_with fail
      go_ret
      exact ⟨rfl, hE4⟩
end Go.Proofs.Ytioofhmkeajkpaa
