/-
  Contracts: the closure of Lacks, DeleteFunc at strings.
-/
import Derived.Test.YtcipfpebjeakfaaNetD
import Derived.Test.YtcipfpebjeakfaaFlat
namespace Go.Proofs.Ytcipfpebjeakfaa
open Go Go.RowKit
open Go.Maps (Keyed)

attribute [local irreducible] World.cell? World.frozen? isAggB _root_.Go.Program.underlying

theorem filter_at {α : Type} (p : α → Bool) (xs : List α) (j : Nat) (hj : j < xs.length) : (xs.take (j + 1)).filter p = (xs.take j).filter p ++ (if p xs[j] then [xs[j]] else []) := by
  rw [List.take_succ_eq_append_getElem hj, List.filter_append]
  congr 1
  simp only [List.filter_cons, List.filter_nil]
theorem idxOf_find {α : Type} (p : α → Bool) : ∀ xs, (idxOf p xs = -1 ∧ ∀ x ∈ xs, p x = false) ∨ ∃ k, ∃ h : k < xs.length, idxOf p xs = (k : Int) ∧ p xs[k] = true ∧ ∀ x ∈ xs.take k, p x = false
  | [] => .inl ⟨rfl, by simp⟩
  | x :: xs => by
    by_cases hx : p x = true
    · exact .inr ⟨0, by simp, by unfold idxOf; rw [if_pos hx]; rfl, by simpa using hx, by simp⟩
    · have hx' : p x = false := by simpa using hx
      rcases idxOf_find p xs with ⟨h1, h2⟩ | ⟨k, hk, h1, h2, h3⟩
      · refine .inl ⟨by unfold idxOf; rw [if_neg hx, h1]; rfl, fun y hy => ?_⟩
        rcases List.mem_cons.1 hy with rfl | hy
        · exact hx'
        · exact h2 y hy
      · refine .inr ⟨k + 1, by simpa using hk, by unfold idxOf; rw [if_neg hx, h1, if_neg (by omega)]; rfl, by simpa using h2, fun y hy => ?_⟩
        rw [List.take_succ_cons] at hy
        rcases List.mem_cons.1 hy with rfl | hy
        · exact hx'
        · exact h3 y hy

def inB (s : ByteArray) (xs : List ByteArray) : Bool := decide (s ∈ xs)
theorem inB_true {s : ByteArray} {xs : List ByteArray} (h : s ∈ xs) : inB s xs = true := by unfold inB; exact decide_eq_true h
theorem inB_false {s : ByteArray} {xs : List ByteArray} (h : s ∉ xs) : inB s xs = false := by unfold inB; exact decide_eq_false h
theorem inB_iff {s : ByteArray} {xs : List ByteArray} : inB s xs = true ↔ s ∈ xs := by unfold inB; exact decide_eq_true_iff

set_option maxRecDepth 100000 in
set_option maxHeartbeats 1000000 in
theorem lacks1_contract {w : World} {g c : Nat} {xs : List ByteArray} {s : ByteArray} (hc : w.cell? ⟨c, 2, none⟩ = some (.map (some g))) (hm : MapAt Try.prog 9 w g (strs xs)) (hs : s.size ≤ 20000) :
    Calls Try.prog 40 #[.string s, ptr c] w fun e w' => e = .returned (.bool (inB s xs)) ∧ w = w' := by
  have f0 := Lib.hid hc
  clear hc
  by_cases h : s ∈ xs
  · have hin := Lib.hid h
    rw [inB_true h]
    clear h
    unfold ptr
    go_enter Try.func40, Try.ntmps40
    go_wp2_with (first | ((with_reducible change wpList _ _ _ (Oper.mk _ (Op.load _ _) _ _ _ _ :: _) _ _); refine BigFrame.wpList_want rfl (fun K hK => ?_); refine op_load1 rfl rfl Try.ag44 f0.out ?_; refine hK _ _ ?_; clear hK K) | ((with_reducible change wpList _ _ _ (Oper.mk _ (Op.lookup _ _ _ _) _ _ _ _ :: _) _ _); refine BigFrame.wpList_want rfl (fun K hK => ?_); refine op_lookup_hit rfl rfl rfl Try.k9 Try.underlying44 hm (key9 hs) (strs_in hin.out) ?_; refine hK _ _ ?_; clear hK K))
    go_ret
    exact ⟨rfl, rfl⟩
  · have hin := Lib.hid h
    rw [inB_false h]
    clear h
    unfold ptr
    go_enter Try.func40, Try.ntmps40
    go_wp2_with (first | ((with_reducible change wpList _ _ _ (Oper.mk _ (Op.load _ _) _ _ _ _ :: _) _ _); refine BigFrame.wpList_want rfl (fun K hK => ?_); refine op_load1 rfl rfl Try.ag44 f0.out ?_; refine hK _ _ ?_; clear hK K) | ((with_reducible change wpList _ _ _ (Oper.mk _ (Op.lookup _ _ _ _) _ _ _ _ :: _) _ _); refine BigFrame.wpList_want rfl (fun K hK => ?_); refine op_lookup_miss rfl rfl rfl Try.k9 Try.underlying44 hm Try.z4 (key9 hs) (strs_out hin.out) ?_; refine hK _ _ ?_; clear hK K))
    go_ret
    exact ⟨rfl, rfl⟩

def kept (p : ByteArray → Bool) (xs : List ByteArray) : List ByteArray := xs.filter fun x => !p x

/-- Where the loop of DeleteFunc stands: i elements are kept, j are seen. -/
structure DelAt (p : ByteArray → Bool) (xs : List ByteArray) (w : World) (g k c i j : Nat) (W : World) : Prop where
  touch : Touch (· = g) w W
  flat : ∃ ys, Flat W 9 g k c ys ∧ ys.length = xs.length ∧ ys.take i = (kept p (xs.take j)).map .string ∧ ys.drop j = (xs.drop j).map .string
  ij : i ≤ j
  jl : j ≤ xs.length

theorem DelAt.get {p : ByteArray → Bool} {xs : List ByteArray} {w W : World} {g k c i j : Nat} (h : DelAt p xs w g k c i j W) (hj : j < xs.length) : W.cell? ⟨g, k + j, none⟩ = some (.string xs[j]) := by
  obtain ⟨ys, hf, h1, h2, h3⟩ := h.flat
  refine hf.cell ?_
  have := congrArg (fun l => l[0]?) h3
  simpa [hj] using this

theorem DelAt.skip {p : ByteArray → Bool} {xs : List ByteArray} {w W : World} {g k c i j : Nat} (h : DelAt p xs w g k c i j W) (hj : j < xs.length) (hp : p xs[j] = true) : DelAt p xs w g k c i (j + 1) W := by
  obtain ⟨ys, hf, h1, h2, h3⟩ := h.flat
  refine ⟨h.touch, ⟨ys, hf, h1, ?_, ?_⟩, Nat.le_succ_of_le h.ij, hj⟩
  · rw [h2, kept, kept, filter_at _ _ _ hj, hp]; simp
  · have := congrArg (List.drop 1) h3
    simpa [Nat.add_comm] using this

theorem DelAt.take {p : ByteArray → Bool} {xs : List ByteArray} {w W W' : World} {g k c i j : Nat} (h : DelAt p xs w g k c i j W) (hj : j < xs.length) (hp : p xs[j] = false)
    {ys : List Value} (_hf : Flat W 9 g k c ys) (h1 : ys.length = xs.length) (h2 : ys.take i = (kept p (xs.take j)).map .string) (h3 : ys.drop j = (xs.drop j).map .string)
    (hf' : Flat W' 9 g k c (ys.set i (.string xs[j]))) (ht : Touch (· = g) W W') : DelAt p xs w g k c (i + 1) (j + 1) W' := by
  have hij := h.ij
  refine ⟨h.touch.trans ht fun _ _ h => h, ⟨_, hf', by simpa using h1, ?_, ?_⟩, by omega, hj⟩
  · rw [kept, filter_at _ _ _ hj, hp, List.map_append]
    have h2' := h2
    unfold kept at h2'
    rw [← h2']
    rw [List.take_set, List.take_succ_eq_append_getElem (by omega)]
    have hl : (ys.take i).length = i := by rw [List.length_take]; omega
    rw [List.set_append_right _ _ (by omega)]
    simp [hl]
  · rw [List.drop_set, if_pos (by omega)]
    have := congrArg (List.drop 1) h3
    simpa [Nat.add_comm] using this

def DelPost (p : ByteArray → Bool) (xs : List ByteArray) (v : Value) (w : World) (e : Ending) (w' : World) : Prop :=
  ∃ v', e = .returned v' ∧ Row w' 9 1 v' ((kept p xs).map .string) ∧ rowBlock v' = rowBlock v ∧ Touch (fun b => rowBlock v = some b) w w'

theorem Try.zero9 : (Try.prog.info? 9).bind (·.zero) = some (.string ⟨#[]⟩) := by kernel_rfl

set_option maxRecDepth 100000 in
set_option maxHeartbeats 1000000 in
theorem delete_contract (p : ByteArray → Bool) (xs : List ByteArray) (v c : Value) (fn : FuncId) (w : World) (hrow : Row w 9 1 v (xs.map .string)) (hn : xs.length ≤ 1000000)
    (hrun : ∀ (args : Array Value) (w : World), (callFunc fn args).run Try.prog w = .ok (.enter fn args) w)
    (hp : ∀ W, Touch (fun b => rowBlock v = some b) w W → ∀ x ∈ xs, Calls Try.prog fn #[.string x, c] W fun e w' => e = .returned (.bool (p x)) ∧ W = w') :
    Calls Try.prog 39 #[v, .func (.func fn) #[] #[c]] w fun e w' => DelPost p xs v w e w' := by
  have hc := Lib.hid (index_str .string p xs v c fn w hrow hn hrun (hp w (Touch.refl _ w)))
  rcases idxOf_find p xs with ⟨h1, h2⟩ | ⟨k0, hk0, h1, h2, h3⟩
  · rw [h1] at hc
    have hrow' := Lib.hid hrow
    clear hrow hp hrun
    go_enter Try.func39, Try.ntmps39
    go_wp2_with (first
      | (go_at_call 43; refine hc.out.mono ?_; rintro _ _ ⟨rfl, rfl⟩))
    go_ret
    refine ⟨v, rfl, ?_, rfl, Touch.refl _ _⟩
    have : kept p xs = xs := List.filter_eq_self.2 fun x hx => by rw [h2 x hx]; rfl
    rw [this]; exact hrow'.out
  · rw [h1] at hc
    obtain ⟨g, k, cap, rfl, hflat, hcap, hrb⟩ := hrow.flat (by intro e; have := congrArg List.length e; simp at this; rw [this] at hk0; simp at hk0)
    rw [hrb] at hp
    have hp' := Lib.hid hp
    have hsz := Lib.hid (show (xs.map Value.string).length = xs.length from by simp)
    have hle := Lib.hid (show xs.length ≤ cap from by obtain ⟨_, _, _, h, _⟩ := hflat; simpa using h)
    rw [hsz.out] at hc ⊢
    have hstart : DelAt p xs w g k cap k0 (k0 + 1) w := by
      refine ⟨Touch.refl _ w, ⟨xs.map .string, hflat, by simp, ?_, by simp⟩, by omega, hk0⟩
      rw [kept, filter_at _ _ _ hk0, h2]
      have : (xs.take k0).filter (fun x => !p x) = xs.take k0 := List.filter_eq_self.2 fun x hx => by rw [h3 x hx]; rfl
      simp [this]
    have hstart' := Lib.hid hstart
    clear hrow hflat hp h1 h2 h3 hstart
    go_enter Try.func39, Try.ntmps39
    go_wp2_with (first
      | (go_at_call 43; refine hc.out.mono ?_; rintro _ _ ⟨rfl, rfl⟩))
    go_loopw [5, 6] (fun u5 u6 W => ∃ i j : Nat, u5 = .int .i64 i ∧ u6 = .int .i64 j ∧ DelAt p xs w g k cap i j W) (fun _ u _ => xs.length - (intOf u).toNat)
    case atStart => exact ⟨k0, k0 + 1, rfl, by go_num, hstart'.out⟩
    case round =>
      obtain ⟨i, j, rfl, rfl, hd⟩ := hrel
      have hd' := Lib.hid hd
      have hij := Lib.hid hd.ij
      have hjl := Lib.hid hd.jl
      clear hd
      by_cases hlt : j < xs.length
      · have hm := Lib.hid (show xs[j] ∈ xs from List.getElem_mem hlt)
        have hcall := Lib.hid (hp'.out wr (hd'.out.touch.mono fun b _ h => by rw [h]) _ hm.out)
        by_cases hpj : p xs[j] = true
        · rw [hpj] at hcall
          go_wp2_with (first
            | ((with_reducible change wpList _ _ _ (Oper.mk _ (Op.indexAddr _ _ _) _ _ _ _ :: _) _ _); refine BigFrame.wpList_want rfl (fun K hK => ?_); refine op_index_flat rfl rfl rfl Try.underlying39 Try.szE9 hlt ?_; refine hK _ _ ?_; clear hK K)
            | ((with_reducible change wpList _ _ _ (Oper.mk _ (Op.load _ _) _ _ _ _ :: _) _ _); refine BigFrame.wpList_want rfl (fun K hK => ?_); refine op_load1 rfl rfl Try.ag9 (hd'.out.get hlt) ?_; refine hK _ _ ?_; clear hK K)
            | ((with_reducible change wpList _ _ _ (Oper.mk _ (Op.call (Call.mk (Callee.value _) _ _)) _ _ _ _ :: _) _ _); refine BigFrame.wpList_want rfl (fun K hK => ?_); refine op_call_fn rfl rfl rfl hrun hcall.out ?_; refine hK _ _ ?_; clear hK K))
          refine ⟨?_, ?measure⟩
          · (repeat apply Exists.intro)
            refine ⟨⟨i, j + 1, rfl, ?_, hd'.out.skip hlt hpj⟩, rfl⟩
            go_num
          case measure => simp [intOf]; omega
        · have hpj' : p xs[j] = false := by simpa using hpj
          rw [hpj'] at hcall
          have hpost := Lib.hid hpj'
          clear hpj hpj'
          obtain ⟨ys, hf, hyl, hy2, hy3⟩ := hd'.out.flat
          have hy1 := Lib.hid hyl
          have hy2' := Lib.hid hy2
          have hy3' := Lib.hid hy3
          clear hy2 hy3
          have hyl' := Lib.hid (show i < ys.length from by have := hij.out; omega)
          have hi := Lib.hid (show i < xs.length from by have := hij.out; omega)
          have hi6 : i < xs.length := hi.out
          clear hyl
          go_wp2_with (first
            | ((with_reducible change wpList _ _ _ (Oper.mk _ (Op.indexAddr _ _ _) _ _ _ _ :: _) _ _); refine BigFrame.wpList_want rfl (fun K hK => ?_); refine op_index_flat (i := j) rfl rfl rfl Try.underlying39 Try.szE9 hlt ?_; refine hK _ _ ?_; clear hK K)
            | ((with_reducible change wpList _ _ _ (Oper.mk _ (Op.load _ _) _ _ _ _ :: _) _ _); refine BigFrame.wpList_want rfl (fun K hK => ?_); refine op_load1 rfl rfl Try.ag9 (hd'.out.get hlt) ?_; refine hK _ _ ?_; clear hK K)
            | ((with_reducible change wpList _ _ _ (Oper.mk _ (Op.call (Call.mk (Callee.value _) _ _)) _ _ _ _ :: _) _ _); refine BigFrame.wpList_want rfl (fun K hK => ?_); refine op_call_fn rfl rfl rfl hrun hcall.out ?_; refine hK _ _ ?_; clear hK K)
            | ((with_reducible change wpList _ _ _ (Oper.mk _ (Op.indexAddr _ _ _) _ _ _ _ :: _) _ _); refine BigFrame.wpList_want rfl (fun K hK => ?_); refine op_index_flat (i := i) rfl rfl rfl Try.underlying39 Try.szE9 hi.out ?_; refine hK _ _ ?_; clear hK K)
            | ((with_reducible change wpList _ _ _ (Oper.mk _ (Op.store _ _ _) _ _ _ _ :: _) _ _); refine BigFrame.wpList_want rfl (fun K hK => ?_); refine op_store_flat (i := i) rfl rfl rfl Try.szE9 rfl hf hyl'.out ?_; intro w1 hf1 ht1; refine hK _ _ ?_; clear hK K))
          go_round
          case rel => exact ⟨i + 1, rfl, j + 1, by go_num, hd'.out.take hlt hpost.out hf hy1.out hy2'.out hy3'.out hf1 ht1⟩
          case measure => simp [intOf]; omega
      · obtain ⟨ys, hf, hy1, hy2, hy3⟩ := hd'.out.flat
        have hy2' := Lib.hid hy2
        have ht0 := Lib.hid hd'.out.touch
        have hi6 : i ≤ xs.length := Nat.le_trans hij.out hjl.out
        clear hy2 hy3 hd'
        go_wp2_with (first
          | ((with_reducible change wpList _ _ _ (Oper.mk _ (Op.slice _ _ _ _ _) _ _ _ _ :: _) _ _); refine BigFrame.wpList_want rfl (fun K hK => ?_); refine op_slice_lo (i := i) rfl rfl rfl Try.underlying39 Try.szE9 (Nat.le_trans hij.out hjl.out) hle.out ?_; intro ad had; refine hK _ _ ?_; clear hK K)
          | ((with_reducible change wpList _ _ _ (Oper.mk _ (Op.call (Call.mk (Callee.builtin Builtin.clear) _ _)) _ _ _ _ :: _) _ _); refine BigFrame.wpList_want rfl (fun K hK => ?_); refine op_clear_flat (i := i) rfl rfl (fun h => had (by omega)) Try.underlying39 Try.zero9 rfl rfl hf (by omega) ?_; intro w1 hf1 ht1; refine hK _ _ ?_; clear hK K)
          | ((with_reducible change wpList _ _ _ (Oper.mk _ (Op.slice _ _ _ _ _) _ _ _ _ :: _) _ _); refine BigFrame.wpList_want rfl (fun K hK => ?_); refine op_slice_hi (i := i) rfl rfl rfl Try.underlying39 Try.szE9 (by have := hij.out; have := hjl.out; have := hle.out; omega) ?_; refine hK _ _ ?_; clear hK K))
        go_ret
        have hlen : (kept p xs).length = i := by
          have := congrArg List.length hy2'.out
          have hj : j = xs.length := by have := hjl.out; omega
          rw [hj, List.take_length] at this
          simp at this
          omega
        have hy : ys.take i = (kept p xs).map .string := by
          rw [hy2'.out]
          have hj : j = xs.length := by have := hjl.out; omega
          rw [hj, List.take_length]
        rw [hy] at hf1
        have hr := hf1.row hcap
        rw [List.length_map, hlen] at hr
        refine ⟨_, rfl, hr, ?_, ?_⟩
        · simp [rowBlock]
        · refine (ht0.out.trans ht1 fun _ _ h => h).mono fun b _ hb => ?_
          subst hb
          have : ¬ cap = 0 := by have := hle.out; omega
          simp [rowBlock, this]
end Go.Proofs.Ytcipfpebjeakfaa
