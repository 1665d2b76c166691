/-
  TimerNext returns true for every list of ticks, the argument left as it was; no condition.
-/
import Derived.Test.YtdjepkhpkmmhpaaRows
import Derived.Test.YtdjepkhpkmmhpaaRow
import Derived.Test.YtdjepkhpkmmhpaaTimerLaws
namespace Go.Proofs.Ytdjepkhpkmmhpaa
open Go.ChangeShapes Go.WideShapes Go.ChangeAt Go.RowKit
set_option linter.unusedVariables false

/-! What the next one is, in plain words. -/
theorem nextFold (l : List Int) : ∀ b : Int, 0 ≤ b → (∀ n ∈ l, 0 ≤ n) →
    (0 ≤ l.foldl nextStep b) ∧ (l.foldl nextStep b = 0 → b = 0 ∧ ∀ n ∈ l, n = 0) ∧ (0 < l.foldl nextStep b → (l.foldl nextStep b = b ∨ l.foldl nextStep b ∈ l) ∧ (0 < b → l.foldl nextStep b ≤ b) ∧ ∀ n ∈ l, 0 < n → l.foldl nextStep b ≤ n) := by
  induction l with
  | nil => intro b hb _; simp; omega
  | cons m r ih =>
    intro b hb hn
    have hm := hn m List.mem_cons_self
    have hr : ∀ n ∈ r, 0 ≤ n := fun n h => hn n (List.mem_cons_of_mem _ h)
    have hb' : 0 ≤ nextStep b m := by unfold nextStep; split <;> omega
    obtain ⟨h1, h2, h3⟩ := ih (nextStep b m) hb' hr
    simp only [List.foldl_cons]
    generalize List.foldl nextStep (nextStep b m) r = z at *
    refine ⟨h1, fun hz => ?_, fun hz => ?_⟩
    · obtain ⟨e1, e2⟩ := h2 hz
      unfold nextStep at e1
      split at e1
      · omega
      · rename_i hc
        refine ⟨e1, fun n h => ?_⟩
        rcases List.mem_cons.1 h with rfl | h
        · omega
        · exact e2 n h
    · obtain ⟨k1, k2, k3⟩ := h3 hz
      unfold nextStep at k1 k2
      split at k1
      · rename_i hc
        simp only [hc, and_self, if_true] at k2
        refine ⟨?_, fun hb0 => ?_, fun n h h0 => ?_⟩
        · rcases k1 with rfl | k1
          · exact .inr List.mem_cons_self
          · exact .inr (List.mem_cons_of_mem _ k1)
        · have := k2 trivial; omega
        · rcases List.mem_cons.1 h with rfl | h
          · exact k2 trivial
          · exact k3 n h h0
      · rename_i hc
        rw [if_neg hc] at k2
        refine ⟨?_, fun hb0 => k2 hb0, fun n h h0 => ?_⟩
        · rcases k1 with rfl | k1
          · exact .inl rfl
          · exact .inr (List.mem_cons_of_mem _ k1)
        · rcases List.mem_cons.1 h with rfl | h
          · have hb0 : 0 < b := by omega
            have := k2 hb0; omega
          · exact k3 n h h0

theorem next_zero {l : List Int} (h : Bank l) (e : nextL l = 0) : ∀ n ∈ l, n = 0 := ((nextFold l 0 (by omega) (fun n hn => (h.all n hn).1)).2.1 e).2
theorem next_pos {l : List Int} (h : Bank l) (e : 0 < nextL l) : nextL l ∈ l ∧ ∀ n ∈ l, 0 < n → nextL l ≤ n := by
  obtain ⟨h1, _, h3⟩ := (nextFold l 0 (by omega) (fun n hn => (h.all n hn).1)).2.2 e
  refine ⟨?_, h3⟩
  rcases h1 with h1 | h1
  · have : nextL l = 0 := h1
    omega
  · exact h1
theorem next_nonneg {l : List Int} (h : Bank l) : 0 ≤ nextL l := (nextFold l 0 (by omega) (fun n hn => (h.all n hn).1)).1
theorem next_bound {l : List Int} (h : Bank l) : nextL l ≤ 1048576 := by
  rcases Int.lt_or_le 0 (nextL l) with h0 | h0
  · exact (h.all _ (next_pos h h0).1).2
  · omega

/-- How many run. -/
def posC (l : List Int) : Nat := (l.filter (fun n => decide (0 < n))).length
theorem over_nil : ∀ (l : List Int) (k : Nat), (∀ n ∈ l, n ≠ 1) → overFrom k l = []
  | [], _, _ => rfl
  | n :: r, k, h => by
    have h1 := h n List.mem_cons_self
    simp [overFrom, h1, over_nil r (k + 1) (fun m hm => h m (List.mem_cons_of_mem _ hm))]
theorem over_some : ∀ (l : List Int) (k : Nat), (∃ n ∈ l, n = 1) → 0 < (overFrom k l).length
  | [], _, h => by obtain ⟨n, hn, _⟩ := h; cases hn
  | n :: r, k, h => by
    by_cases h1 : n = 1
    · simp [overFrom, h1]
    · have : ∃ m ∈ r, m = 1 := by
        obtain ⟨m, hm, e⟩ := h
        rcases List.mem_cons.1 hm with rfl | hm
        · exact absurd e h1
        · exact ⟨m, hm, e⟩
      simp [overFrom, h1]
      exact over_some r (k + 1) this
theorem pos_tick (l : List Int) (k : Nat) (h : ∀ n ∈ l, 0 ≤ n) : posC (tickL l) + (overFrom k l).length = posC l := by
  induction l generalizing k with
  | nil => simp [posC, tickL, overFrom]
  | cons n r ih =>
    have ih' := ih (k + 1) (fun m hm => h m (List.mem_cons_of_mem _ hm))
    have hn := h n List.mem_cons_self
    simp only [posC, tickL, List.map_cons, overFrom, List.filter_cons, List.length_append] at ih' ⊢
    by_cases h1 : n = 1
    · subst h1
      have e : decT 1 = 0 := by decide
      simp [e]
      omega
    · by_cases h0 : n = 0
      · subst h0
        have e : decT 0 = 0 := by decide
        simp [e]
        omega
      · have e1 : 0 < decT n := by unfold decT; omega
        have e2 : 0 < n := by omega
        simp only [e1, e2, decide_true, if_true, h1, if_false, List.length_cons, List.length_nil]
        omega
theorem pos_zero {l : List Int} (h : Bank l) (e : posC l = 0) : nextL l = 0 := by
  have hn := next_nonneg h
  rcases Int.lt_or_le 0 (nextL l) with h0 | h0
  · have hm := (next_pos h h0).1
    have : nextL l ∈ l.filter (fun n => decide (0 < n)) := List.mem_filter.2 ⟨hm, by simpa using h0⟩
    have := List.length_pos_of_mem this
    unfold posC at e; omega
  · omega
theorem pos_le (l : List Int) : posC l ≤ l.length := List.length_filter_le _ _

/-- All that run have at least m ticks left, and one has just m. -/
structure Ahead (l : List Int) (m : Int) : Prop where
  least : ∀ n ∈ l, n = 0 ∨ m ≤ n
  one : ∃ n ∈ l, n = m
theorem Ahead.tick {l : List Int} {m : Int} (h : Ahead l m) (hm : 1 ≤ m) : Ahead (tickL l) (m - 1) := by
  constructor
  · intro n hn
    obtain ⟨k, hk, rfl⟩ := List.mem_map.1 hn
    rcases h.least k hk with h0 | h0 <;> unfold decT <;> omega
  · obtain ⟨n, hn, rfl⟩ := h.one
    exact ⟨decT n, List.mem_map.2 ⟨n, hn, rfl⟩, by unfold decT; omega⟩
theorem Ahead.quiet {l : List Int} {m : Int} (h : Ahead l m) (hm : 2 ≤ m) : overL l = [] := over_nil l 0 (fun n hn => by rcases h.least n hn with h0 | h0 <;> omega)
theorem Ahead.over {l : List Int} (h : Ahead l 1) : 0 < (overL l).length := over_some l 0 h.one
theorem next_ahead {l : List Int} (h : Bank l) (e : 0 < nextL l) : Ahead l (nextL l) := by
  obtain ⟨h1, h2⟩ := next_pos h e
  refine ⟨fun n hn => ?_, ⟨_, h1, rfl⟩⟩
  have := (h.all n hn).1
  rcases Int.lt_or_le 0 n with h0 | h0
  · exact .inr (h2 n hn h0)
  · exact .inl (by omega)

set_option maxHeartbeats 1000000 in
theorem timerNext_walk (v : Value) (zs : List Int) : SpecV Try.prog 4 #[v] (emp * rsl 1 v zs.length (zs.map (Value.int .i64))) (.bool true) emp := by
  intro E F w hs
  rw [emp_star] at hs
  go_enter Try.func4, Try.ntmps4
  go_wp2_with fail
  refine awake8.use hs (Cut.nothing _) ?_; intro w hs
  rw [star_emp] at hs
  go_wp2_with (first | (refine wpL_alloc _ rfl rfl rfl hs ?_; intro bb w hs))
  go_loopw [4] (fun i wr => ∃ (k : Nat) (l : List Int), k ≤ 5 ∧ i = .int .i64 k ∧ Bank l ∧ Sat E (F * rsl 1 v zs.length (zs.map (Value.int .i64)) * own bb (.cells (bk l []) 25 (0, 0))) wr) (fun i _ => 5 - (intOf i).toNat)
  case atStart => exact ⟨0, zeroL, by omega, rfl, Bank.zero, hs⟩
  case round =>
    clear hs
    obtain ⟨k, l, hk, rfl, hB, hs⟩ := hrel
    have r := hs.drop.readsS
    by_cases hlt : k < zs.length
    · by_cases h5 : k < 5
      · have hz : (zs.map (Value.int .i64))[((k : Int)).toNat * 1 + 0]? = some (.int .i64 zs[k]) := by simp [hlt]
        go_wp2_with (first | (refine wpL_lenR _ _ rfl rfl rfl rfl r ?_) | (refine wpL_indexAddrR 1 _ _ _ rfl rfl rfl rfl rfl rfl rfl r (by omega) (by omega) ?_; intro ad had) | (refine wpL_loadR _ _ rfl rfl rfl (by simp) (had 0 _ hz) ?_) | (refine wpL_min _ _ rfl rfl rfl rfl ?_) | (refine wpL_max _ _ rfl rfl rfl rfl ?_) | (refine wpL_max3 _ _ _ rfl rfl rfl rfl rfl ?_) | (go_at_call 12; refine (start_spec bb l [] _ _ _ hB.len).use hs (by repeat (first | exact Cut.head _ _ | apply Cut.tail)) ?_; intro w hs))
        go_roundw
        case rel => exact ⟨k + 1, _, by omega, by go_num, hB.start _ _, hs⟩
        case measure => simp [intOf]; omega
      · have h5' : decide ((k : Int) < 5) = false := by simp; omega
        go_wp2_with (first | (refine wpL_lenR _ _ rfl rfl rfl rfl r ?_))
        clear r
        obtain ⟨wo, rfl⟩ : ∃ wo : World, wo = wr := ⟨_, rfl⟩
        go_loopw [29] (fun i wr => ∃ (c : Nat) (l : List Int), i = .int .i64 c ∧ Bank l ∧ posC l + c ≤ 5 ∧ Sat E (F * own bb (.cells (bk l []) 25 (0, 0))) wr) (fun i _ => 5 - (intOf i).toNat)
        case atStart => exact ⟨0, l, rfl, hB, by have := pos_le l; have := hB.len; omega, hs.eq (star_right_comm _ _ _) |>.drop⟩
        case round =>
          clear hs hB hk l
          obtain ⟨c, l, rfl, hB, hc, hs⟩ := hrel
          by_cases hc5 : c < 5
          · go_wp2_with fail
            refine (next_spec bb l [] _ hB.len).use hs (by repeat (first | exact Cut.head _ _ | apply Cut.tail)) ?_; intro w hs
            have hn0 := next_nonneg hB
            have hn1 := next_bound hB
            by_cases hp : 0 < nextL l
            · have hA := next_ahead hB hp
              have hp' : decide (0 < nextL l) = true := by simpa using hp
              rw [hp']
              generalize nextL l = n at *
              go_wp2_with fail
              go_loopw [41] (fun i wr => ∃ (j : Nat) (l' : List Int), (j : Int) ≤ n - 1 ∧ i = .int .i64 j ∧ Bank l' ∧ Ahead l' (n - j) ∧ posC l' = posC l ∧ Sat E (F * own bb (.cells (bk l' []) 25 (0, 0))) wr) (fun i _ => 2000000 - (intOf i).toNat)
              case atStart => exact ⟨0, l, by omega, rfl, hB, by simpa using hA, rfl, hs⟩
              case round =>
                clear hs hA
                obtain ⟨j, l', hj, rfl, hB', hA, hpc, hs⟩ := hrel
                have hpt := pos_tick l' 0 (fun n hn => (hB'.all n hn).1)
                by_cases hjl : (j : Int) < n - 1
                · have hq := hA.quiet (by omega)
                  have hq0 : overFrom 0 l' = [] := hq
                  go_wp2_with fail
                  refine (tick_spec bb l' [] _ hB'.len hB'.all).use hs (by repeat (first | exact Cut.head _ _ | apply Cut.tail)) ?_; intro vo w hs
                  rw [← star_assoc, hq] at hs
                  have r := hs.reads
                  have HA := Lib.hid (hA.tick (by omega))
                  have Hpc := Lib.hid hpc
                  rw [hq0] at hpt
                  have Hpt := Lib.hid hpt
                  clear hA hpc hpt hq hq0
                  go_wp2_with (first | (refine wpL_lenR _ _ rfl rfl rfl rfl r ?_))
                  go_roundw
                  case rel =>
                    refine ⟨j + 1, tickL l', by omega, by go_num, hB'.tick, ?_, ?_, hs.drop⟩
                    · have := HA.out; rwa [show n - ((j + 1 : Nat) : Int) = n - (j : Int) - 1 by omega]
                    · have h1 := Hpt.out; have h2 := Hpc.out; simp at h1; omega
                  case measure => simp [intOf]; omega
                · have hj1 : n - (j : Int) = 1 := by omega
                  rw [hj1] at hA
                  have ho := hA.over
                  have hlen : (overL l').length ≤ 5 := by
                    have h1 := overFrom_length l' 0
                    have h2 := hB'.len
                    unfold overL; omega
                  have hpt' : posC (tickL l') + (overL l').length = posC l' := hpt
                  go_wp2_with fail
                  refine (tick_spec bb l' [] _ hB'.len hB'.all).use hs (by repeat (first | exact Cut.head _ _ | apply Cut.tail)) ?_; intro vo w hs
                  rw [← star_assoc] at hs
                  have r := hs.reads
                  have hne : (((overL l').length : Int) == 0) = false := by rw [beq_eq_false_iff_ne]; omega
                  have Hpc := Lib.hid hpc
                  have Hpt := Lib.hid hpt'
                  clear hpc hpt hpt' hA hj1
                  go_wp2_with (first | (refine wpL_lenR _ _ rfl rfl rfl rfl r ?_))
                  go_roundw
                  case rel =>
                    refine ⟨c + 1, tickL l', by go_num, hB'.tick, ?_, hs.drop⟩
                    have h1 := Hpt.out; have h2 := Hpc.out; omega
                  case measure => simp [intOf]; omega
            · have hp' : decide (0 < nextL l) = false := by simpa using hp
              have h0 : nextL l = 0 := by omega
              rw [hp', h0]
              go_wp2
              go_ret
              rw [star_emp]
              exact ⟨rfl, hs.drop⟩
          · have h0 : nextL l = 0 := pos_zero hB (by omega)
            go_wp2_with fail
            refine (next_spec bb l [] _ hB.len).use hs (by repeat (first | exact Cut.head _ _ | apply Cut.tail)) ?_; intro w hs
            rw [h0]
            go_wp2
            go_ret
            rw [star_emp]
            exact ⟨rfl, hs.drop⟩
    · have hlt' : decide (k < zs.length) = false := by simp; omega
      go_wp2_with (first | (refine wpL_lenR _ _ rfl rfl rfl rfl r ?_))
      clear r
      obtain ⟨wo, rfl⟩ : ∃ wo : World, wo = wr := ⟨_, rfl⟩
      go_loopw [29] (fun i wr => ∃ (c : Nat) (l : List Int), i = .int .i64 c ∧ Bank l ∧ posC l + c ≤ 5 ∧ Sat E (F * own bb (.cells (bk l []) 25 (0, 0))) wr) (fun i _ => 5 - (intOf i).toNat)
      case atStart => exact ⟨0, l, rfl, hB, by have := pos_le l; have := hB.len; omega, hs.eq (star_right_comm _ _ _) |>.drop⟩
      case round =>
        clear hs hB hk l
        obtain ⟨c, l, rfl, hB, hc, hs⟩ := hrel
        by_cases hc5 : c < 5
        · go_wp2_with fail
          refine (next_spec bb l [] _ hB.len).use hs (by repeat (first | exact Cut.head _ _ | apply Cut.tail)) ?_; intro w hs
          have hn0 := next_nonneg hB
          have hn1 := next_bound hB
          by_cases hp : 0 < nextL l
          · have hA := next_ahead hB hp
            have hp' : decide (0 < nextL l) = true := by simpa using hp
            rw [hp']
            generalize nextL l = n at *
            go_wp2_with fail
            go_loopw [41] (fun i wr => ∃ (j : Nat) (l' : List Int), (j : Int) ≤ n - 1 ∧ i = .int .i64 j ∧ Bank l' ∧ Ahead l' (n - j) ∧ posC l' = posC l ∧ Sat E (F * own bb (.cells (bk l' []) 25 (0, 0))) wr) (fun i _ => 2000000 - (intOf i).toNat)
            case atStart => exact ⟨0, l, by omega, rfl, hB, by simpa using hA, rfl, hs⟩
            case round =>
              clear hs hA
              obtain ⟨j, l', hj, rfl, hB', hA, hpc, hs⟩ := hrel
              have hpt := pos_tick l' 0 (fun n hn => (hB'.all n hn).1)
              by_cases hjl : (j : Int) < n - 1
              · have hq := hA.quiet (by omega)
                have hq0 : overFrom 0 l' = [] := hq
                go_wp2_with fail
                refine (tick_spec bb l' [] _ hB'.len hB'.all).use hs (by repeat (first | exact Cut.head _ _ | apply Cut.tail)) ?_; intro vo w hs
                rw [← star_assoc, hq] at hs
                have r := hs.reads
                have HA := Lib.hid (hA.tick (by omega))
                have Hpc := Lib.hid hpc
                rw [hq0] at hpt
                have Hpt := Lib.hid hpt
                clear hA hpc hpt hq hq0
                go_wp2_with (first | (refine wpL_lenR _ _ rfl rfl rfl rfl r ?_))
                go_roundw
                case rel =>
                  refine ⟨j + 1, tickL l', by omega, by go_num, hB'.tick, ?_, ?_, hs.drop⟩
                  · have := HA.out; rwa [show n - ((j + 1 : Nat) : Int) = n - (j : Int) - 1 by omega]
                  · have h1 := Hpt.out; have h2 := Hpc.out; simp at h1; omega
                case measure => simp [intOf]; omega
              · have hj1 : n - (j : Int) = 1 := by omega
                rw [hj1] at hA
                have ho := hA.over
                have hlen : (overL l').length ≤ 5 := by
                  have h1 := overFrom_length l' 0
                  have h2 := hB'.len
                  unfold overL; omega
                have hpt' : posC (tickL l') + (overL l').length = posC l' := hpt
                go_wp2_with fail
                refine (tick_spec bb l' [] _ hB'.len hB'.all).use hs (by repeat (first | exact Cut.head _ _ | apply Cut.tail)) ?_; intro vo w hs
                rw [← star_assoc] at hs
                have r := hs.reads
                have hne : (((overL l').length : Int) == 0) = false := by rw [beq_eq_false_iff_ne]; omega
                have Hpc := Lib.hid hpc
                have Hpt := Lib.hid hpt'
                clear hpc hpt hpt' hA hj1
                go_wp2_with (first | (refine wpL_lenR _ _ rfl rfl rfl rfl r ?_))
                go_roundw
                case rel =>
                  refine ⟨c + 1, tickL l', by go_num, hB'.tick, ?_, hs.drop⟩
                  have h1 := Hpt.out; have h2 := Hpc.out; omega
                case measure => simp [intOf]; omega
          · have hp' : decide (0 < nextL l) = false := by simpa using hp
            have h0 : nextL l = 0 := by omega
            rw [hp', h0]
            go_wp2
            go_ret
            rw [star_emp]
            exact ⟨rfl, hs.drop⟩
        · have h0 : nextL l = 0 := pos_zero hB (by omega)
          go_wp2_with fail
          refine (next_spec bb l [] _ hB.len).use hs (by repeat (first | exact Cut.head _ _ | apply Cut.tail)) ?_; intro w hs
          rw [h0]
          go_wp2
          go_ret
          rw [star_emp]
          exact ⟨rfl, hs.drop⟩

theorem timerNext_own : ownKnob Try.prog.godebug = none := by kernel_rfl
set_option maxRecDepth 100000 in
theorem timerNext_lifted (os : Os) (started : os.Started) (H : Type) (enc : TypeId × Value → H) :
    ReturnsInHanded {} Try.checked os 4 .any (Rows.timerNextSpec.pre6 enc Try.prog Try.f4 Rows.timerNextRow.domain false) (Rows.timerNextSpec.post enc Try.prog Try.f4 false true false false) := by
  refine returnsInHanded_of_change (C := Try.checked) timerNext_own started (by kernel_rfl) Try.func4
    (ChangeSpec.witness6 (enc := enc) (C := Try.checked) false ⟨#[], #[.slice none 0 0], []⟩ 8 (by kernel_rfl) (by kernel_rfl) (by kernel_rfl) (by kernel_rfl)) ?_
  intro W base args ds gs before hval0 hW hcnd _
  have hval : ∀ (j : Nat) t v, Try.f4.params[j]? = some t → args[j]? = some v → Value.okWide Try.prog W .any base t v := hval0
  have hW' := hW
  obtain ⟨p, q, hA0, hV, rfl, hfz, hnd⟩ := hW
  have hA : DataW.TrodAll enc Try.prog W 0 (fun _ => true) true Try.f4.params.toList args.toList ds p := hA0
  rw [Try.params4] at hA hval
  obtain ⟨rfl, rfl⟩ := trodVars_none hV
  clear hA0 hval0
  obtain ⟨v0, d0, rfl, rfl, h0⟩ := trodAll_one hA
  obtain ⟨zs, hr, hz⟩ := ints_reads Try.underlying27 Try.underlying3 (by kernel_rfl) (hval 0 27 v0 rfl rfl) h0
  refine (timerNext_walk v0 zs W (whole W) W (sat_arg (sat_start W) hr)).mono ?_
  rintro e W' ⟨rfl, hs⟩
  exact ⟨_, rfl, law_post 4 hW' rfl rfl rfl rfl rfl Try.underlying4 (by kernel_rfl) (by kernel_rfl) (below_of_sat hs)⟩

theorem timerNext_holds : Rows.TimerNextSaid :=
  OpenClaim.holds_of_wide 4 Try.f4 rfl rfl rfl rfl rfl rfl rfl ⟨rfl, rfl, rfl, rfl, rfl⟩ rfl rfl rfl rfl rfl (by kernel_rfl) Try.func4 (by kernel_rfl)
    (of_decide_eq_true (by kernel_rfl)) (by unfold Func.isWrapper; first | (rw [if_pos (by decide +kernel)]; kernel_rfl) | (rw [if_neg (by decide +kernel)]; exact ⟨rfl, rfl⟩))
    (fun os started H enc _ => timerNext_lifted os started H enc)
#print axioms timerNext_holds
end Go.Proofs.Ytdjepkhpkmmhpaa
