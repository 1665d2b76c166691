/-
  The timers' laws: the walks.
-/
import Derived.Test.YtdjepkhpkmmhpaaTimer
namespace Go.Proofs.Ytdjepkhpkmmhpaa
open Go Go.RowKit
set_option linter.unusedVariables false

theorem awake8 : SpecV Try.prog 11 #[] emp (.bool true) emp := by
  intro E F w hs
  rw [star_emp] at hs
  go_enter Try.func11, Try.ntmps11
  go_wp2_with (first | (refine wpL_alloc _ rfl rfl rfl hs ?_; intro bn w hs))
  refine (start_spec bn zeroL [] _ 1 2 rfl).use hs (by repeat (first | exact Cut.head _ _ | apply Cut.tail)) ?_; intro w hs
  go_wp2_with fail
  refine (start_spec bn [0, 2, 0, 0, 0] [] _ 0 2 rfl).use hs (by repeat (first | exact Cut.head _ _ | apply Cut.tail)) ?_; intro w hs
  go_wp2_with fail
  refine (tick_spec bn [2, 2, 0, 0, 0] [] _ rfl (by decide)).use hs (by repeat (first | exact Cut.head _ _ | apply Cut.tail)) ?_; intro va w hs
  replace hs : Sat E (F * (own bn (.cells (bk [1, 1, 0, 0, 0] []) _ (0, 0)) * osl 3 1 va 0 [])) w := hs
  rw [← star_assoc] at hs
  go_wp2_with fail
  refine (tick_spec bn [1, 1, 0, 0, 0] [] _ rfl (by decide)).use hs (by repeat (first | exact Cut.head _ _ | apply Cut.tail)) ?_; intro vc w hs
  replace hs : Sat E (F * osl 3 1 va 0 [] * (own bn (.cells (bk [0, 0, 0, 0, 0] []) _ (0, 0)) * osl 3 1 vc 2 [.int .i64 0, .int .i64 1])) w := hs
  rw [← star_assoc] at hs
  have r1 := hs.reads
  have hsa := hs.drop.drop
  have r2 := hsa.reads
  go_wp2_with (first | (refine wpL_lenR _ _ rfl rfl rfl rfl r1 ?_) | (refine wpL_lenR _ _ rfl rfl rfl rfl r2 ?_) | (refine wpL_indexAddrR 1 _ _ _ rfl rfl rfl rfl rfl rfl rfl r1 (by omega) (by omega) ?_; intro ad had) | (refine wpL_loadR _ _ rfl rfl rfl (by simp) (had 0 _ rfl) ?_))
  go_ret
  rw [star_emp]
  exact ⟨rfl, hsa.drop⟩

/-- Whether a timer is among those that are over. -/
def hits (t : Int) (l : List Int) : Nat := (l.filter (fun x => decide (x = t))).length
theorem hits_snoc (t x : Int) (l : List Int) : hits t (l ++ [x]) = hits t l + if x = t then 1 else 0 := by
  simp only [hits, List.filter_append, List.length_append]
  congr 1
  by_cases h : x = t <;> simp [h]
theorem hits_over (t : Nat) : ∀ (l : List Int) (k : Nat), hits (t : Int) (overFrom k l) = if k ≤ t ∧ l[t - k]? = some 1 then 1 else 0
  | [], k => by simp [overFrom, hits]
  | n :: r, k => by
    have ih := hits_over t r (k + 1)
    have e : hits (t : Int) (overFrom k (n :: r)) = hits (t : Int) (if n = 1 then [(k : Int)] else []) + hits (t : Int) (overFrom (k + 1) r) := by
      simp only [overFrom, hits, List.filter_append, List.length_append]
    rw [e, ih]
    by_cases h1 : n = 1
    · by_cases h2 : k = t
      · subst h2; simp [hits, h1]; omega
      · by_cases h3 : k ≤ t
        · obtain ⟨d, hd⟩ : ∃ d, t - k = d + 1 := ⟨t - k - 1, by omega⟩
          have hd2 : t - (k + 1) = d := by omega
          simp [hits, h1, hd, hd2, show ¬ (k : Int) = (t : Int) by omega, h3, show k + 1 ≤ t by omega]
        · simp [hits, h1, show ¬ (k : Int) = (t : Int) by omega, h3, show ¬ k + 1 ≤ t by omega]
    · by_cases h2 : k = t
      · subst h2; simp [hits, h1]; omega
      · by_cases h3 : k ≤ t
        · obtain ⟨d, hd⟩ : ∃ d, t - k = d + 1 := ⟨t - k - 1, by omega⟩
          have hd2 : t - (k + 1) = d := by omega
          simp [hits, h1, hd, hd2, h3, show k + 1 ≤ t by omega]
        · simp [hits, h1, h3, show ¬ k + 1 ≤ t by omega]

theorem bk_rd (l : List Int) (hl : l.length = 5) : rd (bk l []) 0 (szOf Try.prog 25) true = some (.agg (l.map (Value.int .i64)).toArray) := by
  have : szOf Try.prog 25 = 5 := rfl
  rw [this]
  simp [rd, bk, hl]
  exact List.take_of_length_le (by simp [hl])
theorem bk_over (l m : List Int) (hl : l.length = 5) (hm : m.length = 5) : splice (bk m []) 0 (l.map (Value.int .i64)) = bk l [] := by
  simp [splice, bk, hl, hm]

/-- A bank of timers that may be. -/
structure Bank (l : List Int) : Prop where
  len : l.length = 5
  all : ∀ n ∈ l, 0 ≤ n ∧ n ≤ 1048576
theorem Bank.zero : Bank zeroL := ⟨rfl, by decide⟩
theorem Bank.start {l : List Int} (h : Bank l) (t n : Int) : Bank (startL l t n) := by
  unfold startL
  split
  · refine ⟨by simp [h.len], fun m hm => ?_⟩
    rcases List.mem_or_eq_of_mem_set hm with hm | rfl
    · exact h.all m hm
    · unfold clampT; omega
  · exact h
theorem Bank.stop {l : List Int} (h : Bank l) (t : Int) : Bank (stopL l t) := by
  unfold stopL
  split
  · refine ⟨by simp [h.len], fun m hm => ?_⟩
    rcases List.mem_or_eq_of_mem_set hm with hm | rfl
    · exact h.all m hm
    · omega
  · exact h
theorem Bank.tick {l : List Int} (h : Bank l) : Bank (tickL l) := by
  refine ⟨by simp [tickL, h.len], fun m hm => ?_⟩
  obtain ⟨n, hn, rfl⟩ := List.mem_map.1 hm
  have := h.all n hn
  unfold decT; omega

theorem bank_getD {l : List Int} (h : Bank l) (t : Int) (h0 : 0 ≤ t) (h5 : t < 5) : leftL l t = l.getD t.toNat 0 ∧ 0 ≤ leftL l t ∧ leftL l t ≤ 1048576 := by
  have : isT t = true := by simp [isT, h0, h5]
  have hlt : t.toNat < l.length := by rw [h.len]; omega
  have h2 := h.all l[t.toNat] (List.getElem_mem hlt)
  have e : leftL l t = l[t.toNat] := by simp [leftL, this, hlt]
  refine ⟨by simp [leftL, this], ?_⟩
  rw [e]; exact h2
theorem left_start {l : List Int} (h : l.length = 5) (t u n : Int) (h0 : 0 ≤ t) (h5 : t < 5) (hu0 : 0 ≤ u) (hu : u < 5) : leftL (startL l t n) u = if t = u then clampT n else leftL l u := by
  have h1 : isT t = true := by simp [isT, h0, h5]
  have h2 : isT u = true := by simp [isT, hu0, hu]
  have hlt : u.toNat < l.length := by omega
  simp only [leftL, startL, h1, h2, if_true, List.getD_eq_getElem?_getD, List.getElem?_set]
  by_cases e : t = u
  · subst e; simp [hlt]
  · simp [show ¬ t.toNat = u.toNat by omega, e]
theorem left_tick {l : List Int} (h : Bank l) (u : Int) (hu0 : 0 ≤ u) (hu : u < 5) : leftL (tickL l) u = decT (leftL l u) := by
  have h2 : isT u = true := by simp [isT, hu0, hu]
  have hlt : u.toNat < l.length := by have := h.len; omega
  simp [leftL, tickL, h2, List.getD_eq_getElem?_getD, hlt]
theorem hits_left {l : List Int} (h : Bank l) (u : Int) (hu0 : 0 ≤ u) (hu : u < 5) : hits u (overL l) = if leftL l u = 1 then 1 else 0 := by
  have h2 : isT u = true := by simp [isT, hu0, hu]
  have hlt : u.toNat < l.length := by have := h.len; omega
  have := hits_over u.toNat l 0
  rw [show ((u.toNat : Nat) : Int) = u by omega] at this
  simp only [overL, this, leftL, h2, if_true, List.getD_eq_getElem?_getD]
  simp [hlt]

set_option maxHeartbeats 1000000 in
theorem timerAlone_walk (t n other : Int) : SpecV Try.prog 3 #[.int .i64 t, .int .i64 n, .int .i64 other] emp (.bool true) emp := by
  intro E F w hs
  rw [star_emp] at hs
  have ht1 : 0 ≤ t % 256 := by omega
  go_enter Try.func3, Try.ntmps3
  go_wp2_with fail
  refine awake8.use hs (Cut.nothing _) ?_; intro w hs
  rw [star_emp] at hs
  go_wp2_with (first | (refine wpL_mask 8 256 255 _ _ _ rfl rfl (by decide) rfl rfl rfl ?_) | (refine wpL_min _ _ rfl rfl rfl rfl ?_) | (refine wpL_max _ _ rfl rfl rfl rfl ?_) | (refine wpL_max3 _ _ _ rfl rfl rfl rfl rfl ?_) | (refine wpL_alloc _ rfl rfl rfl hs ?_; intro bb w hs))
  have ht2 : 0 ≤ t % 256 % 5 ∧ t % 256 % 5 < 5 := by omega
  have hn2 : 1 ≤ max 1 (min n 300) ∧ max 1 (min n 300) ≤ 300 := by omega
  generalize t % 256 % 5 = t at *
  generalize max 1 (min n 300) = n at *
  refine (start_spec bb zeroL [] _ t n rfl).use hs (by repeat (first | exact Cut.head _ _ | apply Cut.tail)) ?_; intro w hs
  have hB := Bank.zero.start t n
  have hL : leftL (startL zeroL t n) t = n := by
    rw [left_start rfl _ _ _ ht2.1 ht2.2 ht2.1 ht2.2, if_pos rfl]; unfold clampT; omega
  generalize startL zeroL t n = l at *
  have hrd := bk_rd l hB.len
  go_wp2_with (first | (refine wpL_loadA _ _ rfl rfl rfl hs.getOwn (by simp) rfl hrd ?_) | (refine wpL_alloc _ rfl rfl rfl hs ?_; intro bc w hs) | (refine wpL_storeA _ _ _ rfl rfl rfl rfl rfl hs (by repeat (first | exact Cut.head _ _ | apply Cut.tail)) rfl (by simp [hB.len]; rfl) (by simp [Value.oneCell']) (by simp [hB.len]) ?_; intro w hs))
  replace hs : Sat E (F * own bb (.cells (bk l []) _ (0, 0)) * own bc (.cells (splice (bk zeroL []) 0 (l.map (Value.int .i64))) _ (0, 0))) w := hs
  rw [bk_over _ _ hB.len rfl] at hs
  clear hrd
  go_loopw [9] (fun i wr => ∃ (k : Nat) (l' : List Int), 1 ≤ k ∧ (k : Int) ≤ n + 4 ∧ i = .int .i64 k ∧ Bank l' ∧ leftL l' t = max 0 (n - k + 1) ∧ Sat E (F * own bb (.cells (bk l' []) 25 (0, 0)) * own bc (.cells (bk l []) 25 (0, 0))) wr) (fun i _ => 400 - (intOf i).toNat)
  case atStart => exact ⟨1, l, by omega, by omega, rfl, hB, by omega, hs⟩
  case round =>
    clear hs
    obtain ⟨k, l', hk1, hk2, rfl, hB', hL', hs⟩ := hrel
    by_cases hlt : (k : Int) ≤ n + 3
    · by_cases ho : 0 < other
      · by_cases h1 : t = 1
        · have h1' : (t != 1) = false := by simp [h1]
          go_wp2_with fail
          have hx : ∃ l2, Bank l2 ∧ leftL l2 t = max 0 (n - k + 1) ∧ Sat E (F * own bb (.cells (bk l2 []) 25 (0, 0)) * own bc (.cells (bk l []) 25 (0, 0))) wr := ⟨l', hB', hL', hs⟩
          clear hs hB' hL' h1
          obtain ⟨l2, hB2, hL2, hs⟩ := hx
          refine (tick_spec bb l2 [] _ hB2.len hB2.all).use hs (by repeat (first | exact Cut.head _ _ | apply Cut.tail)) ?_; intro vo w hs
          rw [← star_assoc] at hs
          have r := hs.reads
          have hln : (overL l2).length ≤ 5 := by
            have h1 := overFrom_length l2 0
            have h2 := hB2.len
            unfold overL; omega
          have hh := hits_left hB2 t ht2.1 ht2.2
          go_wp2_with (first | (refine wpL_lenR _ _ rfl rfl rfl rfl r ?_))
          go_loop [10, 43] (fun ov ix => ∃ j : Nat, j ≤ (overL l2).length ∧ ix = .int .i64 j ∧ ov = .int .i64 ((hits t ((overL l2).take j) : Nat) : Int)) (fun _ ix => (overL l2).length - (intOf ix).toNat)
          case atStart => exact ⟨0, by omega, rfl, rfl⟩
          case round =>
            obtain ⟨j, hj, rfl, rfl⟩ := hrel
            by_cases hjl : j < (overL l2).length
            · have hx : ((overL l2).map (Value.int .i64))[((j : Int)).toNat * 1 + 0]? = some (.int .i64 (overL l2)[j]) := by simp [hjl]
              have hsn : hits t ((overL l2).take (j + 1)) = hits t ((overL l2).take j) + if (overL l2)[j] = t then 1 else 0 := by rw [List.take_succ_eq_append_getElem hjl, hits_snoc]
              have Hsn := Lib.hid hsn
              clear hsn
              have hle : hits t ((overL l2).take j) ≤ 5 := by
                have h1 := List.length_filter_le (fun x => decide (x = t)) ((overL l2).take j)
                have h2 : ((overL l2).take j).length ≤ j := List.length_take_le _ _
                unfold hits; omega
              generalize (overL l2)[j] = x at *
              generalize hits t ((overL l2).take j) = c at *
              by_cases hxt : x = t
              · have hxt' : (x == t) = true := by simp [hxt]
                have Hxt := Lib.hid hxt
                clear hxt hh
                go_wp2_with (first | (refine wpL_indexAddrR 1 _ _ _ rfl rfl rfl rfl rfl rfl rfl r (by omega) (by omega) ?_; intro ad had) | (refine wpL_loadR _ _ rfl rfl rfl (by simp) (had 0 _ hx) ?_))
                go_round
                case rel => exact ⟨j + 1, by omega, by go_num, by rw [Hsn.out, if_pos Hxt.out]; go_num⟩
                case measure => simp [intOf]; omega
              · have hxt' : (x == t) = false := by simp [hxt]
                clear hh
                go_wp2_with (first | (refine wpL_indexAddrR 1 _ _ _ rfl rfl rfl rfl rfl rfl rfl r (by omega) (by omega) ?_; intro ad had) | (refine wpL_loadR _ _ rfl rfl rfl (by simp) (had 0 _ hx) ?_))
                go_round
                case rel => exact ⟨j + 1, by omega, by go_num, by rw [Hsn.out, if_neg hxt]; go_num⟩
                case measure => simp [intOf]; omega
            · obtain rfl : j = (overL l2).length := by omega
              have e : hits t ((overL l2).take (overL l2).length) = if leftL l2 t = 1 then 1 else 0 := by rw [List.take_length]; exact hh
              generalize hits t ((overL l2).take (overL l2).length) = c at *
              have hTk := left_tick hB2 t ht2.1 ht2.2
              by_cases hkn : (k : Int) = n
              · obtain rfl : c = 1 := by rw [e, if_pos (by omega)]
                have hkn' : ((k : Int) == n) = true := by simp [hkn]
                have Hkn := Lib.hid hkn
                have HL2 := Lib.hid hL2
                have HTk := Lib.hid hTk
                clear hkn e hh hL2 hTk
                go_wp2
                go_roundw
                case rel =>
                  refine ⟨k + 1, tickL l2, by omega, by omega, by go_num, hB2.tick, ?_, ?_⟩
                  · rw [HTk.out, HL2.out]; unfold decT; omega
                  · exact hs.drop.eq (star_right_comm _ _ _)
                case measure => simp [intOf]; omega
              · obtain rfl : c = 0 := by rw [e, if_neg (by omega)]
                have hkn' : ((k : Int) == n) = false := by simp [hkn]
                have HL2 := Lib.hid hL2
                have HTk := Lib.hid hTk
                clear e hh hL2 hTk
                go_wp2
                go_roundw
                case rel =>
                  refine ⟨k + 1, tickL l2, by omega, by omega, by go_num, hB2.tick, ?_, ?_⟩
                  · rw [HTk.out, HL2.out]; unfold decT; omega
                  · exact hs.drop.eq (star_right_comm _ _ _)
                case measure => simp [intOf]; omega
        · have h1' : (t != 1) = true := by simp [h1]
          go_wp2_with (first | (refine wpL_mask 3 8 7 _ _ _ rfl rfl (by decide) rfl rfl rfl ?_) | (go_at_call 12; refine (start_spec bb l' [] _ 1 _ hB'.len).use hs (by repeat (first | exact Cut.head _ _ | apply Cut.tail)) ?_; intro w hs))
          have hx : ∃ l2, Bank l2 ∧ leftL l2 t = max 0 (n - k + 1) ∧ Sat E (F * own bb (.cells (bk l2 []) 25 (0, 0)) * own bc (.cells (bk l []) 25 (0, 0))) w :=
            ⟨_, hB'.start 1 _, by rw [left_start hB'.len _ _ _ (by omega) (by omega) ht2.1 ht2.2, if_neg (by omega)]; exact hL', hs.eq (star_right_comm _ _ _)⟩
          clear hs hB' hL' h1
          obtain ⟨l2, hB2, hL2, hs⟩ := hx
          refine (tick_spec bb l2 [] _ hB2.len hB2.all).use hs (by repeat (first | exact Cut.head _ _ | apply Cut.tail)) ?_; intro vo w hs
          rw [← star_assoc] at hs
          have r := hs.reads
          have hln : (overL l2).length ≤ 5 := by
            have h1 := overFrom_length l2 0
            have h2 := hB2.len
            unfold overL; omega
          have hh := hits_left hB2 t ht2.1 ht2.2
          go_wp2_with (first | (refine wpL_lenR _ _ rfl rfl rfl rfl r ?_))
          go_loop [10, 43] (fun ov ix => ∃ j : Nat, j ≤ (overL l2).length ∧ ix = .int .i64 j ∧ ov = .int .i64 ((hits t ((overL l2).take j) : Nat) : Int)) (fun _ ix => (overL l2).length - (intOf ix).toNat)
          case atStart => exact ⟨0, by omega, rfl, rfl⟩
          case round =>
            obtain ⟨j, hj, rfl, rfl⟩ := hrel
            by_cases hjl : j < (overL l2).length
            · have hx : ((overL l2).map (Value.int .i64))[((j : Int)).toNat * 1 + 0]? = some (.int .i64 (overL l2)[j]) := by simp [hjl]
              have hsn : hits t ((overL l2).take (j + 1)) = hits t ((overL l2).take j) + if (overL l2)[j] = t then 1 else 0 := by rw [List.take_succ_eq_append_getElem hjl, hits_snoc]
              have Hsn := Lib.hid hsn
              clear hsn
              have hle : hits t ((overL l2).take j) ≤ 5 := by
                have h1 := List.length_filter_le (fun x => decide (x = t)) ((overL l2).take j)
                have h2 : ((overL l2).take j).length ≤ j := List.length_take_le _ _
                unfold hits; omega
              generalize (overL l2)[j] = x at *
              generalize hits t ((overL l2).take j) = c at *
              by_cases hxt : x = t
              · have hxt' : (x == t) = true := by simp [hxt]
                have Hxt := Lib.hid hxt
                clear hxt hh
                go_wp2_with (first | (refine wpL_indexAddrR 1 _ _ _ rfl rfl rfl rfl rfl rfl rfl r (by omega) (by omega) ?_; intro ad had) | (refine wpL_loadR _ _ rfl rfl rfl (by simp) (had 0 _ hx) ?_))
                go_round
                case rel => exact ⟨j + 1, by omega, by go_num, by rw [Hsn.out, if_pos Hxt.out]; go_num⟩
                case measure => simp [intOf]; omega
              · have hxt' : (x == t) = false := by simp [hxt]
                clear hh
                go_wp2_with (first | (refine wpL_indexAddrR 1 _ _ _ rfl rfl rfl rfl rfl rfl rfl r (by omega) (by omega) ?_; intro ad had) | (refine wpL_loadR _ _ rfl rfl rfl (by simp) (had 0 _ hx) ?_))
                go_round
                case rel => exact ⟨j + 1, by omega, by go_num, by rw [Hsn.out, if_neg hxt]; go_num⟩
                case measure => simp [intOf]; omega
            · obtain rfl : j = (overL l2).length := by omega
              have e : hits t ((overL l2).take (overL l2).length) = if leftL l2 t = 1 then 1 else 0 := by rw [List.take_length]; exact hh
              generalize hits t ((overL l2).take (overL l2).length) = c at *
              have hTk := left_tick hB2 t ht2.1 ht2.2
              by_cases hkn : (k : Int) = n
              · obtain rfl : c = 1 := by rw [e, if_pos (by omega)]
                have hkn' : ((k : Int) == n) = true := by simp [hkn]
                have Hkn := Lib.hid hkn
                have HL2 := Lib.hid hL2
                have HTk := Lib.hid hTk
                clear hkn e hh hL2 hTk
                go_wp2
                go_roundw
                case rel =>
                  refine ⟨k + 1, tickL l2, by omega, by omega, by go_num, hB2.tick, ?_, ?_⟩
                  · rw [HTk.out, HL2.out]; unfold decT; omega
                  · exact hs.drop.eq (star_right_comm _ _ _)
                case measure => simp [intOf]; omega
              · obtain rfl : c = 0 := by rw [e, if_neg (by omega)]
                have hkn' : ((k : Int) == n) = false := by simp [hkn]
                have HL2 := Lib.hid hL2
                have HTk := Lib.hid hTk
                clear e hh hL2 hTk
                go_wp2
                go_roundw
                case rel =>
                  refine ⟨k + 1, tickL l2, by omega, by omega, by go_num, hB2.tick, ?_, ?_⟩
                  · rw [HTk.out, HL2.out]; unfold decT; omega
                  · exact hs.drop.eq (star_right_comm _ _ _)
                case measure => simp [intOf]; omega
      · go_wp2_with fail
        have hx : ∃ l2, Bank l2 ∧ leftL l2 t = max 0 (n - k + 1) ∧ Sat E (F * own bb (.cells (bk l2 []) 25 (0, 0)) * own bc (.cells (bk l []) 25 (0, 0))) wr := ⟨l', hB', hL', hs⟩
        clear hs hB' hL'
        obtain ⟨l2, hB2, hL2, hs⟩ := hx
        refine (tick_spec bb l2 [] _ hB2.len hB2.all).use hs (by repeat (first | exact Cut.head _ _ | apply Cut.tail)) ?_; intro vo w hs
        rw [← star_assoc] at hs
        have r := hs.reads
        have hln : (overL l2).length ≤ 5 := by
          have h1 := overFrom_length l2 0
          have h2 := hB2.len
          unfold overL; omega
        have hh := hits_left hB2 t ht2.1 ht2.2
        go_wp2_with (first | (refine wpL_lenR _ _ rfl rfl rfl rfl r ?_))
        go_loop [10, 43] (fun ov ix => ∃ j : Nat, j ≤ (overL l2).length ∧ ix = .int .i64 j ∧ ov = .int .i64 ((hits t ((overL l2).take j) : Nat) : Int)) (fun _ ix => (overL l2).length - (intOf ix).toNat)
        case atStart => exact ⟨0, by omega, rfl, rfl⟩
        case round =>
          obtain ⟨j, hj, rfl, rfl⟩ := hrel
          by_cases hjl : j < (overL l2).length
          · have hx : ((overL l2).map (Value.int .i64))[((j : Int)).toNat * 1 + 0]? = some (.int .i64 (overL l2)[j]) := by simp [hjl]
            have hsn : hits t ((overL l2).take (j + 1)) = hits t ((overL l2).take j) + if (overL l2)[j] = t then 1 else 0 := by rw [List.take_succ_eq_append_getElem hjl, hits_snoc]
            have Hsn := Lib.hid hsn
            clear hsn
            have hle : hits t ((overL l2).take j) ≤ 5 := by
              have h1 := List.length_filter_le (fun x => decide (x = t)) ((overL l2).take j)
              have h2 : ((overL l2).take j).length ≤ j := List.length_take_le _ _
              unfold hits; omega
            generalize (overL l2)[j] = x at *
            generalize hits t ((overL l2).take j) = c at *
            by_cases hxt : x = t
            · have hxt' : (x == t) = true := by simp [hxt]
              have Hxt := Lib.hid hxt
              clear hxt hh
              go_wp2_with (first | (refine wpL_indexAddrR 1 _ _ _ rfl rfl rfl rfl rfl rfl rfl r (by omega) (by omega) ?_; intro ad had) | (refine wpL_loadR _ _ rfl rfl rfl (by simp) (had 0 _ hx) ?_))
              go_round
              case rel => exact ⟨j + 1, by omega, by go_num, by rw [Hsn.out, if_pos Hxt.out]; go_num⟩
              case measure => simp [intOf]; omega
            · have hxt' : (x == t) = false := by simp [hxt]
              clear hh
              go_wp2_with (first | (refine wpL_indexAddrR 1 _ _ _ rfl rfl rfl rfl rfl rfl rfl r (by omega) (by omega) ?_; intro ad had) | (refine wpL_loadR _ _ rfl rfl rfl (by simp) (had 0 _ hx) ?_))
              go_round
              case rel => exact ⟨j + 1, by omega, by go_num, by rw [Hsn.out, if_neg hxt]; go_num⟩
              case measure => simp [intOf]; omega
          · obtain rfl : j = (overL l2).length := by omega
            have e : hits t ((overL l2).take (overL l2).length) = if leftL l2 t = 1 then 1 else 0 := by rw [List.take_length]; exact hh
            generalize hits t ((overL l2).take (overL l2).length) = c at *
            have hTk := left_tick hB2 t ht2.1 ht2.2
            by_cases hkn : (k : Int) = n
            · obtain rfl : c = 1 := by rw [e, if_pos (by omega)]
              have hkn' : ((k : Int) == n) = true := by simp [hkn]
              have Hkn := Lib.hid hkn
              have HL2 := Lib.hid hL2
              have HTk := Lib.hid hTk
              clear hkn e hh hL2 hTk
              go_wp2
              go_roundw
              case rel =>
                refine ⟨k + 1, tickL l2, by omega, by omega, by go_num, hB2.tick, ?_, ?_⟩
                · rw [HTk.out, HL2.out]; unfold decT; omega
                · exact hs.drop.eq (star_right_comm _ _ _)
              case measure => simp [intOf]; omega
            · obtain rfl : c = 0 := by rw [e, if_neg (by omega)]
              have hkn' : ((k : Int) == n) = false := by simp [hkn]
              have HL2 := Lib.hid hL2
              have HTk := Lib.hid hTk
              clear e hh hL2 hTk
              go_wp2
              go_roundw
              case rel =>
                refine ⟨k + 1, tickL l2, by omega, by omega, by go_num, hB2.tick, ?_, ?_⟩
                · rw [HTk.out, HL2.out]; unfold decT; omega
                · exact hs.drop.eq (star_right_comm _ _ _)
              case measure => simp [intOf]; omega
    · have hk : (k : Int) = n + 4 := by omega
      have hL0 : leftL l' t = 0 := by omega
      have hLe : (leftL l t == n) = true := by simp [hL]
      have hR : decide (0 < leftL l' t) = false := by simp [hL0]
      clear hL' hL hL0
      go_wp2_with (first | (go_at_call 14; refine (left_spec bc l [] _ t hB.len).use hs (Cut.head _ _) ?_; intro w hs) | (go_at_call 15; refine (runs_spec bb l' [] _ t hB'.len).use hs (by repeat (first | exact Cut.head _ _ | apply Cut.tail)) ?_; intro w hs; rw [hR]))
      go_ret
      rw [star_emp]
      exact ⟨rfl, hs.drop.drop⟩

end Go.Proofs.Ytdjepkhpkmmhpaa
