/-
  TimerPlays returns true for every list of calls, the argument left as it was; no condition.
-/
import Derived.Test.YtdjepkhpkmmhpaaRows
import Derived.Test.YtdjepkhpkmmhpaaRow
import Derived.Test.YtdjepkhpkmmhpaaTimerLaws
import Derived.Test.YtdjepkhpkmmhpaaSame
import Derived.Deep.LoopGhost
import Derived.Deep.DeepCutAuto
import Derived.Deep.CutBlock
namespace Go.Proofs.Ytdjepkhpkmmhpaa
open Go.ChangeShapes Go.WideShapes Go.ChangeAt Go.RowKit
set_option linter.unusedVariables false

/-- A call as its three cells. -/
def actCells (a : Int × Int × Int) : List Value := [.int .i64 a.1, .int .i64 a.2.1, .int .i64 a.2.2]

theorem nextFold' (l : List Int) : ∀ b : Int, 0 ≤ b → (∀ n ∈ l, 0 ≤ n) → 0 ≤ l.foldl nextStep b := by
  induction l with
  | nil => intro b hb _; exact hb
  | cons m r ih =>
    intro b hb hn
    refine ih _ ?_ (fun n h => hn n (List.mem_cons_of_mem _ h))
    have := hn m List.mem_cons_self
    unfold nextStep; split <;> omega

set_option maxRecDepth 100000 in
set_option maxHeartbeats 4000000 in
theorem timerPlays_walk (v : Value) (ac : List (Int × Int × Int)) : SpecV Try.prog 5 #[v] (emp * rsl 3 v ac.length (ac.flatMap actCells)) (.bool true) emp := by
  intro E F w hs
  rw [emp_star] at hs
  go_enter Try.func5, Try.ntmps5
  go_wp2_with fail
  refine awake8.use hs (Cut.nothing _) ?_; intro w hs
  rw [star_emp] at hs
  go_wp2_with (first | (refine wpL_alloc _ rfl rfl rfl hs ?_; intro bb w hs) | (refine wpL_make1 5 (.int .i64 0) _ _ _ rfl rfl rfl rfl rfl rfl rfl rfl (by decide) (by decide) hs ?_; intro bl w hs))
  go_loopg [4, 5] 150 (fun g v4 i wr => ∃ (k : Nat) (l : List Int) (bl : Nat), k + g = 150 ∧ i = .int .i64 k ∧ v4 = .slice (some ⟨bl, 0, none⟩) 5 5 ∧ Bank l ∧ Sat E (F * rsl 3 v ac.length (ac.flatMap actCells) * own bb (.cells (bk l []) 25 (0, 0)) * own bl (.cells (bk l []) 3 (0, 0))) wr)
  case atStart => exact ⟨0, zeroL, bl, by omega, rfl, rfl, Bank.zero, hs⟩
  case round =>
    clear hs
    obtain ⟨k, l, bl, hk, rfl, rfl, hB, hs⟩ := hrel
    obtain ⟨g0, rfl⟩ : ∃ g0, g0 = gk := ⟨_, rfl⟩
    have r := hs.drop.drop.readsS
    by_cases hlt : k < ac.length
    · by_cases h5 : k < 150
      · have hfl : ∀ (j : Nat) (u : Value), (actCells ac[k])[j]? = some u → (ac.flatMap actCells)[((k : Int)).toNat * 3 + j]? = some u := fun j u hu => by
          rw [Int.toNat_natCast]; exact flat_at actCells 3 (fun _ => rfl) ac k hlt j u hu
        generalize ac[k] = x at *
        obtain ⟨K, T, N⟩ := x
        go_upto_region 9 with ((with_reducible refine wpL_id ?_); first | (refine wpL_lenR _ _ rfl rfl rfl rfl r ?_) | (refine wpL_indexAddrR 3 _ _ _ rfl rfl rfl rfl rfl rfl rfl r (by omega) (by omega) ?_; intro ad had) | (refine wpL_loadRA 3 _ _ rfl rfl (vs := [.int .i64 K, .int .i64 T, .int .i64 N]) rfl (by simp) rfl rfl (fun j u hu => had j u (hfl j u hu)) ?_) | (refine wpL_alloc _ rfl rfl rfl hs ?_; intro ba w hs) | (refine wpL_storeA _ _ _ rfl rfl rfl rfl rfl hs (by repeat (first | exact Cut.head _ _ | apply Cut.tail)) rfl rfl rfl (by first | exact Nat.le_of_ble_eq_true rfl | (simp [Value.cells]; omega) | (simp [Value.cells, bk]; omega)) ?_; intro w hs))
        have hba : splice #[Value.int .i64 0, .int .i64 0, .int .i64 0] 0 [.int .i64 K, .int .i64 T, .int .i64 N] = #[.int .i64 K, .int .i64 T, .int .i64 N] := rfl
        replace hs : Sat E (F * rsl 3 v ac.length (ac.flatMap actCells) * own bb (.cells (bk l []) 25 (0, 0)) * own bl (.cells (bk l []) 3 (0, 0)) * own ba (.cells #[.int .i64 K, .int .i64 T, .int .i64 N] 37 (0, 0))) w := hs
        clear had hfl hba
        (try simp only [Act.put, List.setIfInBounds_toArray, List.set_cons_zero, List.set_cons_succ])
        go_cut [7] (fun v7 wx => v7 = .bool (isT T) ∧ Sat E (F * rsl 3 v ac.length (ac.flatMap actCells) * own bb (.cells (bk l []) 25 (0, 0)) * own bl (.cells (bk l []) 3 (0, 0)) * own ba (.cells #[.int .i64 K, .int .i64 T, .int .i64 N] 37 (0, 0))) wx)
        case first =>
          by_cases h0 : 0 ≤ T
          · by_cases h6 : T < 5
            · go_wp2_with ((with_reducible refine wpL_id ?_); first | (refine wpL_load _ _ rfl rfl rfl (hs.cut (by repeat (first | exact Cut.head _ _ | apply Cut.tail))).getOwn (by simp) (by rfl) ?_))
              go_meet
              exact ⟨by simp [isT, h0, h6], hs⟩
            · go_wp2_with ((with_reducible refine wpL_id ?_); first | (refine wpL_load _ _ rfl rfl rfl (hs.cut (by repeat (first | exact Cut.head _ _ | apply Cut.tail))).getOwn (by simp) (by rfl) ?_))
              go_meet
              exact ⟨by simp [isT, h6], hs⟩
          · go_wp2_with ((with_reducible refine wpL_id ?_); first | (refine wpL_load _ _ rfl rfl rfl (hs.cut (by repeat (first | exact Cut.head _ _ | apply Cut.tail))).getOwn (by simp) (by rfl) ?_))
            go_meet
            exact ⟨by simp [isT]; omega, hs⟩
        case rest =>
          clear hs
          obtain ⟨rfl, hs⟩ := hcut
          obtain ⟨bi, hbi⟩ : ∃ bi, isT T = bi := ⟨_, rfl⟩
          rw [hbi]
          have Hbi := Lib.hid hbi
          clear hbi
          go_upto_block 2 with ((with_reducible refine wpL_id ?_); first | (refine wpL_load _ _ rfl rfl rfl (hs.cut (by repeat (first | exact Cut.head _ _ | apply Cut.tail))).getOwn (by simp) (by rfl) ?_))
          (try simp only [Act.put, List.setIfInBounds_toArray, List.set_cons_zero, List.set_cons_succ])
          go_cut [4, 8, 9, 56, 66, 69, 70, 96] (fun v4 v8 v9 v56 v66 v69 v70 v96 wx => ∃ (l' : List Int) (bl' : Nat), v4 = .slice (some ⟨bl', 0, none⟩) 5 5 ∧ Bank l' ∧ Sat E (F * rsl 3 v ac.length (ac.flatMap actCells) * own bb (.cells (bk l' []) 25 (0, 0)) * own bl' (.cells (bk l' []) 3 (0, 0)) * own ba (.cells #[.int .i64 K, .int .i64 T, .int .i64 N] 37 (0, 0))) wx)
          case first =>
            have hsz := bk_size l []
            have hl5 := hB.len
            by_cases k1 : K = 1
            · subst k1
              cases bi with
              | true =>
                have hT : 0 ≤ T ∧ T < 5 := by have := Hbi.out; simpa [isT] using this
                go_wp2_with (first | ((with_reducible refine wpL_id ?_); first | (refine wpL_load _ _ rfl rfl rfl (hs.cut (by repeat (first | exact Cut.head _ _ | apply Cut.tail))).getOwn (by simp) (by rfl) ?_) | (refine wpL_store _ _ _ rfl rfl rfl rfl rfl rfl hs (by repeat (first | exact Cut.head _ _ | apply Cut.tail)) rfl rfl (by first | exact Nat.le_of_ble_eq_true rfl | (simp [Value.cells]; omega) | (simp [Value.cells, bk]; omega)) ?_; intro w hs)) | (go_at_call 17; refine (stop_spec bb l [] _ T hB.len).use hs (by repeat (first | exact Cut.head _ _ | apply Cut.tail)) ?_; intro w hs))
                go_meet
                rw [bk_splice _ _ _ _ (by omega)] at hs
                refine ⟨stopL l T, bl, rfl, hB.stop T, ?_⟩
                have e : stopL l T = l.set T.toNat 0 := by simp [stopL, Hbi.out]
                rw [e] at hs ⊢
                exact hs.eq (by ac_rfl)
              | false =>
                go_wp2_with (first | ((with_reducible refine wpL_id ?_); first | (refine wpL_load _ _ rfl rfl rfl (hs.cut (by repeat (first | exact Cut.head _ _ | apply Cut.tail))).getOwn (by simp) (by rfl) ?_) | (refine wpL_store _ _ _ rfl rfl rfl rfl rfl rfl hs (by repeat (first | exact Cut.head _ _ | apply Cut.tail)) rfl rfl (by first | exact Nat.le_of_ble_eq_true rfl | (simp [Value.cells]; omega) | (simp [Value.cells, bk]; omega)) ?_; intro w hs)) | (go_at_call 17; refine (stop_spec bb l [] _ T hB.len).use hs (by repeat (first | exact Cut.head _ _ | apply Cut.tail)) ?_; intro w hs))
                go_meet
                refine ⟨stopL l T, bl, rfl, hB.stop T, ?_⟩
                have e : stopL l T = l := by simp [stopL, Hbi.out]
                rw [e] at hs ⊢
                exact hs.eq (by ac_rfl)
            · by_cases k2 : K = 2
              · subst k2
                go_wp2_with ((with_reducible refine wpL_id ?_); first | (refine wpL_load _ _ rfl rfl rfl (hs.cut (by repeat (first | exact Cut.head _ _ | apply Cut.tail))).getOwn (by simp) (by rfl) ?_))
                go_loopg [8, 70] 5 (fun g v8 i wr => ∃ j : Nat, j + g = 5 ∧ i = .int .i64 j ∧ Sat E (F * rsl 3 v ac.length (ac.flatMap actCells) * own bb (.cells (bk l []) 25 (0, 0)) * own ba (.cells #[.int .i64 2, .int .i64 T, .int .i64 N] 37 (0, 0)) * own bl (.cells (bk ((l.take j).map decT ++ l.drop j) []) 3 (0, 0)) * osl 3 1 v8 (overL (l.take j)).length ((overL (l.take j)).map (Value.int .i64))) wr)
                case atStart => exact ⟨0, by omega, rfl, (hs.eq (by ac_rfl)).mkNil _ _⟩
                case round =>
                  clear hs
                  obtain ⟨j, hj, rfl, hs⟩ := hrel
                  by_cases hlt : j < 5
                  · have hlk : j < l.length := by omega
                    have hL : ((l.take j).map decT ++ l.drop j).length = 5 := by simp; omega
                    have hLk : ((l.take j).map decT ++ l.drop j)[j]? = some l[j] := by
                      rw [List.getElem?_append_right (by simp; omega)]
                      simp [hlk, show min j l.length = j by omega]
                    have hn := hB.all l[j] (List.getElem_mem _)
                    have hget : (bk ((l.take j).map decT ++ l.drop j) []).toList[j]? = some (.int .i64 l[j]) := by
                      rw [bk_get _ _ _ (by omega), List.getD_eq_getElem?_getD, hLk]; rfl
                    have htake : l.take (j + 1) = l.take j ++ [l[j]] := List.take_succ_eq_append_getElem hlk
                    have hover : overL (l.take (j + 1)) = overL (l.take j) ++ (if l[j] = 1 then [(j : Int)] else []) := by
                      rw [htake]; unfold overL; rw [overFrom_snoc]; simp [show min j l.length = j by omega]
                    have hdrop : l.drop j = l[j] :: l.drop (j + 1) := List.drop_eq_getElem_cons hlk
                    have hsetk : ((l.take j).map decT ++ l.drop j).set j (decT l[j]) = (l.take (j + 1)).map decT ++ l.drop (j + 1) := by
                      rw [hdrop, htake, List.map_append, List.set_append_right _ _ (by simp; omega)]
                      simp only [List.length_map, List.length_take, show min j l.length = j by omega, Nat.sub_self, List.set_cons_zero, List.map_cons, List.map_nil, List.append_assoc, List.cons_append, List.nil_append]
                    have hov : (overL (l.take j)).length ≤ 5 := by
                      have h1 := overFrom_length (l.take j) 0
                      have h2 : (l.take j).length ≤ j := List.length_take_le _ _
                      unfold overL; omega
                    generalize hLL : (l.take j).map decT ++ l.drop j = L at *
                    generalize hnn : l[j] = n at *
                    have hsz := bk_size L []
                    have Hover := Lib.hid hover
                    have Hsetk := Lib.hid hsetk
                    have hdec : decT n = max 0 (n - 1) := rfl
                    have Hdec := Lib.hid hdec
                    clear hover hsetk hdrop htake hLk hdec hLL hnn
                    by_cases h1 : n = 1
                    · subst h1
                      go_wp2_with ((with_reducible refine wpL_id ?_); first | (refine wpL_load _ _ rfl rfl rfl (hs.cut (by repeat (first | exact Cut.head _ _ | apply Cut.tail))).getOwn (by simp) hget ?_) | (refine wpL_min _ _ rfl rfl rfl rfl ?_) | (refine wpL_max _ _ rfl rfl rfl rfl ?_) | (refine wpL_buildSlice 1 _ _ _ rfl rfl rfl rfl rfl rfl rfl (by decide) rfl hs ?_; intro bn w hs) | (refine wpL_appendT 1 _ _ _ rfl rfl rfl rfl rfl rfl rfl (by decide) hs (by repeat (first | exact Cut.head _ _ | apply Cut.tail)) (by repeat (first | exact Cut.head _ _ | apply Cut.tail)) (by simp [Value.oneCell', Value.cells]) (by simp; omega) ?_; intro vn w hs) | (refine wpL_store _ _ _ rfl rfl rfl rfl rfl rfl hs (by repeat (first | exact Cut.head _ _ | apply Cut.tail)) rfl rfl (by first | exact Nat.le_of_ble_eq_true rfl | (simp [Value.cells]; omega) | (simp [Value.cells, bk]; omega)) ?_; intro w hs))
                      go_roundg (gk - 1)
                      case measure => omega
                      case rel =>
                        refine ⟨j + 1, by omega, by go_num, ?_⟩
                        have hsk := Hsetk.out
                        rw [show decT 1 = (0 : Int) by decide] at hsk
                        rw [bk_splice _ _ _ _ (by omega), hsk] at hs
                        rw [Hover.out]
                        simpa [Value.cells] using hs.eq (star_right_comm _ _ _)
                    · have h1' : (n == 1) = false := by simpa using h1
                      go_wp2_with ((with_reducible refine wpL_id ?_); first | (refine wpL_load _ _ rfl rfl rfl (hs.cut (by repeat (first | exact Cut.head _ _ | apply Cut.tail))).getOwn (by simp) hget ?_) | (refine wpL_min _ _ rfl rfl rfl rfl ?_) | (refine wpL_max _ _ rfl rfl rfl rfl ?_) | (refine wpL_store _ _ _ rfl rfl rfl rfl rfl rfl hs (by repeat (first | exact Cut.head _ _ | apply Cut.tail)) rfl rfl (by first | exact Nat.le_of_ble_eq_true rfl | (simp [Value.cells]; omega) | (simp [Value.cells, bk]; omega)) ?_; intro w hs))
                      go_roundg (gk - 1)
                      case measure => omega
                      case rel =>
                        refine ⟨j + 1, by omega, by go_num, ?_⟩
                        rw [bk_splice _ _ _ _ (by omega), ← Hdec.out, Hsetk.out] at hs
                        rw [Hover.out, if_neg h1]
                        simpa [Value.cells] using hs.eq (star_right_comm _ _ _)
                  · obtain rfl : j = 5 := by omega
                    have e : l.take 5 = l := List.take_of_length_le (by omega)
                    have e2 : l.drop 5 = [] := List.drop_eq_nil_of_le (by omega)
                    rw [e, e2, List.append_nil] at hs
                    have hov : (overL l).length ≤ 5 := by
                      have h1 := overFrom_length l 0
                      unfold overL; omega
                    clear e e2
                    go_wp2_with fail
                    refine (tick_spec bb l [] _ hB.len hB.all).use hs (by repeat (first | exact Cut.head _ _ | apply Cut.tail)) ?_; intro vo w hs
                    rw [← star_assoc] at hs
                    have r1 := hs.reads
                    have r2 := hs.drop.drop.reads
                    go_wp2_with fail
                    refine (same_any vo _ (overL l) (overL l) w r1 r2 (by omega)).mono ?_; rintro e w2 ⟨rfl, hal⟩
                    have hdt : decide (overL l = overL l) = true := by simp
                    rw [hdt]
                    replace hs := hal.sat hs
                    clear r1 r2 hal hdt
                    go_wp2_with fail
                    go_meet
                    exact ⟨tickL l, bl, rfl, hB.tick, (hs.drop.cut (Cut.tail _ (Cut.head _ _))).drop.eq (by ac_rfl)⟩
              · by_cases k3 : K = 3
                · subst k3
                  go_wp2_with (first | ((with_reducible refine wpL_id ?_); first | (refine wpL_load _ _ rfl rfl rfl (hs.cut (by repeat (first | exact Cut.head _ _ | apply Cut.tail))).getOwn (by simp) (by rfl) ?_) | (refine wpL_store _ _ _ rfl rfl rfl rfl rfl rfl hs (by repeat (first | exact Cut.head _ _ | apply Cut.tail)) rfl rfl (by first | exact Nat.le_of_ble_eq_true rfl | (simp [Value.cells]; omega) | (simp [Value.cells, bk]; omega)) ?_; intro w hs) | (refine wpL_make1 5 (.int .i64 0) _ _ _ rfl rfl rfl rfl rfl rfl rfl rfl (by decide) (by decide) hs ?_; intro bn w hs)) | (go_at_call 19; refine (clear_spec bb l _ hB.len).use hs (by repeat (first | exact Cut.head _ _ | apply Cut.tail)) ?_; intro w hs))
                  go_meet
                  refine ⟨zeroL, bn, rfl, Bank.zero, ?_⟩
                  replace hs : Sat E (F * rsl 3 v ac.length (ac.flatMap actCells) * own bl (.cells (bk l []) 3 (0, 0)) * own ba (.cells #[.int .i64 3, .int .i64 T, .int .i64 N] 37 (0, 0)) * own bb (.cells (bk zeroL []) 25 (0, 0)) * own bn (.cells (bk zeroL []) 3 (0, 0))) w := hs
                  exact (hs.cut (Cut.tail _ (Cut.tail _ (Cut.tail _ (Cut.head _ _))))).drop.eq (by ac_rfl)
                · have K1 : (K == 1) = false := by simpa using k1
                  have K2 : (K == 2) = false := by simpa using k2
                  have K3 : (K == 3) = false := by simpa using k3
                  cases bi with
                  | true =>
                    have hT : 0 ≤ T ∧ T < 5 := by have := Hbi.out; simpa [isT] using this
                    go_wp2_with (first | ((with_reducible refine wpL_id ?_); first | (refine wpL_load _ _ rfl rfl rfl (hs.cut (by repeat (first | exact Cut.head _ _ | apply Cut.tail))).getOwn (by simp) (by rfl) ?_) | (refine wpL_store _ _ _ rfl rfl rfl rfl rfl rfl hs (by repeat (first | exact Cut.head _ _ | apply Cut.tail)) rfl rfl (by first | exact Nat.le_of_ble_eq_true rfl | (simp [Value.cells]; omega) | (simp [Value.cells, bk]; omega)) ?_; intro w hs) | (refine wpL_min _ _ rfl rfl rfl rfl ?_) | (refine wpL_max _ _ rfl rfl rfl rfl ?_)) | (go_at_call 12; refine (start_spec bb l [] _ T N hB.len).use hs (by repeat (first | exact Cut.head _ _ | apply Cut.tail)) ?_; intro w hs))
                    go_meet
                    rw [bk_splice _ _ _ _ (by omega)] at hs
                    refine ⟨startL l T N, bl, rfl, hB.start T N, ?_⟩
                    have e : startL l T N = l.set T.toNat (max 1 (min N 1048576)) := by simp [startL, Hbi.out, clampT]
                    rw [e] at hs ⊢
                    exact hs.eq (by ac_rfl)
                  | false =>
                    go_wp2_with (first | ((with_reducible refine wpL_id ?_); first | (refine wpL_load _ _ rfl rfl rfl (hs.cut (by repeat (first | exact Cut.head _ _ | apply Cut.tail))).getOwn (by simp) (by rfl) ?_) | (refine wpL_store _ _ _ rfl rfl rfl rfl rfl rfl hs (by repeat (first | exact Cut.head _ _ | apply Cut.tail)) rfl rfl (by first | exact Nat.le_of_ble_eq_true rfl | (simp [Value.cells]; omega) | (simp [Value.cells, bk]; omega)) ?_; intro w hs)) | (go_at_call 12; refine (start_spec bb l [] _ T N hB.len).use hs (by repeat (first | exact Cut.head _ _ | apply Cut.tail)) ?_; intro w hs))
                    go_meet
                    refine ⟨startL l T N, bl, rfl, hB.start T N, ?_⟩
                    have e : startL l T N = l := by simp [startL, Hbi.out]
                    rw [e] at hs ⊢
                    exact hs.eq (by ac_rfl)
          case rest =>
            clear hs hB
            obtain ⟨l', bl', rfl, hB', hs⟩ := hcut
            have hl5 := hB'.len
            go_wp2_with fail
            go_loopg [10, 102] 5 (fun g nx i wr => ∃ j : Nat, j + g = 5 ∧ i = .int .i64 j ∧ nx = .int .i64 ((l'.take j).foldl nextStep 0) ∧ Sat E (F * rsl 3 v ac.length (ac.flatMap actCells) * own ba (.cells #[.int .i64 K, .int .i64 T, .int .i64 N] 37 (0, 0)) * own bl' (.cells (bk l' []) 3 (0, 0)) * own bb (.cells (bk l' []) 25 (0, 0))) wr)
            case atStart => exact ⟨0, by omega, rfl, rfl, hs.eq (by ac_rfl)⟩
            case round =>
              clear hs
              obtain ⟨j, hj, rfl, rfl, hs⟩ := hrel
              by_cases hlt : j < 5
              · have hlk : j < l'.length := by omega
                have hn := hB'.all l'[j] (List.getElem_mem _)
                have hget : (bk l' []).toList[j]? = some (.int .i64 l'[j]) := by
                  rw [bk_get _ _ _ (by omega)]; simp [hlk]
                have hLj : leftL l' (j : Int) = l'[j] := by
                  have : isT (j : Int) = true := by simp [isT]; omega
                  simp [leftL, this, hlk]
                have hfin : (l'.take (j + 1)).foldl nextStep 0 = nextStep ((l'.take j).foldl nextStep 0) l'[j] := by
                  rw [List.take_succ_eq_append_getElem hlk, List.foldl_append]; rfl
                have Hfin := Lib.hid hfin
                have hb0 : 0 ≤ (l'.take j).foldl nextStep 0 := (nextFold' (l'.take j) 0 (by omega) (fun n h => (hB'.all n (List.mem_of_mem_take h)).1))
                clear hfin
                generalize l'[j] = n at *
                generalize (l'.take j).foldl nextStep 0 = nb at *
                by_cases NS : 0 < n
                · by_cases h2 : nb = 0
                  · subst h2
                    go_wp2_with (first | ((with_reducible refine wpL_id ?_); first | (refine wpL_load _ _ rfl rfl rfl (hs.cut (by repeat (first | exact Cut.head _ _ | apply Cut.tail))).getOwn (by simp) hget ?_)) | (go_at_call 14; refine (left_spec bb l' [] _ _ hB'.len).use hs (by repeat (first | exact Cut.head _ _ | apply Cut.tail)) ?_; intro w hs; rw [hLj]) | (go_at_call 15; refine (runs_spec bb l' [] _ _ hB'.len).use hs (by repeat (first | exact Cut.head _ _ | apply Cut.tail)) ?_; intro w hs; rw [hLj]))
                    go_roundg (gk - 1)
                    case measure => omega
                    case rel => exact ⟨j + 1, by omega, by go_num, by rw [Hfin.out]; simp [nextStep, NS], hs.eq (by ac_rfl)⟩
                  · have h2' : (nb == 0) = false := by simpa using h2
                    by_cases h3 : n < nb
                    · go_wp2_with (first | ((with_reducible refine wpL_id ?_); first | (refine wpL_load _ _ rfl rfl rfl (hs.cut (by repeat (first | exact Cut.head _ _ | apply Cut.tail))).getOwn (by simp) hget ?_)) | (go_at_call 14; refine (left_spec bb l' [] _ _ hB'.len).use hs (by repeat (first | exact Cut.head _ _ | apply Cut.tail)) ?_; intro w hs; rw [hLj]) | (go_at_call 15; refine (runs_spec bb l' [] _ _ hB'.len).use hs (by repeat (first | exact Cut.head _ _ | apply Cut.tail)) ?_; intro w hs; rw [hLj]))
                      go_roundg (gk - 1)
                      case measure => omega
                      case rel => exact ⟨j + 1, by omega, by go_num, by rw [Hfin.out]; simp [nextStep, NS, h3], hs.eq (by ac_rfl)⟩
                    · go_wp2_with (first | ((with_reducible refine wpL_id ?_); first | (refine wpL_load _ _ rfl rfl rfl (hs.cut (by repeat (first | exact Cut.head _ _ | apply Cut.tail))).getOwn (by simp) hget ?_)) | (go_at_call 14; refine (left_spec bb l' [] _ _ hB'.len).use hs (by repeat (first | exact Cut.head _ _ | apply Cut.tail)) ?_; intro w hs; rw [hLj]) | (go_at_call 15; refine (runs_spec bb l' [] _ _ hB'.len).use hs (by repeat (first | exact Cut.head _ _ | apply Cut.tail)) ?_; intro w hs; rw [hLj]))
                      go_roundg (gk - 1)
                      case measure => omega
                      case rel => exact ⟨j + 1, by omega, by go_num, by rw [Hfin.out]; unfold nextStep; rw [if_neg (by omega)], hs.eq (by ac_rfl)⟩
                · go_wp2_with (first | ((with_reducible refine wpL_id ?_); first | (refine wpL_load _ _ rfl rfl rfl (hs.cut (by repeat (first | exact Cut.head _ _ | apply Cut.tail))).getOwn (by simp) hget ?_)) | (go_at_call 14; refine (left_spec bb l' [] _ _ hB'.len).use hs (by repeat (first | exact Cut.head _ _ | apply Cut.tail)) ?_; intro w hs; rw [hLj]) | (go_at_call 15; refine (runs_spec bb l' [] _ _ hB'.len).use hs (by repeat (first | exact Cut.head _ _ | apply Cut.tail)) ?_; intro w hs; rw [hLj]))
                  go_roundg (gk - 1)
                  case measure => omega
                  case rel => exact ⟨j + 1, by omega, by go_num, by rw [Hfin.out]; unfold nextStep; rw [if_neg (by omega)], hs.eq (by ac_rfl)⟩
              · obtain rfl : j = 5 := by omega
                have e : l'.take 5 = l' := List.take_of_length_le (by omega)
                rw [e]
                replace e : l'.foldl nextStep 0 = nextL l' := rfl
                rw [e]
                have hn0 := nextFold' l' 0 (by omega) (fun n h => (hB'.all n h).1)
                rw [e] at hn0
                clear e
                cases bi with
                | true =>
                  go_wp2_with (first | (go_at_call 16; refine (next_spec bb l' [] _ hB'.len).use hs (by repeat (first | exact Cut.head _ _ | apply Cut.tail)) ?_; intro w hs))
                  go_roundg (g0 - 1)
                  case measure => omega
                  case rel => exact ⟨k + 1, l', bl', by omega, by go_num, rfl, hB', (hs.eq (by ac_rfl : _ = F * rsl 3 v ac.length (ac.flatMap actCells) * own bb (.cells (bk l' []) 25 (0, 0)) * own bl' (.cells (bk l' []) 3 (0, 0)) * own ba (.cells #[.int .i64 K, .int .i64 T, .int .i64 N] 37 (0, 0)))).drop⟩
                | false =>
                  have hLj : leftL l' T = 0 := by simp [leftL, Hbi.out]
                  go_wp2_with (first | ((with_reducible refine wpL_id ?_); first | (refine wpL_load _ _ rfl rfl rfl (hs.cut (by repeat (first | exact Cut.head _ _ | apply Cut.tail))).getOwn (by simp) (by rfl) ?_)) | (go_at_call 16; refine (next_spec bb l' [] _ hB'.len).use hs (by repeat (first | exact Cut.head _ _ | apply Cut.tail)) ?_; intro w hs) | (go_at_call 14; refine (left_spec bb l' [] _ _ hB'.len).use hs (by repeat (first | exact Cut.head _ _ | apply Cut.tail)) ?_; intro w hs; rw [hLj]) | (go_at_call 15; refine (runs_spec bb l' [] _ _ hB'.len).use hs (by repeat (first | exact Cut.head _ _ | apply Cut.tail)) ?_; intro w hs; rw [hLj]))
                  go_roundg (g0 - 1)
                  case measure => omega
                  case rel => exact ⟨k + 1, l', bl', by omega, by go_num, rfl, hB', (hs.eq (by ac_rfl : _ = F * rsl 3 v ac.length (ac.flatMap actCells) * own bb (.cells (bk l' []) 25 (0, 0)) * own bl' (.cells (bk l' []) 3 (0, 0)) * own ba (.cells #[.int .i64 K, .int .i64 T, .int .i64 N] 37 (0, 0)))).drop⟩
      · have h5' : decide ((k : Int) < 150) = false := by simp; omega
        go_wp2_with ((with_reducible refine wpL_id ?_); first | (refine wpL_lenR _ _ rfl rfl rfl rfl r ?_))
        go_ret
        rw [star_emp]
        exact ⟨rfl, hs.drop.drop.drop⟩
    · have hlt' : decide (k < ac.length) = false := by simp; omega
      go_wp2_with ((with_reducible refine wpL_id ?_); first | (refine wpL_lenR _ _ rfl rfl rfl rfl r ?_))
      go_ret
      rw [star_emp]
      exact ⟨rfl, hs.drop.drop.drop⟩

end Go.Proofs.Ytdjepkhpkmmhpaa
