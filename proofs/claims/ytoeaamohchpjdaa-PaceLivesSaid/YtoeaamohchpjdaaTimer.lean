/-
  The timers' calls, by their contracts.
-/
import Derived.Test.YtoeaamohchpjdaaSlice
import Derived.Test.YtoeaamohchpjdaaProg
import Derived.RegionTactic
import Derived.LoopTactic
import Derived.Lib.Hide
namespace Go.Proofs.Ytoeaamohchpjdaa
open Go Go.RowKit
set_option linter.unusedVariables false
set_option maxRecDepth 100000

def isT (t : Int) : Bool := decide (0 ≤ t) && decide (t < 5)

theorem is_any (t : Int) (w : World) : Calls Try.prog 47 #[.int .i64 t] w fun e w' => e = .returned (.bool (isT t)) ∧ w = w' := by
  unfold isT
  by_cases h0 : 0 ≤ t
  · by_cases h5 : t < 5
    · go_enter Try.func47, Try.ntmps47
      go_wp2
      go_ret
      simp [h0, h5]
    · go_enter Try.func47, Try.ntmps47
      go_wp2
      go_ret
      simp [h5]
  · go_enter Try.func47, Try.ntmps47
    go_wp2
    go_ret
    simp; omega

/-- The block in which five timers stand first. -/
def bk (l : List Int) (X : List Value) : Array Value := (l.map (Value.int .i64) ++ X).toArray
theorem bk_size (l : List Int) (X : List Value) : (bk l X).size = l.length + X.length := by simp [bk]
theorem bk_get (l : List Int) (X : List Value) (i : Nat) (h : i < l.length) : (bk l X).toList[i]? = some (.int .i64 (l.getD i 0)) := by
  simp [bk, List.getElem?_append, h]
theorem bk_splice (l : List Int) (X : List Value) (i : Nat) (n : Int) (h : i < l.length) : splice (bk l X) i [.int .i64 n] = bk (l.set i n) X := by
  apply Array.ext_getElem?
  intro j
  simp only [splice, bk, List.getElem?_toArray, List.length_singleton]
  simp only [List.getElem?_append, List.length_append, List.length_take, List.length_map, List.length_singleton, List.length_set, List.getElem?_take, List.getElem?_drop, List.getElem?_map, List.getElem?_set]
  have hm : min i (l.length + X.length) = i := by omega
  rw [hm]
  by_cases h1 : j < i
  · simp [h1, show j < i + 1 by omega, show j < l.length by omega, show ¬ i = j by omega]
  · by_cases h2 : j = i
    · subst h2; simp [h]
    · have h3 : ¬ j < i + 1 := by omega
      have h4 : ¬ i = j := by omega
      have h5 : i + 1 + (j - (i + 1)) = j := by omega
      simp [h3, h4, h5]
theorem bk_set (l : List Int) (X : List Value) (i : Nat) (n : Int) (h : i < l.length) : (bk l X).setIfInBounds i (.int .i64 n) = bk (l.set i n) X := by
  simp [bk, h, List.map_set]

def clampT (n : Int) : Int := max 1 (min n 1048576)
def startL (l : List Int) (t n : Int) : List Int := if isT t then l.set t.toNat (clampT n) else l
def stopL (l : List Int) (t : Int) : List Int := if isT t then l.set t.toNat 0 else l
def leftL (l : List Int) (t : Int) : Int := if isT t then l.getD t.toNat 0 else 0

theorem start_spec (b : Nat) (l : List Int) (X : List Value) (T : TypeId) (t n : Int) (hl : l.length = 5) :
    SpecV Try.prog 44 #[.pointer (some ⟨b, 0, none⟩), .int .i64 t, .int .i64 n] (own b (.cells (bk l X) T (0, 0)))
      (.tuple #[]) (own b (.cells (bk (startL l t n) X) T (0, 0))) := by
  intro E F w hs
  have hsz := bk_size l X
  by_cases ht : isT t
  · have h0 : 0 ≤ t := by simp [isT] at ht; omega
    have h5 : t < 5 := by simp [isT] at ht; omega
    go_enter Try.func44, Try.ntmps44
    go_wp2_with (first | (go_at_call 47; refine (is_any _ _).mono ?_; rintro e w' ⟨rfl, rfl⟩; rw [ht]) | (refine wpL_min _ _ rfl rfl rfl rfl ?_) | (refine wpL_max _ _ rfl rfl rfl rfl ?_) | (refine wpL_max3 _ _ _ rfl rfl rfl rfl rfl ?_) | (refine wpL_store _ _ _ rfl rfl rfl rfl rfl rfl hs (by repeat (first | exact Cut.head _ _ | apply Cut.tail)) rfl rfl (by first | exact Nat.le_of_ble_eq_true rfl | (simp [Value.cells]; omega) | (simp [Value.cells, bk]; omega)) ?_; intro w hs))
    go_end0
    refine ⟨rfl, ?_⟩
    rw [bk_splice _ _ _ _ (by omega)] at hs
    simpa [startL, ht, clampT] using hs
  · have ht' : isT t = false := by simpa using ht
    go_enter Try.func44, Try.ntmps44
    go_wp2_with (first | (go_at_call 47; refine (is_any _ _).mono ?_; rintro e w' ⟨rfl, rfl⟩; rw [ht']))
    go_end0
    refine ⟨rfl, ?_⟩
    simpa [startL, ht'] using hs

theorem stop_spec (b : Nat) (l : List Int) (X : List Value) (T : TypeId) (t : Int) (hl : l.length = 5) :
    SpecV Try.prog 80 #[.pointer (some ⟨b, 0, none⟩), .int .i64 t] (own b (.cells (bk l X) T (0, 0)))
      (.tuple #[]) (own b (.cells (bk (stopL l t) X) T (0, 0))) := by
  intro E F w hs
  have hsz := bk_size l X
  by_cases ht : isT t
  · have h0 : 0 ≤ t := by simp [isT] at ht; omega
    have h5 : t < 5 := by simp [isT] at ht; omega
    go_enter Try.func80, Try.ntmps80
    go_wp2_with (first | (go_at_call 47; refine (is_any _ _).mono ?_; rintro e w' ⟨rfl, rfl⟩; rw [ht]) | (refine wpL_store _ _ _ rfl rfl rfl rfl rfl rfl hs (by repeat (first | exact Cut.head _ _ | apply Cut.tail)) rfl rfl (by first | exact Nat.le_of_ble_eq_true rfl | (simp [Value.cells]; omega) | (simp [Value.cells, bk]; omega)) ?_; intro w hs))
    go_end0
    refine ⟨rfl, ?_⟩
    rw [bk_splice _ _ _ _ (by omega)] at hs
    simpa [stopL, ht] using hs
  · have ht' : isT t = false := by simpa using ht
    go_enter Try.func80, Try.ntmps80
    go_wp2_with (first | (go_at_call 47; refine (is_any _ _).mono ?_; rintro e w' ⟨rfl, rfl⟩; rw [ht']))
    go_end0
    refine ⟨rfl, ?_⟩
    simpa [stopL, ht'] using hs

theorem left_spec (b : Nat) (l : List Int) (X : List Value) (T : TypeId) (t : Int) (hl : l.length = 5) :
    SpecV Try.prog 21 #[.pointer (some ⟨b, 0, none⟩), .int .i64 t] (own b (.cells (bk l X) T (0, 0)))
      (.int .i64 (leftL l t)) (own b (.cells (bk l X) T (0, 0))) := by
  intro E F w hs
  by_cases ht : isT t
  · have h0 : 0 ≤ t := by simp [isT] at ht; omega
    have h5 : t < 5 := by simp [isT] at ht; omega
    go_enter Try.func21, Try.ntmps21
    go_wp2_with (first | (go_at_call 47; refine (is_any _ _).mono ?_; rintro e w' ⟨rfl, rfl⟩; rw [ht]) | (refine wpL_load _ _ rfl rfl rfl (hs.cut (by repeat (first | exact Cut.head _ _ | apply Cut.tail))).getOwn (by simp) (bk_get _ _ _ (by omega)) ?_))
    go_ret
    exact ⟨by simp [leftL, ht, show t.toNat < l.length by omega], hs⟩
  · have ht' : isT t = false := by simpa using ht
    go_enter Try.func21, Try.ntmps21
    go_wp2_with (first | (go_at_call 47; refine (is_any _ _).mono ?_; rintro e w' ⟨rfl, rfl⟩; rw [ht']))
    go_ret
    exact ⟨by simp [leftL, ht'], hs⟩

theorem runs_spec (b : Nat) (l : List Int) (X : List Value) (T : TypeId) (t : Int) (hl : l.length = 5) :
    SpecV Try.prog 17 #[.pointer (some ⟨b, 0, none⟩), .int .i64 t] (own b (.cells (bk l X) T (0, 0)))
      (.bool (decide (0 < leftL l t))) (own b (.cells (bk l X) T (0, 0))) := by
  intro E F w hs
  go_enter Try.func17, Try.ntmps17
  go_wp2_with (first | (go_at_call 21; refine (left_spec b l X T t hl).use hs (by repeat (first | exact Cut.head _ _ | apply Cut.tail)) ?_; intro w hs))
  go_ret
  exact ⟨rfl, hs⟩

def zeroL : List Int := [0, 0, 0, 0, 0]
def decT (n : Int) : Int := max 0 (n - 1)
def tickL (l : List Int) : List Int := l.map decT
/-- Those that are over: from place k on. -/
def overFrom : Nat → List Int → List Int
  | _, [] => []
  | k, n :: r => (if n = 1 then [(k : Int)] else []) ++ overFrom (k + 1) r
def overL (l : List Int) : List Int := overFrom 0 l
theorem overFrom_snoc (n : Int) : ∀ (l : List Int) (k : Nat), overFrom k (l ++ [n]) = overFrom k l ++ (if n = 1 then [((k + l.length : Nat) : Int)] else [])
  | [], k => by simp [overFrom]
  | m :: r, k => by
    have ih := overFrom_snoc n r (k + 1)
    simp only [List.cons_append, overFrom, ih, List.append_assoc, List.length_cons]
    rw [show k + 1 + r.length = k + (r.length + 1) by omega]
theorem overFrom_length : ∀ (l : List Int) (k : Nat), (overFrom k l).length ≤ l.length
  | [], _ => by simp [overFrom]
  | m :: r, k => by
    have ih := overFrom_length r (k + 1)
    simp only [overFrom, List.length_append, List.length_cons]
    split <;> simp <;> omega

theorem tick_spec (b : Nat) (l : List Int) (X : List Value) (T : TypeId) (hl : l.length = 5) (h0 : ∀ n ∈ l, 0 ≤ n ∧ n ≤ 1048576) :
    Spec Try.prog 16 #[.pointer (some ⟨b, 0, none⟩)] (own b (.cells (bk l X) T (0, 0)))
      (fun v => own b (.cells (bk (tickL l) X) T (0, 0)) * osl 3 1 v (overL l).length ((overL l).map (Value.int .i64))) := by
  intro E F w hs
  go_enter Try.func16, Try.ntmps16
  go_wp2
  go_loopw [3, 5] (fun v i wr => ∃ k : Nat, k ≤ 5 ∧ i = .int .i64 k ∧ Sat E (F * own b (.cells (bk ((l.take k).map decT ++ l.drop k) X) T (0, 0)) * osl 3 1 v (overL (l.take k)).length ((overL (l.take k)).map (Value.int .i64))) wr) (fun _ i _ => 5 - (intOf i).toNat)
  case atStart =>
    refine ⟨0, by omega, rfl, ?_⟩
    exact hs.mkNil _ _
  case round =>
    obtain ⟨k, hk, rfl, hs⟩ := hrel
    by_cases hlt : k < 5
    · have hlk : k < l.length := by omega
      have hL : ((l.take k).map decT ++ l.drop k).length = 5 := by simp; omega
      have hLk : ((l.take k).map decT ++ l.drop k)[k]? = some l[k] := by
        rw [List.getElem?_append_right (by simp; omega)]
        simp [hlk, show min k l.length = k by omega]
      have hn := h0 l[k] (List.getElem_mem _)
      have hget : (bk ((l.take k).map decT ++ l.drop k) X).toList[k]? = some (.int .i64 l[k]) := by
        rw [bk_get _ _ _ (by omega), List.getD_eq_getElem?_getD, hLk]; rfl
      have hset : ((l.take k).map decT ++ l.drop k).set k (l[k] - 1) = (l.take (k + 1)).map decT ++ l.drop (k + 1) → True := fun _ => trivial
      have htake : l.take (k + 1) = l.take k ++ [l[k]] := List.take_succ_eq_append_getElem hlk
      have hover : overL (l.take (k + 1)) = overL (l.take k) ++ (if l[k] = 1 then [(k : Int)] else []) := by
        rw [htake]; unfold overL; rw [overFrom_snoc]; simp [show min k l.length = k by omega]
      have hdrop : l.drop k = l[k] :: l.drop (k + 1) := List.drop_eq_getElem_cons hlk
      have hsetk : ((l.take k).map decT ++ l.drop k).set k (decT l[k]) = (l.take (k + 1)).map decT ++ l.drop (k + 1) := by
        rw [hdrop, htake, List.map_append, List.set_append_right _ _ (by simp; omega)]
        simp only [List.length_map, List.length_take, show min k l.length = k by omega, Nat.sub_self, List.set_cons_zero, List.map_cons, List.map_nil, List.append_assoc, List.cons_append, List.nil_append]
      generalize hLL : (l.take k).map decT ++ l.drop k = L at *
      generalize hnn : l[k] = n at *
      by_cases hz : n = 0
      · subst hz
        go_wp2_with (first | (refine wpL_load _ _ rfl rfl rfl (hs.cut (by repeat (first | exact Cut.head _ _ | apply Cut.tail))).getOwn (by simp) hget ?_))
        go_roundw
        case rel =>
          refine ⟨k + 1, by omega, by go_num, ?_⟩
          rw [hover]
          have e1 : decT 0 = 0 := by decide
          rw [e1] at hsetk
          have e2 : L.set k 0 = L := by
            apply List.ext_getElem?
            intro j
            rw [List.getElem?_set]
            split
            · rename_i e; subst e; simp [hLk]; omega
            · rfl
          rw [e2] at hsetk
          rw [← hsetk]
          simpa using hs
        case measure => simp [intOf]; omega
      · have hz' : (n == 0) = false := by simpa using hz
        have hdec : decT n = n - 1 := by unfold decT; omega
        rw [hdec] at hsetk
        have hblk := (hs.cut (Cut.tail _ (Cut.head _ _))).getOwn
        have hc : wr.cell? ⟨b, k, none⟩ = some (.int .i64 n) := by rw [cell_of_row wr b k _ _ _ hblk]; simpa using hget
        have hf := frozen_of_row wr b k _ _ hblk
        have hs2 := (Sat.setCell (off := k) (v := .int .i64 (n - 1)) (hs.cut (Cut.tail _ (Cut.head _ _)))).drew
        rw [bk_set _ _ _ _ (by omega), hsetk] at hs2
        have hget2 : (bk ((l.take (k + 1)).map decT ++ l.drop (k + 1)) X).toList[k]? = some (.int .i64 (n - 1)) := by
          rw [← hsetk, bk_get _ _ _ (by simp; omega), List.getD_eq_getElem?_getD, List.getElem?_set_self (by omega)]; rfl
        have Hover := Lib.hid hover
        clear hLL hover hsetk hdrop htake hLk hL hset hblk hget hdec
        go_wp2
        go_region
        generalize (wr.setCell ⟨b, k, none⟩ (.int .i64 (n - 1))).drew = w2 at hs2 ⊢
        clear hs hc hf
        rename Sat E _ w2 => hs
        have hov : (overL (l.take k)).length ≤ 5 := by
          have h1 := overFrom_length (l.take k) 0
          have h2 : (l.take k).length ≤ k := List.length_take_le _ _
          unfold overL; omega
        by_cases h1 : n = 1
        · subst h1
          go_wp2_with (first | (refine wpL_load _ _ rfl rfl rfl (hs.cut (by repeat (first | exact Cut.head _ _ | apply Cut.tail))).getOwn (by simp) hget2 ?_) | (refine wpL_buildSlice 1 _ _ _ rfl rfl rfl rfl rfl rfl rfl (by decide) rfl hs ?_; intro bn w hs) | (refine wpL_appendT 1 _ _ _ rfl rfl rfl rfl rfl rfl rfl (by decide) hs (by repeat (first | exact Cut.head _ _ | apply Cut.tail)) (by repeat (first | exact Cut.head _ _ | apply Cut.tail)) (by simp [Value.oneCell', Value.cells]) (by simp; omega) ?_; intro vn w hs))
          go_roundw
          case rel =>
            refine ⟨k + 1, by omega, by go_num, ?_⟩
            rw [Hover.out]
            simpa [Value.cells] using hs
          case measure => simp [intOf]; omega
        · have h1' : (n - 1 == 0) = false := by simp; omega
          go_wp2_with (first | (refine wpL_load _ _ rfl rfl rfl (hs.cut (by repeat (first | exact Cut.head _ _ | apply Cut.tail))).getOwn (by simp) hget2 ?_))
          go_roundw
          case rel =>
            refine ⟨k + 1, by omega, by go_num, ?_⟩
            rw [Hover.out, if_neg h1]
            simpa using hs.eq (star_right_comm _ _ _)
          case measure => simp [intOf]; omega
    · obtain rfl : k = 5 := by omega
      go_wp2
      go_ret
      have e : l.take 5 = l := List.take_of_length_le (by omega)
      have e2 : l.drop 5 = [] := List.drop_eq_nil_of_le (by omega)
      rw [e, e2, List.append_nil, star_assoc] at hs
      exact ⟨_, rfl, hs⟩

end Go.Proofs.Ytoeaamohchpjdaa
