/-
  Pace: contracts of its calls.
-/
import Derived.Test.YtoeaamohchpjdaaBank
import Derived.StillTailTactics
import Derived.Deep.DeepCutAuto
import Derived.Deep.CutBlock
namespace Go.Proofs.Ytoeaamohchpjdaa
open Go Go.RowKit
set_option linter.unusedVariables false
set_option linter.unusedSimpArgs false
set_option maxRecDepth 100000

def stopsL (l ts : List Int) : List Int := ts.foldl stopL l
/-- A pace: what is left, and the ticks. -/
def pk (l T : List Int) : Array Value := bk l (T.map (Value.int .i64))
theorem pk_get (l T : List Int) (hl : l.length = 5) (hT : T.length = 5) (off : Nat) (h5 : 5 ≤ off) (h10 : off < 10) : (pk l T).toList[off]? = some (.int .i64 (T.getD (off - 5) 0)) := by
  have h1 : off - 5 < T.length := by omega
  unfold pk bk
  rw [List.toList_toArray, List.getElem?_append_right (by simp; omega)]
  simp [hl, h1]
theorem pk_cell {E : World} {R : HP} {b : Nat} {l T : List Int} {TT : TypeId} {w : World} (hs : Sat E (R * own b (.cells (pk l T) TT (0, 0))) w) (hl : l.length = 5) (hT : T.length = 5) (off : Nat) (h5 : 5 ≤ off) (h10 : off < 10) :
    w.cell? ⟨b, off, none⟩ = some (.int .i64 (T.getD (off - 5) 0)) := by
  have := pk_get l T hl hT off h5 h10
  simpa [World.cell?, hs.getOwn] using this

theorem stops_spec (b : Nat) (l : List Int) (X : List Value) (T : TypeId) (v : Value) (ts : List Int) (hl : l.length = 5) (hlen : ts.length ≤ 1000) :
    SpecV Try.prog 46 #[.pointer (some ⟨b, 0, none⟩), v] (own b (.cells (bk l X) T (0, 0)) * rsl 1 v ts.length (ts.map (Value.int .i64)))
      (.tuple #[]) (own b (.cells (bk (stopsL l ts) X) T (0, 0))) := by
  intro E F w hs
  rw [← star_assoc] at hs
  have r := hs.readsS
  go_enter Try.func46, Try.ntmps46
  go_wp2_with (first | (refine wpL_lenR _ _ rfl rfl rfl rfl r ?_))
  go_loopw [5, 8] (fun _ i wr => ∃ j : Nat, j ≤ ts.length ∧ i = .int .i64 j ∧ (stopsL l (ts.take j)).length = 5 ∧ Sat E (F * own b (.cells (bk (stopsL l (ts.take j)) X) T (0, 0)) * rsl 1 v ts.length (ts.map (Value.int .i64))) wr) (fun _ i _ => ts.length - (intOf i).toNat)
  case atStart => exact ⟨0, by omega, rfl, hl, hs⟩
  case round =>
    clear hs
    obtain ⟨j, hj, rfl, hl', hs⟩ := hrel
    have r := hs.readsS
    by_cases hlt : j < ts.length
    · have hz : (ts.map (Value.int .i64))[((j : Int)).toNat * 1 + 0]? = some (.int .i64 ts[j]) := by simp [hlt]
      have hsn : stopsL l (ts.take (j + 1)) = stopL (stopsL l (ts.take j)) ts[j] := by
        rw [List.take_succ_eq_append_getElem hlt, stopsL, List.foldl_append]; rfl
      have Hsn := Lib.hid hsn
      clear hsn
      generalize ts[j] = t at *
      generalize stopsL l (ts.take j) = l1 at *
      go_wp2_with (first | (refine wpL_indexAddrR 1 _ _ _ rfl rfl rfl rfl rfl rfl rfl r (by omega) (by omega) ?_; intro ad had) | (refine wpL_loadR _ _ rfl rfl rfl (by simp) (had 0 _ hz) ?_) | (go_at_call 80; refine (stop_spec b l1 X T t hl').use hs (by repeat (first | exact Cut.head _ _ | apply Cut.tail)) ?_; intro w hs))
      go_roundw
      case rel => exact ⟨j + 1, by omega, by go_num, by rw [Hsn.out]; simpa [stopL] using (by split <;> simp [hl']), by rw [Hsn.out]; exact hs.eq (by ac_rfl)⟩
      case measure => simp [intOf]; omega
    · have hlt' : decide (j < ts.length) = false := by simp; omega
      obtain rfl : j = ts.length := by omega
      rw [List.take_length] at hs
      go_wp2_with (first | (refine wpL_lenR _ _ rfl rfl rfl rfl r ?_))
      go_end0
      exact ⟨rfl, hs.drop⟩

/-- The watch: Silent, if it does not run. -/
def watchL (l T : List Int) : List Int := if 0 < leftL l 3 then l else startL l 3 (T.getD 3 0)
theorem watch_spec (b : Nat) (l T : List Int) (hl : l.length = 5) (hT : T.length = 5) :
    SpecV Try.prog 45 #[.pointer (some ⟨b, 0, none⟩)] (own b (.cells (pk l T) 37 (0, 0)))
      (.tuple #[]) (own b (.cells (pk (watchL l T) T) 37 (0, 0))) := by
  intro E F w hs
  go_enter Try.func45, Try.ntmps45
  by_cases h : 0 < leftL l 3
  · have h' : decide (0 < leftL l 3) = true := by simp [h]
    have Hw := Lib.hid (show watchL l T = l by unfold watchL; rw [if_pos h])
    clear h
    go_wp2_with (first | (go_at_call 17; refine (runs_spec b l _ _ 3 hl).use hs (by repeat (first | exact Cut.head _ _ | apply Cut.tail)) ?_; intro w hs; rw [h']))
    go_end0
    exact ⟨rfl, by rw [Hw.out]; exact hs⟩
  · have h' : decide (0 < leftL l 3) = false := by simpa using h
    have Hw := Lib.hid (show watchL l T = startL l 3 (T.getD 3 0) by unfold watchL; rw [if_neg h])
    clear h
    go_upto_region 1 with (first | (go_at_call 17; refine (runs_spec b l _ _ 3 hl).use hs (by repeat (first | exact Cut.head _ _ | apply Cut.tail)) ?_; intro w hs; rw [h']))
    obtain ⟨n, hn⟩ : ∃ n, T.getD 3 0 = n := ⟨_, rfl⟩
    have Hn := Lib.hid hn
    clear hn
    have hc := pk_cell hs hl hT 8 (by decide) (by decide)
    rw [show T.getD (8 - 5) 0 = n from Hn.out] at hc
    go_still_tail 8, (by kernel_rfl)
    change wpList _ _ _ _ _ w.drew
    replace hs := hs.drew
    clear hc
    generalize w.drew = w at *
    go_wp2_with (first | (go_at_call 44; refine (start_spec b l _ _ 3 n hl).use hs (by repeat (first | exact Cut.head _ _ | apply Cut.tail)) ?_; intro w hs))
    go_end0
    exact ⟨rfl, by rw [Hw.out, Hn.out]; exact hs⟩

theorem startL_len (l : List Int) (t n : Int) (h : l.length = 5) : (startL l t n).length = 5 := by unfold startL; split <;> simp [h]
theorem stopL_len (l : List Int) (t : Int) (h : l.length = 5) : (stopL l t).length = 5 := by unfold stopL; split <;> simp [h]
theorem stopsL_len : ∀ (ts l : List Int), l.length = 5 → (stopsL l ts).length = 5
  | [], l, h => h
  | t :: r, l, h => stopsL_len r (stopL l t) (stopL_len l t h)
def startT (l T : List Int) (t : Nat) : List Int := startL l t (T.getD t 0)
theorem startT_len (l T : List Int) (t : Nat) (h : l.length = 5) : (startT l T t).length = 5 := startL_len _ _ _ h
theorem watchL_len (l T : List Int) (h : l.length = 5) : (watchL l T).length = 5 := by unfold watchL; split; exact h; exact startL_len _ _ _ h
def numOf' : Value → Int
  | .int _ n => n
  | _ => 0
theorem stops_use {b : Nat} {l : List Int} {X : List Value} {T : TypeId} {v : Value} {xs : List Value} {n : Nat} {E : World} {H R R1 : HP} {w : World} {Q : Ending → World → Prop} (hs : Sat E H w)
    (c1 : Cut H (rsl 1 v n xs) R1) (c2 : Cut R1 (own b (.cells (bk l X) T (0, 0))) R) (hx : (xs.map numOf').map (Value.int .i64) = xs) (hn : (xs.map numOf').length = n) (hlen : n ≤ 1000) (hl : l.length = 5)
    (g : ∀ w', Sat E (R * own b (.cells (bk (stopsL l (xs.map numOf')) X) T (0, 0))) w' → Q (.returned (.tuple #[])) w') :
    Calls Try.prog 46 #[.pointer (some ⟨b, 0, none⟩), v] w Q := by
  refine (stops_spec b l X T v (xs.map numOf') hl (by omega)).use hs ?_ g
  rw [hx, hn]
  exact Cut.pair c1 c2

def endL (l : List Int) : List Int := stopsL l [1, 2, 3, 4]
theorem end_spec (b : Nat) (l : List Int) (X : List Value) (T : TypeId) (hl : l.length = 5) :
    SpecV Try.prog 43 #[.pointer (some ⟨b, 0, none⟩)] (own b (.cells (bk l X) T (0, 0))) (.tuple #[]) (own b (.cells (bk (endL l) X) T (0, 0))) := by
  intro E F w hs
  go_enter Try.func43, Try.ntmps43
  go_wp2_with (first | (refine wpL_buildSlice 1 _ _ _ rfl rfl rfl rfl rfl rfl rfl (by decide) rfl hs ?_; intro vn w hs; replace hs := hs.oslRsl) | (go_at_call 46; refine stops_use (l := l) hs (by repeat (first | exact Cut.head _ _ | apply Cut.tail)) (by repeat (first | exact Cut.head _ _ | apply Cut.tail)) (by rfl) (by rfl) (by decide) hl ?_; intro w hs))
  go_end0
  exact ⟨rfl, hs⟩

def beginL (l T : List Int) : List Int := watchL (startT (endL l) T 1) T
theorem begin_spec (b : Nat) (l T : List Int) (hl : l.length = 5) (hT : T.length = 5) :
    SpecV Try.prog 15 #[.pointer (some ⟨b, 0, none⟩)] (own b (.cells (pk l T) 37 (0, 0))) (.tuple #[]) (own b (.cells (pk (beginL l T) T) 37 (0, 0))) := by
  intro E F w hs
  go_enter Try.func15, Try.ntmps15
  go_upto_region 1 with (first | (go_at_call 43; refine (end_spec b l _ _ hl).use hs (by repeat (first | exact Cut.head _ _ | apply Cut.tail)) ?_; intro w hs))
  replace hl := stopsL_len [1, 2, 3, 4] l hl
  replace hs : Sat E (F * own b (.cells (pk (endL l) T) 37 (0, 0))) w := hs
  obtain ⟨n, hn⟩ : ∃ n, T.getD 1 0 = n := ⟨_, rfl⟩
  have Hn := Lib.hid hn
  clear hn
  have hc := pk_cell hs hl hT 6 (by decide) (by decide)
  rw [show T.getD (6 - 5) 0 = n from Hn.out] at hc
  go_still_tail 8, (by kernel_rfl)
  change wpList _ _ _ _ _ w.drew
  replace hs := hs.drew
  clear hc
  generalize w.drew = w at *
  go_wp2_with fail
  refine (start_spec b (endL l) _ _ 1 n hl).use hs (Cut.head _ _) ?_; intro w hs
  replace hs : Sat E (F * own b (.cells (pk (startT (endL l) T 1) T) 37 (0, 0))) w := by unfold startT; rw [Hn.out]; exact hs
  clear Hn
  replace hl := startT_len (endL l) T 1 hl
  go_wp2_with (first | (go_at_call 45; refine (watch_spec b _ T hl hT).use hs (by repeat (first | exact Cut.head _ _ | apply Cut.tail)) ?_; intro w hs))
  go_end0
  exact ⟨rfl, hs⟩

theorem beginL_len (l T : List Int) (h : l.length = 5) : (beginL l T).length = 5 := watchL_len _ _ (startT_len _ _ _ (stopsL_len _ _ h))

theorem again_spec (b : Nat) (l T : List Int) (hl : l.length = 5) (hT : T.length = 5) :
    SpecV Try.prog 49 #[.pointer (some ⟨b, 0, none⟩)] (own b (.cells (pk l T) 37 (0, 0))) (.tuple #[]) (own b (.cells (pk (startT l T 0) T) 37 (0, 0))) := by
  intro E F w hs
  go_enter Try.func49, Try.ntmps49
  obtain ⟨n, hn⟩ : ∃ n, T.getD 0 0 = n := ⟨_, rfl⟩
  have Hn := Lib.hid hn
  clear hn
  have hc := pk_cell hs hl hT 5 (by decide) (by decide)
  rw [show T.getD (5 - 5) 0 = n from Hn.out] at hc
  go_still_tail 8, (by kernel_rfl)
  change wpList _ _ _ _ _ w.drew
  replace hs := hs.drew
  clear hc
  generalize w.drew = w at *
  go_wp2_with fail
  refine (start_spec b (l) _ _ 0 n hl).use hs (Cut.head _ _) ?_; intro w hs
  replace hs : Sat E (F * own b (.cells (pk (startT (l) T 0) T) 37 (0, 0))) w := by unfold startT; rw [Hn.out]; exact hs
  clear Hn
  replace hl := startT_len (l) T 0 hl
  go_wp2_with fail
  go_end0
  exact ⟨rfl, hs⟩

theorem enough_spec (b : Nat) (l : List Int) (X : List Value) (T : TypeId) (hl : l.length = 5) :
    SpecV Try.prog 51 #[.pointer (some ⟨b, 0, none⟩)] (own b (.cells (bk l X) T (0, 0))) (.tuple #[]) (own b (.cells (bk (stopL l 0) X) T (0, 0))) := by
  intro E F w hs
  go_enter Try.func51, Try.ntmps51
  go_wp2_with (first | (go_at_call 80; refine (stop_spec b l X T 0 hl).use hs (by repeat (first | exact Cut.head _ _ | apply Cut.tail)) ?_; intro w hs))
  go_end0
  exact ⟨rfl, hs⟩

def busyL (l T : List Int) : List Int := if 0 < leftL l 2 ∨ 0 < leftL l 4 then watchL (startT (stopsL l [2, 4]) T 1) T else l
set_option maxHeartbeats 1000000 in
theorem busy_spec (b : Nat) (l T : List Int) (hl : l.length = 5) (hT : T.length = 5) :
    SpecV Try.prog 22 #[.pointer (some ⟨b, 0, none⟩)] (own b (.cells (pk l T) 37 (0, 0))) (.tuple #[]) (own b (.cells (pk (busyL l T) T) 37 (0, 0))) := by
  intro E F w hs
  go_enter Try.func22, Try.ntmps22
  by_cases h2 : 0 < leftL l 2
  · have H := Lib.hid (show busyL l T = watchL (startT (stopsL l [2, 4]) T 1) T from if_pos (.inl h2))
    have d2 : decide (0 < leftL l 2) = true := by simp [h2]
    clear h2
    go_upto_region 2 with (first | (go_at_call 17; ((with_reducible refine (runs_spec b l (T.map (Value.int .i64)) _ 2 hl).use hs (Cut.head _ _) ?_); intro w hs; rw [d2])) | (refine wpL_buildSlice 1 _ _ _ rfl rfl rfl rfl rfl rfl rfl (by decide) rfl hs ?_; intro vn w hs; replace hs := hs.oslRsl) | (go_at_call 46; refine stops_use (l := l) hs (by repeat (first | exact Cut.head _ _ | apply Cut.tail)) (by repeat (first | exact Cut.head _ _ | apply Cut.tail)) (by rfl) (by rfl) (by decide) hl ?_; intro w hs))
    replace hl := stopsL_len [2, 4] l hl
    replace hs : Sat E (F * own b (.cells (pk (stopsL l [2, 4]) T) 37 (0, 0))) w := hs
    obtain ⟨n, hn⟩ : ∃ n, T.getD 1 0 = n := ⟨_, rfl⟩
    have Hn := Lib.hid hn
    clear hn
    have hc := pk_cell hs hl hT 6 (by decide) (by decide)
    rw [show T.getD (6 - 5) 0 = n from Hn.out] at hc
    go_still_tail 8, (by kernel_rfl)
    change wpList _ _ _ _ _ w.drew
    replace hs := hs.drew
    clear hc
    generalize w.drew = w at *
    go_wp2_with fail
    refine (start_spec b (stopsL l [2, 4]) _ _ 1 n hl).use hs (Cut.head _ _) ?_; intro w hs
    replace hs : Sat E (F * own b (.cells (pk (startT (stopsL l [2, 4]) T 1) T) 37 (0, 0))) w := by unfold startT; rw [Hn.out]; exact hs
    clear Hn
    replace hl := startT_len (stopsL l [2, 4]) T 1 hl
    go_wp2_with (first | (go_at_call 45; refine (watch_spec b _ T hl hT).use hs (by repeat (first | exact Cut.head _ _ | apply Cut.tail)) ?_; intro w hs))
    go_end0
    exact ⟨rfl, by rw [H.out]; exact hs⟩
  · have d2 : decide (0 < leftL l 2) = false := by simpa using h2
    by_cases h4 : 0 < leftL l 4
    · have H := Lib.hid (show busyL l T = watchL (startT (stopsL l [2, 4]) T 1) T from if_pos (.inr h4))
      have d4 : decide (0 < leftL l 4) = true := by simp [h4]
      clear h2 h4
      go_upto_region 2 with (first | (go_at_call 17; ((with_reducible refine (runs_spec b l (T.map (Value.int .i64)) _ 2 hl).use hs (Cut.head _ _) ?_); intro w hs; rw [d2])) | (go_at_call 17; ((with_reducible refine (runs_spec b l (T.map (Value.int .i64)) _ 4 hl).use hs (Cut.head _ _) ?_); intro w hs; rw [d4])) | (refine wpL_buildSlice 1 _ _ _ rfl rfl rfl rfl rfl rfl rfl (by decide) rfl hs ?_; intro vn w hs; replace hs := hs.oslRsl) | (go_at_call 46; refine stops_use (l := l) hs (by repeat (first | exact Cut.head _ _ | apply Cut.tail)) (by repeat (first | exact Cut.head _ _ | apply Cut.tail)) (by rfl) (by rfl) (by decide) hl ?_; intro w hs))
      replace hl := stopsL_len [2, 4] l hl
      replace hs : Sat E (F * own b (.cells (pk (stopsL l [2, 4]) T) 37 (0, 0))) w := hs
      obtain ⟨n, hn⟩ : ∃ n, T.getD 1 0 = n := ⟨_, rfl⟩
      have Hn := Lib.hid hn
      clear hn
      have hc := pk_cell hs hl hT 6 (by decide) (by decide)
      rw [show T.getD (6 - 5) 0 = n from Hn.out] at hc
      go_still_tail 8, (by kernel_rfl)
      change wpList _ _ _ _ _ w.drew
      replace hs := hs.drew
      clear hc
      generalize w.drew = w at *
      go_wp2_with fail
      refine (start_spec b (stopsL l [2, 4]) _ _ 1 n hl).use hs (Cut.head _ _) ?_; intro w hs
      replace hs : Sat E (F * own b (.cells (pk (startT (stopsL l [2, 4]) T 1) T) 37 (0, 0))) w := by unfold startT; rw [Hn.out]; exact hs
      clear Hn
      replace hl := startT_len (stopsL l [2, 4]) T 1 hl
      go_wp2_with (first | (go_at_call 45; refine (watch_spec b _ T hl hT).use hs (by repeat (first | exact Cut.head _ _ | apply Cut.tail)) ?_; intro w hs))
      go_end0
      exact ⟨rfl, by rw [H.out]; exact hs⟩
    · have H := Lib.hid (show busyL l T = l from if_neg (by omega))
      have d4 : decide (0 < leftL l 4) = false := by simpa using h4
      clear h2 h4
      go_wp2_with (first | (go_at_call 17; ((with_reducible refine (runs_spec b l (T.map (Value.int .i64)) _ 2 hl).use hs (Cut.head _ _) ?_); intro w hs; rw [d2])) | (go_at_call 17; ((with_reducible refine (runs_spec b l (T.map (Value.int .i64)) _ 4 hl).use hs (Cut.head _ _) ?_); intro w hs; rw [d4])))
      ((try simp only [Exit.inBlock, Exit.then]); refine bodyPost_ret (results_none rfl _ _ _) rfl ?_)
      exact ⟨rfl, by rw [H.out]; exact hs⟩

def polledL (l T : List Int) (idle : Bool) : List Int := watchL (startT (stopsL l [1, 2, 4]) T (if idle then 2 else 1)) T
set_option maxHeartbeats 1000000 in
theorem polled_spec (b : Nat) (l T : List Int) (idle : Bool) (hl : l.length = 5) (hT : T.length = 5) :
    SpecV Try.prog 19 #[.pointer (some ⟨b, 0, none⟩), .bool idle] (own b (.cells (pk l T) 37 (0, 0))) (.tuple #[]) (own b (.cells (pk (polledL l T idle) T) 37 (0, 0))) := by
  intro E F w hs
  go_enter Try.func19, Try.ntmps19
  cases idle with
  | true =>
    go_upto_region 2 with (first | (refine wpL_buildSlice 1 _ _ _ rfl rfl rfl rfl rfl rfl rfl (by decide) rfl hs ?_; intro vn w hs; replace hs := hs.oslRsl) | (go_at_call 46; refine stops_use (l := l) hs (by repeat (first | exact Cut.head _ _ | apply Cut.tail)) (by repeat (first | exact Cut.head _ _ | apply Cut.tail)) (by rfl) (by rfl) (by decide) hl ?_; intro w hs))
    replace hl := stopsL_len [1, 2, 4] l hl
    replace hs : Sat E (F * own b (.cells (pk (stopsL l [1, 2, 4]) T) 37 (0, 0))) w := hs
    obtain ⟨n, hn⟩ : ∃ n, T.getD 2 0 = n := ⟨_, rfl⟩
    have Hn := Lib.hid hn
    clear hn
    have hc := pk_cell hs hl hT 7 (by decide) (by decide)
    rw [show T.getD (7 - 5) 0 = n from Hn.out] at hc
    go_still_tail 8, (by kernel_rfl)
    change wpList _ _ _ _ _ w.drew
    replace hs := hs.drew
    clear hc
    generalize w.drew = w at *
    go_wp2_with fail
    refine (start_spec b (stopsL l [1, 2, 4]) _ _ 2 n hl).use hs (Cut.head _ _) ?_; intro w hs
    replace hs : Sat E (F * own b (.cells (pk (startT (stopsL l [1, 2, 4]) T 2) T) 37 (0, 0))) w := by unfold startT; rw [Hn.out]; exact hs
    clear Hn
    replace hl := startT_len (stopsL l [1, 2, 4]) T 2 hl
    go_wp2_with (first | (go_at_call 45; refine (watch_spec b _ T hl hT).use hs (by repeat (first | exact Cut.head _ _ | apply Cut.tail)) ?_; intro w hs))
    go_end0
    exact ⟨rfl, hs⟩
  | false =>
    go_upto_region 3 with (first | (refine wpL_buildSlice 1 _ _ _ rfl rfl rfl rfl rfl rfl rfl (by decide) rfl hs ?_; intro vn w hs; replace hs := hs.oslRsl) | (go_at_call 46; refine stops_use (l := l) hs (by repeat (first | exact Cut.head _ _ | apply Cut.tail)) (by repeat (first | exact Cut.head _ _ | apply Cut.tail)) (by rfl) (by rfl) (by decide) hl ?_; intro w hs))
    replace hl := stopsL_len [1, 2, 4] l hl
    replace hs : Sat E (F * own b (.cells (pk (stopsL l [1, 2, 4]) T) 37 (0, 0))) w := hs
    obtain ⟨n, hn⟩ : ∃ n, T.getD 1 0 = n := ⟨_, rfl⟩
    have Hn := Lib.hid hn
    clear hn
    have hc := pk_cell hs hl hT 6 (by decide) (by decide)
    rw [show T.getD (6 - 5) 0 = n from Hn.out] at hc
    go_still_tail 8, (by kernel_rfl)
    change wpList _ _ _ _ _ w.drew
    replace hs := hs.drew
    clear hc
    generalize w.drew = w at *
    go_wp2_with fail
    refine (start_spec b (stopsL l [1, 2, 4]) _ _ 1 n hl).use hs (Cut.head _ _) ?_; intro w hs
    replace hs : Sat E (F * own b (.cells (pk (startT (stopsL l [1, 2, 4]) T 1) T) 37 (0, 0))) w := by unfold startT; rw [Hn.out]; exact hs
    clear Hn
    replace hl := startT_len (stopsL l [1, 2, 4]) T 1 hl
    go_wp2_with (first | (go_at_call 45; refine (watch_spec b _ T hl hT).use hs (by repeat (first | exact Cut.head _ _ | apply Cut.tail)) ?_; intro w hs))
    go_end0
    exact ⟨rfl, hs⟩

def answeredL (l T : List Int) (idle : Bool) : List Int :=
  if idle = true ∧ 0 < leftL l 2 then startT (stopsL l [2, 3]) T 4 else if 0 < leftL l 4 then l else startT l T 3
set_option maxHeartbeats 1000000 in
theorem answered_spec (b : Nat) (l T : List Int) (idle : Bool) (hl : l.length = 5) (hT : T.length = 5) :
    SpecV Try.prog 20 #[.pointer (some ⟨b, 0, none⟩), .bool idle] (own b (.cells (pk l T) 37 (0, 0))) (.tuple #[]) (own b (.cells (pk (answeredL l T idle) T) 37 (0, 0))) := by
  intro E F w hs
  go_enter Try.func20, Try.ntmps20
  by_cases h4 : 0 < leftL l 4
  · have d4 : decide (0 < leftL l 4) = true := by simp [h4]
    by_cases h2 : 0 < leftL l 2
    · have d2 : decide (0 < leftL l 2) = true := by simp [h2]
      cases idle with
      | true =>
        have H := Lib.hid (show answeredL l T true = startT (stopsL l [2, 3]) T 4 from if_pos ⟨rfl, h2⟩)
        clear h2 h4
        go_upto_region 2 with (first | (go_at_call 17; ((with_reducible refine (runs_spec b l (T.map (Value.int .i64)) _ 2 hl).use hs (Cut.head _ _) ?_); intro w hs; rw [d2])) | (refine wpL_buildSlice 1 _ _ _ rfl rfl rfl rfl rfl rfl rfl (by decide) rfl hs ?_; intro vn w hs; replace hs := hs.oslRsl) | (go_at_call 46; refine stops_use (l := l) hs (by repeat (first | exact Cut.head _ _ | apply Cut.tail)) (by repeat (first | exact Cut.head _ _ | apply Cut.tail)) (by rfl) (by rfl) (by decide) hl ?_; intro w hs))
        replace hl := stopsL_len [2, 3] l hl
        replace hs : Sat E (F * own b (.cells (pk (stopsL l [2, 3]) T) 37 (0, 0))) w := hs
        obtain ⟨n, hn⟩ : ∃ n, T.getD 4 0 = n := ⟨_, rfl⟩
        have Hn := Lib.hid hn
        clear hn
        have hc := pk_cell hs hl hT 9 (by decide) (by decide)
        rw [show T.getD (9 - 5) 0 = n from Hn.out] at hc
        go_still_tail 8, (by kernel_rfl)
        change wpList _ _ _ _ _ w.drew
        replace hs := hs.drew
        clear hc
        generalize w.drew = w at *
        go_wp2_with fail
        refine (start_spec b (stopsL l [2, 3]) _ _ 4 n hl).use hs (Cut.head _ _) ?_; intro w hs
        replace hs : Sat E (F * own b (.cells (pk (startT (stopsL l [2, 3]) T 4) T) 37 (0, 0))) w := by unfold startT; rw [Hn.out]; exact hs
        clear Hn
        replace hl := startT_len (stopsL l [2, 3]) T 4 hl
        go_wp2_with fail
        ((try simp only [Exit.inBlock, Exit.then]); refine bodyPost_ret (results_none rfl _ _ _) rfl ?_)
        exact ⟨rfl, by rw [H.out]; exact hs⟩
      | false =>
        have H := Lib.hid (show answeredL l T false = l by unfold answeredL; rw [if_neg (by simp), if_pos h4])
        clear h2 h4
        go_wp2_with (first | (go_at_call 17; ((with_reducible refine (runs_spec b l (T.map (Value.int .i64)) _ 4 hl).use hs (Cut.head _ _) ?_); intro w hs; rw [d4])))
        go_end0
        exact ⟨rfl, by rw [H.out]; exact hs⟩
    · have d2 : decide (0 < leftL l 2) = false := by simpa using h2
      have H := Lib.hid (show answeredL l T idle = l by unfold answeredL; rw [if_neg (by simp; omega), if_pos h4])
      clear h2 h4
      cases idle <;> (go_wp2_with (first | (go_at_call 17; ((with_reducible refine (runs_spec b l (T.map (Value.int .i64)) _ 2 hl).use hs (Cut.head _ _) ?_); intro w hs; rw [d2])) | (go_at_call 17; ((with_reducible refine (runs_spec b l (T.map (Value.int .i64)) _ 4 hl).use hs (Cut.head _ _) ?_); intro w hs; rw [d4]))); go_end0; exact ⟨rfl, by rw [H.out]; exact hs⟩)
  · have d4 : decide (0 < leftL l 4) = false := by simpa using h4
    by_cases h2 : 0 < leftL l 2
    · have d2 : decide (0 < leftL l 2) = true := by simp [h2]
      cases idle with
      | true =>
        have H := Lib.hid (show answeredL l T true = startT (stopsL l [2, 3]) T 4 from if_pos ⟨rfl, h2⟩)
        clear h2 h4
        go_upto_region 2 with (first | (go_at_call 17; ((with_reducible refine (runs_spec b l (T.map (Value.int .i64)) _ 2 hl).use hs (Cut.head _ _) ?_); intro w hs; rw [d2])) | (refine wpL_buildSlice 1 _ _ _ rfl rfl rfl rfl rfl rfl rfl (by decide) rfl hs ?_; intro vn w hs; replace hs := hs.oslRsl) | (go_at_call 46; refine stops_use (l := l) hs (by repeat (first | exact Cut.head _ _ | apply Cut.tail)) (by repeat (first | exact Cut.head _ _ | apply Cut.tail)) (by rfl) (by rfl) (by decide) hl ?_; intro w hs))
        replace hl := stopsL_len [2, 3] l hl
        replace hs : Sat E (F * own b (.cells (pk (stopsL l [2, 3]) T) 37 (0, 0))) w := hs
        obtain ⟨n, hn⟩ : ∃ n, T.getD 4 0 = n := ⟨_, rfl⟩
        have Hn := Lib.hid hn
        clear hn
        have hc := pk_cell hs hl hT 9 (by decide) (by decide)
        rw [show T.getD (9 - 5) 0 = n from Hn.out] at hc
        go_still_tail 8, (by kernel_rfl)
        change wpList _ _ _ _ _ w.drew
        replace hs := hs.drew
        clear hc
        generalize w.drew = w at *
        go_wp2_with fail
        refine (start_spec b (stopsL l [2, 3]) _ _ 4 n hl).use hs (Cut.head _ _) ?_; intro w hs
        replace hs : Sat E (F * own b (.cells (pk (startT (stopsL l [2, 3]) T 4) T) 37 (0, 0))) w := by unfold startT; rw [Hn.out]; exact hs
        clear Hn
        replace hl := startT_len (stopsL l [2, 3]) T 4 hl
        go_wp2_with fail
        ((try simp only [Exit.inBlock, Exit.then]); refine bodyPost_ret (results_none rfl _ _ _) rfl ?_)
        exact ⟨rfl, by rw [H.out]; exact hs⟩
      | false =>
        have H := Lib.hid (show answeredL l T false = startT l T 3 by unfold answeredL; rw [if_neg (by simp), if_neg h4])
        clear h2 h4
        go_upto_region 4 with (first | (go_at_call 17; ((with_reducible refine (runs_spec b l (T.map (Value.int .i64)) _ 4 hl).use hs (Cut.head _ _) ?_); intro w hs; rw [d4])))
        replace hs : Sat E (F * own b (.cells (pk l T) 37 (0, 0))) w := hs
        obtain ⟨n, hn⟩ : ∃ n, T.getD 3 0 = n := ⟨_, rfl⟩
        have Hn := Lib.hid hn
        clear hn
        have hc := pk_cell hs hl hT 8 (by decide) (by decide)
        rw [show T.getD (8 - 5) 0 = n from Hn.out] at hc
        go_still_tail 8, (by kernel_rfl)
        change wpList _ _ _ _ _ w.drew
        replace hs := hs.drew
        clear hc
        generalize w.drew = w at *
        go_wp2_with fail
        refine (start_spec b (l) _ _ 3 n hl).use hs (Cut.head _ _) ?_; intro w hs
        replace hs : Sat E (F * own b (.cells (pk (startT (l) T 3) T) 37 (0, 0))) w := by unfold startT; rw [Hn.out]; exact hs
        clear Hn
        replace hl := startT_len (l) T 3 hl
        go_wp2_with fail
        go_end0
        exact ⟨rfl, by rw [H.out]; exact hs⟩
    · have d2 : decide (0 < leftL l 2) = false := by simpa using h2
      have H := Lib.hid (show answeredL l T idle = startT l T 3 by unfold answeredL; rw [if_neg (by simp; omega), if_neg h4])
      clear h2 h4
      cases idle with
      | true =>
        go_upto_region 4 with (first | (go_at_call 17; ((with_reducible refine (runs_spec b l (T.map (Value.int .i64)) _ 2 hl).use hs (Cut.head _ _) ?_); intro w hs; rw [d2])) | (go_at_call 17; ((with_reducible refine (runs_spec b l (T.map (Value.int .i64)) _ 4 hl).use hs (Cut.head _ _) ?_); intro w hs; rw [d4])))
        replace hs : Sat E (F * own b (.cells (pk l T) 37 (0, 0))) w := hs
        obtain ⟨n, hn⟩ : ∃ n, T.getD 3 0 = n := ⟨_, rfl⟩
        have Hn := Lib.hid hn
        clear hn
        have hc := pk_cell hs hl hT 8 (by decide) (by decide)
        rw [show T.getD (8 - 5) 0 = n from Hn.out] at hc
        go_still_tail 8, (by kernel_rfl)
        change wpList _ _ _ _ _ w.drew
        replace hs := hs.drew
        clear hc
        generalize w.drew = w at *
        go_wp2_with fail
        refine (start_spec b (l) _ _ 3 n hl).use hs (Cut.head _ _) ?_; intro w hs
        replace hs : Sat E (F * own b (.cells (pk (startT (l) T 3) T) 37 (0, 0))) w := by unfold startT; rw [Hn.out]; exact hs
        clear Hn
        replace hl := startT_len (l) T 3 hl
        go_wp2_with fail
        go_end0
        exact ⟨rfl, by rw [H.out]; exact hs⟩
      | false =>
        go_upto_region 4 with (first | (go_at_call 17; ((with_reducible refine (runs_spec b l (T.map (Value.int .i64)) _ 2 hl).use hs (Cut.head _ _) ?_); intro w hs; rw [d2])) | (go_at_call 17; ((with_reducible refine (runs_spec b l (T.map (Value.int .i64)) _ 4 hl).use hs (Cut.head _ _) ?_); intro w hs; rw [d4])))
        replace hs : Sat E (F * own b (.cells (pk l T) 37 (0, 0))) w := hs
        obtain ⟨n, hn⟩ : ∃ n, T.getD 3 0 = n := ⟨_, rfl⟩
        have Hn := Lib.hid hn
        clear hn
        have hc := pk_cell hs hl hT 8 (by decide) (by decide)
        rw [show T.getD (8 - 5) 0 = n from Hn.out] at hc
        go_still_tail 8, (by kernel_rfl)
        change wpList _ _ _ _ _ w.drew
        replace hs := hs.drew
        clear hc
        generalize w.drew = w at *
        go_wp2_with fail
        refine (start_spec b (l) _ _ 3 n hl).use hs (Cut.head _ _) ?_; intro w hs
        replace hs : Sat E (F * own b (.cells (pk (startT (l) T 3) T) 37 (0, 0))) w := by unfold startT; rw [Hn.out]; exact hs
        clear Hn
        replace hl := startT_len (l) T 3 hl
        go_wp2_with fail
        go_end0
        exact ⟨rfl, by rw [H.out]; exact hs⟩
end Go.Proofs.Ytoeaamohchpjdaa
