/-
  The rules' tables: contracts.
-/
import Derived.Test.YtoeaamohchpjdaaMap
import Derived.Test.YtoeaamohchpjdaaRow
import Derived.Test.YtoeaamohchpjdaaProg
import Derived.RegionTactic
import Derived.WalkArith
import Derived.LoopTactic
import Derived.Lib.Hide
namespace Go.Proofs.Ytoeaamohchpjdaa
open Go Go.RowKit Go.ChangeShapes Go.WideShapes
open Go.WideMaps (KeyLaw ArrKey)
set_option linter.unusedVariables false
set_option maxRecDepth 100000

theorem placeKey : ArrKey Try.prog 135 3 2 := ⟨Try.underlying135, by kernel_rfl, by kernel_rfl, by kernel_rfl⟩
theorem placeLaw : KeyLaw Try.prog 135 := placeKey.law
theorem place_key {a b : Int} (wa : (Lit.int .i64 a).wf = true) (wb : (Lit.int .i64 b).wf = true) : keyOf Try.prog 135 (pairK a b) = some (.string (keyBytes [.int .i64 a, .int .i64 b])) :=
  Go.WideMaps.keyOf_pair placeKey Try.underlying3 ⟨_, rfl⟩ wa wb

/-- A state's row. -/
def rowM (m : Int → Int → Int) (s what : Int) : List Int → Int → Int → Int
  | [] => m
  | k :: r => rowM (updM m s k what) s what r
theorem rowM_snoc (s what k : Int) : ∀ (l : List Int) (m : Int → Int → Int), rowM m s what (l ++ [k]) = updM (rowM m s what l) s k what
  | [], m => rfl
  | x :: r, m => rowM_snoc s what k r (updM m s x what)

theorem row_spec (b : Nat) (m : Int → Int → Int) (s what : Int) (v : Value) (ks : List Int) (hw : (Lit.int .i64 s).wf = true) (hk : ∀ k ∈ ks, (Lit.int .i64 k).wf = true) (hlen : ks.length ≤ 1000) :
    SpecV Try.prog 105 #[.map (some b), .int .i64 s, .int .i64 what, v] (mpI Try.prog 135 b m * rsl 1 v ks.length (ks.map (Value.int .i64)))
      (.tuple #[]) (mpI Try.prog 135 b (rowM m s what ks)) := by
  intro E F w hs
  rw [← star_assoc] at hs
  have r := hs.readsS
  go_enter Try.func105, Try.ntmps105
  go_wp2_with (first | (refine wpL_lenR _ _ rfl rfl rfl rfl r ?_))
  go_loopw [9, 12] (fun _ i wr => ∃ j : Nat, j ≤ ks.length ∧ i = .int .i64 j ∧ Sat E (F * mpI Try.prog 135 b (rowM m s what (ks.take j)) * rsl 1 v ks.length (ks.map (Value.int .i64))) wr) (fun _ i _ => ks.length - (intOf i).toNat)
  case atStart => exact ⟨0, by omega, rfl, hs⟩
  case round =>
    clear hs
    obtain ⟨j, hj, rfl, hs⟩ := hrel
    have r := hs.readsS
    by_cases hlt : j < ks.length
    · have hz : (ks.map (Value.int .i64))[((j : Int)).toNat * 1 + 0]? = some (.int .i64 ks[j]) := by simp [hlt]
      have hkj := hk ks[j] (List.getElem_mem _)
      have hsn : rowM m s what (ks.take (j + 1)) = updM (rowM m s what (ks.take j)) s ks[j] what := by rw [List.take_succ_eq_append_getElem hlt, rowM_snoc]
      have Hsn := Lib.hid hsn
      clear hsn
      generalize ks[j] = k at *
      go_wp2_with (first | (refine wpL_indexAddrR 1 _ _ _ rfl rfl rfl rfl rfl rfl rfl r (by omega) (by omega) ?_; intro ad had) | (refine wpL_loadR _ _ rfl rfl rfl (by simp) (had 0 _ hz) ?_) | (refine wpL_mapUpdateI 135 3 _ _ _ _ rfl rfl rfl Try.underlying133 placeLaw rfl rfl rfl (place_key hw hkj) hs (by repeat (first | exact Cut.head _ _ | apply Cut.tail)) ?_; intro w hs))
      go_roundw
      case rel => exact ⟨j + 1, by omega, by go_num, by rw [Hsn.out]; exact hs.eq (by ac_rfl)⟩
      case measure => simp [intOf]; omega
    · have hlt' : decide (j < ks.length) = false := by simp; omega
      obtain rfl : j = ks.length := by omega
      rw [List.take_length] at hs
      go_wp2_with (first | (refine wpL_lenR _ _ rfl rfl rfl rfl r ?_))
      go_end0
      exact ⟨rfl, hs.drop⟩

def numOf : Value → Int
  | .int _ n => n
  | _ => 0
theorem row_use {b : Nat} {m : Int → Int → Int} {s what : Int} {v : Value} {xs : List Value} {n : Nat} {E : World} {H R R1 : HP} {w : World} {Q : Ending → World → Prop} (hs : Sat E H w)
    (c1 : Cut H (rsl 1 v n xs) R1) (c2 : Cut R1 (mpI Try.prog 135 b m) R) (hx : (xs.map numOf).map (Value.int .i64) = xs) (hn : (xs.map numOf).length = n) (hl : n ≤ 1000)
    (ha : (xs.map numOf).all (fun k => (Lit.int .i64 k).wf) = true) (hw : (Lit.int .i64 s).wf = true)
    (g : ∀ w', Sat E (R * mpI Try.prog 135 b (rowM m s what (xs.map numOf))) w' → Q (.returned (.tuple #[])) w') :
    Calls Try.prog 105 #[.map (some b), .int .i64 s, .int .i64 what, v] w Q := by
  refine (row_spec b m s what v (xs.map numOf) hw (fun k hk => by rw [List.all_eq_true] at ha; exact ha k hk) (by omega)).use hs ?_ g
  rw [hx, hn]
  exact Cut.pair c1 c2

/-- What a round of the table's loop does. -/
def roundT (m : Int → Int → Int) (s : Int) : Int → Int → Int :=
  let m := rowM m s 1 [1, 13, 14]
  let m := if s = 2 then m else rowM m s 1 [3]
  let m := if 5 ≤ s then rowM (rowM m s 1 [5]) s 4 [4, 7] else m
  if 7 ≤ s then rowM m s 1 [9] else m
theorem roundT_high {m : Int → Int → Int} {s : Int} (h2 : ¬ s = 2) (h5 : 5 ≤ s) (h7 : 7 ≤ s) : roundT m s = rowM (rowM (rowM (rowM (rowM m s 1 [1, 13, 14]) s 1 [3]) s 1 [5]) s 4 [4, 7]) s 1 [9] := by simp [roundT, h2, h5, h7]
theorem roundT_mid {m : Int → Int → Int} {s : Int} (h2 : ¬ s = 2) (h5 : 5 ≤ s) (h7 : ¬ 7 ≤ s) : roundT m s = rowM (rowM (rowM (rowM m s 1 [1, 13, 14]) s 1 [3]) s 1 [5]) s 4 [4, 7] := by simp [roundT, h2, h5, h7]
theorem roundT_low {m : Int → Int → Int} {s : Int} (h2 : ¬ s = 2) (h5 : ¬ 5 ≤ s) (h7 : ¬ 7 ≤ s) : roundT m s = rowM (rowM m s 1 [1, 13, 14]) s 1 [3] := by simp [roundT, h2, h5, h7]
def roundsT : Nat → Int → Int → Int
  | 0 => fun _ _ => 0
  | n + 1 => roundT (roundsT n) ((n : Int) + 1)
def tableM : Int → Int → Int :=
  let m := roundsT 10
  let m := rowM m 1 3 [2, 5, 6, 8, 9, 10, 11, 12, 15]
  let m := rowM m 1 2 [7]
  let m := rowM m 2 1 [2, 7]
  let m := rowM m 3 2 [2, 4, 5, 6, 7, 8, 9, 10, 11, 12, 15]
  let m := rowM m 4 1 [4, 7]
  let m := rowM m 5 1 [6]
  let m := rowM m 7 1 [15]
  rowM m 10 1 [8, 10, 11, 12]

set_option maxRecDepth 100000 in
theorem table_use {E : World} {F : HP} {w : World} {Q : Ending → World → Prop} (hs : Sat E F w) (g : ∀ b w', Sat E (F * mpI Try.prog 135 b tableM) w' → Q (.returned (.map (some b))) w') :
    Calls Try.prog 86 #[] w Q := by
  refine Calls.mono (R := fun e w' => ∃ b, e = .returned (.map (some b)) ∧ Sat E (F * mpI Try.prog 135 b tableM) w') ?_ (fun e w' ⟨b, e1, h⟩ => by subst e1; exact g b w' h)
  go_enter Try.func86, Try.ntmps86
  go_wp2_with (first | (refine wpL_makeMapI 135 3 _ rfl rfl Try.underlying133 hs ?_; intro b w hs))
  go_loopw [2] (fun i wr => ∃ (n : Nat) (s : Int), n ≤ 10 ∧ s = (n : Int) + 1 ∧ i = .int .i64 s ∧ Sat E (F * mpI Try.prog 135 b (roundsT n)) wr) (fun i _ => 11 - (intOf i).toNat)
  case atStart => exact ⟨0, 1, by omega, by omega, rfl, hs⟩
  case round =>
    clear hs
    obtain ⟨n, s, hn, hsn, rfl, hs⟩ := hrel
    by_cases h10 : s ≤ 10
    · have Hw := Lib.hid (WalkArith.wf_i64 (n := s) (by omega))
      have Hsn := Lib.hid hsn
      have Hn := Lib.hid hn
      by_cases h2 : s = 2
      · clear hn hsn
        subst h2
        go_wp2_with (first | (refine wpL_buildSlice 1 _ _ _ rfl rfl rfl rfl rfl rfl rfl (by decide) rfl hs ?_; intro vn w hs; replace hs := hs.oslRsl) | (go_at_call 105; refine row_use hs (by repeat (first | exact Cut.head _ _ | apply Cut.tail)) (by repeat (first | exact Cut.head _ _ | apply Cut.tail)) (by rfl) (by rfl) (by decide) (by rfl) (by first | exact Hw.out | exact hw | rfl) ?_; intro w hs))
        go_roundw
        case rel =>
          obtain rfl : n = 1 := by have := Hsn.out; omega
          exact ⟨2, _, by omega, rfl, by go_num, hs⟩
        case measure => simp [intOf]
      · have h2' : (s == 2) = false := by simpa using h2
        have e2 := Lib.hid h2
        have h1 : 1 ≤ s := by omega
        clear h2 hn hsn
        by_cases h5 : 5 ≤ s
        · by_cases h7 : 7 ≤ s
          · go_wp2_with (first | (refine wpL_buildSlice 1 _ _ _ rfl rfl rfl rfl rfl rfl rfl (by decide) rfl hs ?_; intro vn w hs; replace hs := hs.oslRsl) | (go_at_call 105; refine row_use hs (by repeat (first | exact Cut.head _ _ | apply Cut.tail)) (by repeat (first | exact Cut.head _ _ | apply Cut.tail)) (by rfl) (by rfl) (by decide) (by rfl) (by first | exact Hw.out | exact hw | rfl) ?_; intro w hs))
            go_roundw
            case rel => exact ⟨n + 1, s + 1, by have := Hsn.out; omega, by have := Hsn.out; omega, by go_num, by
              show Sat E (F * mpI _ _ b (roundT (roundsT n) ((n : Int) + 1))) w
              rw [← Hsn.out, roundT_high e2.out h5 h7]
              exact hs⟩
            case measure => simp [intOf]; omega
          · go_wp2_with (first | (refine wpL_buildSlice 1 _ _ _ rfl rfl rfl rfl rfl rfl rfl (by decide) rfl hs ?_; intro vn w hs; replace hs := hs.oslRsl) | (go_at_call 105; refine row_use hs (by repeat (first | exact Cut.head _ _ | apply Cut.tail)) (by repeat (first | exact Cut.head _ _ | apply Cut.tail)) (by rfl) (by rfl) (by decide) (by rfl) (by first | exact Hw.out | exact hw | rfl) ?_; intro w hs))
            go_roundw
            case rel => exact ⟨n + 1, s + 1, by have := Hsn.out; omega, by have := Hsn.out; omega, by go_num, by
              show Sat E (F * mpI _ _ b (roundT (roundsT n) ((n : Int) + 1))) w
              rw [← Hsn.out, roundT_mid e2.out h5 (by omega)]
              exact hs⟩
            case measure => simp [intOf]; omega
        · go_wp2_with (first | (refine wpL_buildSlice 1 _ _ _ rfl rfl rfl rfl rfl rfl rfl (by decide) rfl hs ?_; intro vn w hs; replace hs := hs.oslRsl) | (go_at_call 105; refine row_use hs (by repeat (first | exact Cut.head _ _ | apply Cut.tail)) (by repeat (first | exact Cut.head _ _ | apply Cut.tail)) (by rfl) (by rfl) (by decide) (by rfl) (by first | exact Hw.out | exact hw | rfl) ?_; intro w hs))
          go_roundw
          case rel => exact ⟨n + 1, s + 1, by have := Hsn.out; omega, by have := Hsn.out; omega, by go_num, by
            show Sat E (F * mpI _ _ b (roundT (roundsT n) ((n : Int) + 1))) w
            rw [← Hsn.out, roundT_low e2.out (by omega) (by omega)]
            exact hs⟩
          case measure => simp [intOf]; omega
    · obtain rfl : n = 10 := by omega
      obtain rfl : s = 11 := by omega
      go_wp2_with (first | (refine wpL_buildSlice 1 _ _ _ rfl rfl rfl rfl rfl rfl rfl (by decide) rfl hs ?_; intro vn w hs; replace hs := hs.oslRsl) | (go_at_call 105; refine row_use hs (by repeat (first | exact Cut.head _ _ | apply Cut.tail)) (by repeat (first | exact Cut.head _ _ | apply Cut.tail)) (by rfl) (by rfl) (by decide) (by rfl) (by first | exact Hw.out | exact hw | rfl) ?_; intro w hs))
      go_ret
      exact ⟨b, rfl, hs⟩

/-- What a round of the requests' loop does. -/
def roundR (m : Int → Int → Int) (s : Int) : Int → Int → Int :=
  if s = 1 ∨ s = 4 then rowM m s 1 [8, 9, 10, 11] else rowM (rowM m s 1 [8, 9, 10, 11]) s 1 [3]
theorem roundR_in {m : Int → Int → Int} {s : Int} (h : s = 1 ∨ s = 4) : roundR m s = rowM m s 1 [8, 9, 10, 11] := if_pos h
theorem roundR_out {m : Int → Int → Int} {s : Int} (h : ¬ (s = 1 ∨ s = 4)) : roundR m s = rowM (rowM m s 1 [8, 9, 10, 11]) s 1 [3] := if_neg h
def roundsR : Nat → Int → Int → Int
  | 0 => fun _ _ => 0
  | n + 1 => roundR (roundsR n) ((n : Int) + 1)
def requestsM : Int → Int → Int :=
  let m := roundsR 10
  let m := rowM m 1 1 [1]
  let m := rowM m 4 1 [1]
  let m := rowM m 3 1 [2]
  let m := rowM m 6 1 [5]
  let m := rowM m 8 1 [4, 6]
  let m := rowM m 9 1 [6]
  rowM m 10 1 [4, 7]

set_option maxRecDepth 100000 in
theorem requests_use {E : World} {F : HP} {w : World} {Q : Ending → World → Prop} (hs : Sat E F w) (g : ∀ b w', Sat E (F * mpI Try.prog 135 b requestsM) w' → Q (.returned (.map (some b))) w') :
    Calls Try.prog 82 #[] w Q := by
  refine Calls.mono (R := fun e w' => ∃ b, e = .returned (.map (some b)) ∧ Sat E (F * mpI Try.prog 135 b requestsM) w') ?_ (fun e w' ⟨b, e1, h⟩ => by subst e1; exact g b w' h)
  go_enter Try.func82, Try.ntmps82
  go_wp2_with (first | (refine wpL_makeMapI 135 3 _ rfl rfl Try.underlying133 hs ?_; intro b w hs))
  go_loopw [2] (fun i wr => ∃ (n : Nat) (s : Int), n ≤ 10 ∧ s = (n : Int) + 1 ∧ i = .int .i64 s ∧ Sat E (F * mpI Try.prog 135 b (roundsR n)) wr) (fun i _ => 11 - (intOf i).toNat)
  case atStart => exact ⟨0, 1, by omega, by omega, rfl, hs⟩
  case round =>
    clear hs
    obtain ⟨n, s, hn, hsn, rfl, hs⟩ := hrel
    by_cases h10 : s ≤ 10
    · have Hw := Lib.hid (WalkArith.wf_i64 (n := s) (by omega))
      have Hsn := Lib.hid hsn
      have Hn := Lib.hid hn
      have h1 : 1 ≤ s := by omega
      clear hn hsn
      by_cases h2 : s = 1
      · subst h2
        go_wp2_with (first | (refine wpL_buildSlice 1 _ _ _ rfl rfl rfl rfl rfl rfl rfl (by decide) rfl hs ?_; intro vn w hs; replace hs := hs.oslRsl) | (go_at_call 105; refine row_use hs (by repeat (first | exact Cut.head _ _ | apply Cut.tail)) (by repeat (first | exact Cut.head _ _ | apply Cut.tail)) (by rfl) (by rfl) (by decide) (by rfl) (by first | exact Hw.out | exact hw | rfl) ?_; intro w hs))
        go_roundw
        case rel => exact ⟨n + 1, 2, by have := Hsn.out; omega, by have := Hsn.out; omega, by go_num, by
          show Sat E (F * mpI _ _ b (roundR (roundsR n) ((n : Int) + 1))) w
          rw [← Hsn.out, roundR_in (by omega)]
          exact hs⟩
        case measure => simp [intOf]
      · by_cases h4 : s = 4
        · subst h4
          go_wp2_with (first | (refine wpL_buildSlice 1 _ _ _ rfl rfl rfl rfl rfl rfl rfl (by decide) rfl hs ?_; intro vn w hs; replace hs := hs.oslRsl) | (go_at_call 105; refine row_use hs (by repeat (first | exact Cut.head _ _ | apply Cut.tail)) (by repeat (first | exact Cut.head _ _ | apply Cut.tail)) (by rfl) (by rfl) (by decide) (by rfl) (by first | exact Hw.out | exact hw | rfl) ?_; intro w hs))
          go_roundw
          case rel => exact ⟨n + 1, 5, by have := Hsn.out; omega, by have := Hsn.out; omega, by go_num, by
            show Sat E (F * mpI _ _ b (roundR (roundsR n) ((n : Int) + 1))) w
            rw [← Hsn.out, roundR_in (by omega)]
            exact hs⟩
          case measure => simp [intOf]
        · have h2' : (s == 1) = false := by simpa using h2
          have h4' : (s == 4) = false := by simpa using h4
          have h2n : (s != 1) = true := by simpa using h2
          have h4n : (s != 4) = true := by simpa using h4
          have e2 := Lib.hid (show ¬ (s = 1 ∨ s = 4) by omega)
          clear h2 h4
          go_wp2_with (first | (refine wpL_buildSlice 1 _ _ _ rfl rfl rfl rfl rfl rfl rfl (by decide) rfl hs ?_; intro vn w hs; replace hs := hs.oslRsl) | (go_at_call 105; refine row_use hs (by repeat (first | exact Cut.head _ _ | apply Cut.tail)) (by repeat (first | exact Cut.head _ _ | apply Cut.tail)) (by rfl) (by rfl) (by decide) (by rfl) (by first | exact Hw.out | exact hw | rfl) ?_; intro w hs))
          go_roundw
          case rel => exact ⟨n + 1, s + 1, by have := Hsn.out; omega, by have := Hsn.out; omega, by go_num, by
            show Sat E (F * mpI _ _ b (roundR (roundsR n) ((n : Int) + 1))) w
            rw [← Hsn.out, roundR_out e2.out]
            exact hs⟩
          case measure => simp [intOf]; omega
    · obtain rfl : n = 10 := by omega
      obtain rfl : s = 11 := by omega
      go_wp2_with (first | (refine wpL_buildSlice 1 _ _ _ rfl rfl rfl rfl rfl rfl rfl (by decide) rfl hs ?_; intro vn w hs; replace hs := hs.oslRsl) | (go_at_call 105; refine row_use hs (by repeat (first | exact Cut.head _ _ | apply Cut.tail)) (by repeat (first | exact Cut.head _ _ | apply Cut.tail)) (by rfl) (by rfl) (by decide) (by rfl) (by first | exact Hw.out | exact hw | rfl) ?_; intro w hs))
      go_ret
      exact ⟨b, rfl, hs⟩

theorem of_spec (s k : Int) (hw1 : (Lit.int .i64 s).wf = true) (hw2 : (Lit.int .i64 k).wf = true) : SpecV Try.prog 68 #[.int .i64 s, .int .i64 k] emp (.int .i64 (tableM s k)) emp := by
  intro E F w hs
  rw [star_emp] at hs
  go_enter Try.func68, Try.ntmps68
  go_wp2_with fail
  refine table_use hs ?_; intro b w hs
  go_wp2_with (first | (refine wpL_lookupI 135 3 _ _ _ rfl rfl (i := _) Try.underlying133 placeLaw rfl rfl rfl rfl (place_key hw1 hw2) hs (by repeat (first | exact Cut.head _ _ | apply Cut.tail)) ?_))
  go_ret
  exact ⟨rfl, hs.drop.mkEmp⟩

theorem may_spec (s k : Int) (hw1 : (Lit.int .i64 s).wf = true) (hw2 : (Lit.int .i64 k).wf = true) : SpecV Try.prog 64 #[.int .i64 s, .int .i64 k] emp (.bool (requestsM s k == 1)) emp := by
  intro E F w hs
  rw [star_emp] at hs
  go_enter Try.func64, Try.ntmps64
  go_wp2_with fail
  refine requests_use hs ?_; intro b w hs
  go_wp2_with (first | (refine wpL_lookupI 135 3 _ _ _ rfl rfl (i := _) Try.underlying133 placeLaw rfl rfl rfl rfl (place_key hw1 hw2) hs (by repeat (first | exact Cut.head _ _ | apply Cut.tail)) ?_))
  go_ret
  exact ⟨rfl, hs.drop.mkEmp⟩

end Go.Proofs.Ytoeaamohchpjdaa
