/-
  RulesCovered: the walk.
-/
import Derived.Test.YtdjepkhpkmmhpaaRulesLaws
namespace Go.Proofs.Ytdjepkhpkmmhpaa
open Go Go.RowKit Go.ChangeShapes Go.WideShapes
set_option linter.unusedVariables false

/-- How many of the first states handle a kind. -/
def handled (k : Int) : Nat → Nat
  | 0 => 0
  | n + 1 => handled k n + if tableM ((n : Int) + 1) k = 1 then 1 else 0
theorem handled_le (k : Int) : ∀ n, handled k n ≤ n
  | 0 => by simp [handled]
  | n + 1 => by
    have := handled_le k n
    unfold handled; split <;> omega
theorem handled_one {k : Int} (h1 : 1 ≤ k) (h2 : k ≤ 15) : 1 ≤ handled k 10 := by simpa using fin_check1 (p := fun k => decide (1 ≤ handled k 10)) (n := 15) (by kernel_rfl) h1 h2
/-- May one of the first requests be made? -/
def anyM (s : Int) : Nat → Bool
  | 0 => false
  | q + 1 => anyM s q || (requestsM s ((q : Int) + 1) == 1)
theorem any_all {s : Int} (h1 : 1 ≤ s) (h2 : s ≤ 10) : anyM s 11 = true := fin_check1 (p := fun s => anyM s 11) (n := 10) (by kernel_rfl) h1 h2
theorem req7 {s : Int} (h1 : 1 ≤ s) (h2 : s ≤ 10) : (requestsM s 7 == 1) = (s == 10) := by simpa using fin_check1 (p := fun s => (requestsM s 7 == 1) == (s == 10)) (n := 10) (by kernel_rfl) h1 h2
theorem tab_word {s k : Int} (h1 : 1 ≤ s) (h2 : s ≤ 10) (h3 : 1 ≤ k) (h4 : k ≤ 15) : tableM s k = 0 ∨ tableM s k = 1 ∨ (tableM s k = 2 ∧ (letterN k == 0) = false) ∨ (tableM s k = 3 ∧ s = 1 ∧ (letterN k == 0) = false) ∨ (tableM s k = 4 ∧ (letterN k == 0) = false) := by
  have := fin_check (p := fun s k => tableM s k == 0 || tableM s k == 1 || (tableM s k == 2 && !(letterN k == 0)) || (tableM s k == 3 && s == 1 && !(letterN k == 0)) || (tableM s k == 4 && !(letterN k == 0))) (n := 10) (m := 15) (by kernel_rfl) h1 h2 h3 h4
  simp only [Bool.or_eq_true, Bool.and_eq_true, beq_iff_eq, Bool.not_eq_true'] at this
  rcases this with (((h | h) | h) | h) | h
  · exact .inl h
  · exact .inr (.inl h)
  · exact .inr (.inr (.inl h))
  · exact .inr (.inr (.inr (.inl ⟨h.1.1, h.1.2, h.2⟩)))
  · exact .inr (.inr (.inr (.inr h)))

set_option maxRecDepth 100000 in
set_option maxHeartbeats 4000000 in
theorem rulesCovered_walk (x : Int) (hw : (Lit.int .i64 x).wf = true) : SpecV Try.prog 8 #[.int .i64 x] emp (.bool true) emp := by
  intro E F w hs
  rw [star_emp] at hs
  go_enter Try.func8, Try.ntmps8
  go_wp2_with fail
  refine awake13.use0 hs ?_; intro w hs
  have m0 : 0 ≤ x % 256 := by omega
  have m1 : x % 256 < 256 := by omega
  go_upto_region 4 with (first | (refine wpL_mask 8 256 255 _ _ _ rfl rfl (by decide) rfl rfl rfl ?_))
  have g1 : 1 ≤ 1 + x % 256 % 15 := by omega
  have g2 : 1 + x % 256 % 15 ≤ 15 := by omega
  generalize 1 + x % 256 % 15 = k at *
  clear m0 m1 hw
  have Hwk := Lib.hid (WalkArith.wf_i64 (n := k) (by omega))
  obtain ⟨y, hy⟩ : ∃ y, letterN k = y := ⟨_, rfl⟩
  have Hy := Lib.hid hy
  have H15 := Lib.hid g2
  have H1k := Lib.hid g1
  clear g1 g2
  go_wp2_with fail
  go_loopw [3, 4, 5, 6, 7] (fun c i _ _ _ wr => ∃ (n : Nat) (s : Int), n ≤ 10 ∧ s = (n : Int) + 1 ∧ i = .int .i64 s ∧ c = .int .i64 (handled k n) ∧ Sat E F wr) (fun _ i _ _ _ _ => 11 - (intOf i).toNat)
  case atStart => exact ⟨0, 1, by omega, by omega, rfl, rfl, hs⟩
  case round =>
    clear hs
    obtain ⟨n, s, hn, hsn, rfl, rfl, hs⟩ := hrel
    have hc := handled_le k n
    by_cases h10 : s ≤ 10
    · have Hw := Lib.hid (WalkArith.wf_i64 (n := s) (by omega))
      have h1 : 1 ≤ s := by omega
      have Hsn := Lib.hid hsn
      have Hn := Lib.hid hn
      obtain ⟨c, hcc⟩ : ∃ c, handled k n = c := ⟨_, rfl⟩
      have hc' : c ≤ 10 := by omega
      have hnx : handled k (n + 1) = c + if tableM s k = 1 then 1 else 0 := by rw [← hcc, hsn]; rfl
      have Hnx := Lib.hid hnx
      have htw := tab_word h1 h10 H1k.out H15.out
      rw [hy] at htw
      have Hany := Lib.hid (any_all h1 h10)
      have H7 := Lib.hid (req7 h1 h10)
      rw [hcc]
      clear hnx hcc hc hy hn hsn
      rcases htw with h | h | ⟨h, hl⟩ | ⟨h, hs1, hl⟩ | ⟨h, hl⟩
      · have Hx := Lib.hid h
        have Ht := Lib.hid (show handled k (n + 1) = c by rw [Hnx.out, h]; rfl)
        clear h
        go_wp2_with (first
          | (go_at_call 21; ((with_reducible refine (ofV Hx.out Hw.out Hwk.out).use0 hs ?_); intro w hs))
          | (go_at_call 23; ((with_reducible refine (letterV Hy.out Hwk.out).use0 hs ?_); intro w hs)))
        go_loopw [6, 7] (fun sm q wr => ∃ (m : Nat) (qq : Int), m ≤ 11 ∧ qq = (m : Int) + 1 ∧ q = .int .i64 qq ∧ sm = .bool (anyM s m) ∧ Sat E F wr) (fun _ q _ => 12 - (intOf q).toNat)
        case atStart => exact ⟨0, 1, by omega, by omega, rfl, rfl, hs⟩
        case round =>
          clear hs
          obtain ⟨m, qq, hm, hq, rfl, rfl, hs⟩ := hrel
          by_cases h11 : qq ≤ 11
          · have Hq := Lib.hid hq
            have Hm := Lib.hid hm
            have q1 : 1 ≤ qq := by omega
            have Hwq := Lib.hid (WalkArith.wf_i64 (n := qq) (by omega))
            have hsn : anyM s (m + 1) = (anyM s m || (requestsM s qq == 1)) := by rw [hq]; rfl
            obtain ⟨r, hr⟩ : ∃ r, (requestsM s qq == 1) = r := ⟨_, rfl⟩
            rw [hr] at hsn
            have Hr := Lib.hid hr
            obtain ⟨b, hb⟩ : ∃ b, anyM s m = b := ⟨_, rfl⟩
            rw [hb] at hsn ⊢
            have Hs := Lib.hid hsn
            clear hsn hr hb hq hm
            cases b with
            | true =>
              go_wp2_with fail
              go_roundw
              case rel => exact ⟨m + 1, qq + 1, by have := Hq.out; omega, by have := Hq.out; omega, by go_num, by rw [Hs.out]; rfl, hs⟩
              case measure => simp [intOf]; omega
            | false =>
              go_wp2_with (first | (go_at_call 25; ((with_reducible refine (mayB Hr.out Hw.out Hwq.out).use0 hs ?_); intro w hs)))
              go_roundw
              case rel => exact ⟨m + 1, qq + 1, by have := Hq.out; omega, by have := Hq.out; omega, by go_num, by rw [Hs.out]; simp, hs⟩
              case measure => simp [intOf]; omega
          · obtain rfl : m = 11 := by omega
            obtain rfl : qq = 12 := by omega
            rw [Hany.out]
            clear hq hm h11
            by_cases h : s = 10
            · have H7' := Lib.hid (show (requestsM s 7 == 1) = true by rw [H7.out, h]; rfl)
              have hb : (s == 10) = true := by simp [h]
              clear h
              go_wp2_with (first | (go_at_call 25; ((with_reducible refine (mayB H7'.out Hw.out (by decide)).use0 hs ?_); intro w hs)))
              go_roundw
              case rel => exact ⟨n + 1, s + 1, by have := Hsn.out; omega, by have := Hsn.out; omega, by go_num, by rw [Ht.out] <;> go_num, hs⟩
              case measure => simp [intOf]; omega
            · have hb : (s == 10) = false := by simpa using h
              have H7' := Lib.hid (show (requestsM s 7 == 1) = false by rw [H7.out, hb])
              clear h
              go_wp2_with (first | (go_at_call 25; ((with_reducible refine (mayB H7'.out Hw.out (by decide)).use0 hs ?_); intro w hs)))
              go_roundw
              case rel => exact ⟨n + 1, s + 1, by have := Hsn.out; omega, by have := Hsn.out; omega, by go_num, by rw [Ht.out] <;> go_num, hs⟩
              case measure => simp [intOf]; omega
      · have Hx := Lib.hid h
        have Ht := Lib.hid (show handled k (n + 1) = c + 1 by rw [Hnx.out, h]; rfl)
        clear h
        go_wp2_with (first
          | (go_at_call 21; ((with_reducible refine (ofV Hx.out Hw.out Hwk.out).use0 hs ?_); intro w hs))
          | (go_at_call 23; ((with_reducible refine (letterV Hy.out Hwk.out).use0 hs ?_); intro w hs)))
        go_loopw [6, 7] (fun sm q wr => ∃ (m : Nat) (qq : Int), m ≤ 11 ∧ qq = (m : Int) + 1 ∧ q = .int .i64 qq ∧ sm = .bool (anyM s m) ∧ Sat E F wr) (fun _ q _ => 12 - (intOf q).toNat)
        case atStart => exact ⟨0, 1, by omega, by omega, rfl, rfl, hs⟩
        case round =>
          clear hs
          obtain ⟨m, qq, hm, hq, rfl, rfl, hs⟩ := hrel
          by_cases h11 : qq ≤ 11
          · have Hq := Lib.hid hq
            have Hm := Lib.hid hm
            have q1 : 1 ≤ qq := by omega
            have Hwq := Lib.hid (WalkArith.wf_i64 (n := qq) (by omega))
            have hsn : anyM s (m + 1) = (anyM s m || (requestsM s qq == 1)) := by rw [hq]; rfl
            obtain ⟨r, hr⟩ : ∃ r, (requestsM s qq == 1) = r := ⟨_, rfl⟩
            rw [hr] at hsn
            have Hr := Lib.hid hr
            obtain ⟨b, hb⟩ : ∃ b, anyM s m = b := ⟨_, rfl⟩
            rw [hb] at hsn ⊢
            have Hs := Lib.hid hsn
            clear hsn hr hb hq hm
            cases b with
            | true =>
              go_wp2_with fail
              go_roundw
              case rel => exact ⟨m + 1, qq + 1, by have := Hq.out; omega, by have := Hq.out; omega, by go_num, by rw [Hs.out]; rfl, hs⟩
              case measure => simp [intOf]; omega
            | false =>
              go_wp2_with (first | (go_at_call 25; ((with_reducible refine (mayB Hr.out Hw.out Hwq.out).use0 hs ?_); intro w hs)))
              go_roundw
              case rel => exact ⟨m + 1, qq + 1, by have := Hq.out; omega, by have := Hq.out; omega, by go_num, by rw [Hs.out]; simp, hs⟩
              case measure => simp [intOf]; omega
          · obtain rfl : m = 11 := by omega
            obtain rfl : qq = 12 := by omega
            rw [Hany.out]
            clear hq hm h11
            by_cases h : s = 10
            · have H7' := Lib.hid (show (requestsM s 7 == 1) = true by rw [H7.out, h]; rfl)
              have hb : (s == 10) = true := by simp [h]
              clear h
              go_wp2_with (first | (go_at_call 25; ((with_reducible refine (mayB H7'.out Hw.out (by decide)).use0 hs ?_); intro w hs)))
              go_roundw
              case rel => exact ⟨n + 1, s + 1, by have := Hsn.out; omega, by have := Hsn.out; omega, by go_num, by rw [Ht.out] <;> go_num, hs⟩
              case measure => simp [intOf]; omega
            · have hb : (s == 10) = false := by simpa using h
              have H7' := Lib.hid (show (requestsM s 7 == 1) = false by rw [H7.out, hb])
              clear h
              go_wp2_with (first | (go_at_call 25; ((with_reducible refine (mayB H7'.out Hw.out (by decide)).use0 hs ?_); intro w hs)))
              go_roundw
              case rel => exact ⟨n + 1, s + 1, by have := Hsn.out; omega, by have := Hsn.out; omega, by go_num, by rw [Ht.out] <;> go_num, hs⟩
              case measure => simp [intOf]; omega
      · have Hx := Lib.hid h
        have Ht := Lib.hid (show handled k (n + 1) = c by rw [Hnx.out, h]; rfl)
        clear h
        go_wp2_with (first
          | (go_at_call 21; ((with_reducible refine (ofV Hx.out Hw.out Hwk.out).use0 hs ?_); intro w hs))
          | (go_at_call 23; ((with_reducible refine (letterV Hy.out Hwk.out).use0 hs ?_); intro w hs)))
        go_loopw [6, 7] (fun sm q wr => ∃ (m : Nat) (qq : Int), m ≤ 11 ∧ qq = (m : Int) + 1 ∧ q = .int .i64 qq ∧ sm = .bool (anyM s m) ∧ Sat E F wr) (fun _ q _ => 12 - (intOf q).toNat)
        case atStart => exact ⟨0, 1, by omega, by omega, rfl, rfl, hs⟩
        case round =>
          clear hs
          obtain ⟨m, qq, hm, hq, rfl, rfl, hs⟩ := hrel
          by_cases h11 : qq ≤ 11
          · have Hq := Lib.hid hq
            have Hm := Lib.hid hm
            have q1 : 1 ≤ qq := by omega
            have Hwq := Lib.hid (WalkArith.wf_i64 (n := qq) (by omega))
            have hsn : anyM s (m + 1) = (anyM s m || (requestsM s qq == 1)) := by rw [hq]; rfl
            obtain ⟨r, hr⟩ : ∃ r, (requestsM s qq == 1) = r := ⟨_, rfl⟩
            rw [hr] at hsn
            have Hr := Lib.hid hr
            obtain ⟨b, hb⟩ : ∃ b, anyM s m = b := ⟨_, rfl⟩
            rw [hb] at hsn ⊢
            have Hs := Lib.hid hsn
            clear hsn hr hb hq hm
            cases b with
            | true =>
              go_wp2_with fail
              go_roundw
              case rel => exact ⟨m + 1, qq + 1, by have := Hq.out; omega, by have := Hq.out; omega, by go_num, by rw [Hs.out]; rfl, hs⟩
              case measure => simp [intOf]; omega
            | false =>
              go_wp2_with (first | (go_at_call 25; ((with_reducible refine (mayB Hr.out Hw.out Hwq.out).use0 hs ?_); intro w hs)))
              go_roundw
              case rel => exact ⟨m + 1, qq + 1, by have := Hq.out; omega, by have := Hq.out; omega, by go_num, by rw [Hs.out]; simp, hs⟩
              case measure => simp [intOf]; omega
          · obtain rfl : m = 11 := by omega
            obtain rfl : qq = 12 := by omega
            rw [Hany.out]
            clear hq hm h11
            by_cases h : s = 10
            · have H7' := Lib.hid (show (requestsM s 7 == 1) = true by rw [H7.out, h]; rfl)
              have hb : (s == 10) = true := by simp [h]
              clear h
              go_wp2_with (first | (go_at_call 25; ((with_reducible refine (mayB H7'.out Hw.out (by decide)).use0 hs ?_); intro w hs)))
              go_roundw
              case rel => exact ⟨n + 1, s + 1, by have := Hsn.out; omega, by have := Hsn.out; omega, by go_num, by rw [Ht.out] <;> go_num, hs⟩
              case measure => simp [intOf]; omega
            · have hb : (s == 10) = false := by simpa using h
              have H7' := Lib.hid (show (requestsM s 7 == 1) = false by rw [H7.out, hb])
              clear h
              go_wp2_with (first | (go_at_call 25; ((with_reducible refine (mayB H7'.out Hw.out (by decide)).use0 hs ?_); intro w hs)))
              go_roundw
              case rel => exact ⟨n + 1, s + 1, by have := Hsn.out; omega, by have := Hsn.out; omega, by go_num, by rw [Ht.out] <;> go_num, hs⟩
              case measure => simp [intOf]; omega
      · have Hx := Lib.hid h
        have Ht := Lib.hid (show handled k (n + 1) = c by rw [Hnx.out, h]; rfl)
        have hs1' : (s != 1) = false := by simpa using hs1
        clear h hs1
        go_wp2_with (first
          | (go_at_call 21; ((with_reducible refine (ofV Hx.out Hw.out Hwk.out).use0 hs ?_); intro w hs))
          | (go_at_call 23; ((with_reducible refine (letterV Hy.out Hwk.out).use0 hs ?_); intro w hs)))
        go_loopw [6, 7] (fun sm q wr => ∃ (m : Nat) (qq : Int), m ≤ 11 ∧ qq = (m : Int) + 1 ∧ q = .int .i64 qq ∧ sm = .bool (anyM s m) ∧ Sat E F wr) (fun _ q _ => 12 - (intOf q).toNat)
        case atStart => exact ⟨0, 1, by omega, by omega, rfl, rfl, hs⟩
        case round =>
          clear hs
          obtain ⟨m, qq, hm, hq, rfl, rfl, hs⟩ := hrel
          by_cases h11 : qq ≤ 11
          · have Hq := Lib.hid hq
            have Hm := Lib.hid hm
            have q1 : 1 ≤ qq := by omega
            have Hwq := Lib.hid (WalkArith.wf_i64 (n := qq) (by omega))
            have hsn : anyM s (m + 1) = (anyM s m || (requestsM s qq == 1)) := by rw [hq]; rfl
            obtain ⟨r, hr⟩ : ∃ r, (requestsM s qq == 1) = r := ⟨_, rfl⟩
            rw [hr] at hsn
            have Hr := Lib.hid hr
            obtain ⟨b, hb⟩ : ∃ b, anyM s m = b := ⟨_, rfl⟩
            rw [hb] at hsn ⊢
            have Hs := Lib.hid hsn
            clear hsn hr hb hq hm
            cases b with
            | true =>
              go_wp2_with fail
              go_roundw
              case rel => exact ⟨m + 1, qq + 1, by have := Hq.out; omega, by have := Hq.out; omega, by go_num, by rw [Hs.out]; rfl, hs⟩
              case measure => simp [intOf]; omega
            | false =>
              go_wp2_with (first | (go_at_call 25; ((with_reducible refine (mayB Hr.out Hw.out Hwq.out).use0 hs ?_); intro w hs)))
              go_roundw
              case rel => exact ⟨m + 1, qq + 1, by have := Hq.out; omega, by have := Hq.out; omega, by go_num, by rw [Hs.out]; simp, hs⟩
              case measure => simp [intOf]; omega
          · obtain rfl : m = 11 := by omega
            obtain rfl : qq = 12 := by omega
            rw [Hany.out]
            clear hq hm h11
            by_cases h : s = 10
            · have H7' := Lib.hid (show (requestsM s 7 == 1) = true by rw [H7.out, h]; rfl)
              have hb : (s == 10) = true := by simp [h]
              clear h
              go_wp2_with (first | (go_at_call 25; ((with_reducible refine (mayB H7'.out Hw.out (by decide)).use0 hs ?_); intro w hs)))
              go_roundw
              case rel => exact ⟨n + 1, s + 1, by have := Hsn.out; omega, by have := Hsn.out; omega, by go_num, by rw [Ht.out] <;> go_num, hs⟩
              case measure => simp [intOf]; omega
            · have hb : (s == 10) = false := by simpa using h
              have H7' := Lib.hid (show (requestsM s 7 == 1) = false by rw [H7.out, hb])
              clear h
              go_wp2_with (first | (go_at_call 25; ((with_reducible refine (mayB H7'.out Hw.out (by decide)).use0 hs ?_); intro w hs)))
              go_roundw
              case rel => exact ⟨n + 1, s + 1, by have := Hsn.out; omega, by have := Hsn.out; omega, by go_num, by rw [Ht.out] <;> go_num, hs⟩
              case measure => simp [intOf]; omega
      · have Hx := Lib.hid h
        have Ht := Lib.hid (show handled k (n + 1) = c by rw [Hnx.out, h]; rfl)
        clear h
        go_wp2_with (first
          | (go_at_call 21; ((with_reducible refine (ofV Hx.out Hw.out Hwk.out).use0 hs ?_); intro w hs))
          | (go_at_call 23; ((with_reducible refine (letterV Hy.out Hwk.out).use0 hs ?_); intro w hs)))
        go_loopw [6, 7] (fun sm q wr => ∃ (m : Nat) (qq : Int), m ≤ 11 ∧ qq = (m : Int) + 1 ∧ q = .int .i64 qq ∧ sm = .bool (anyM s m) ∧ Sat E F wr) (fun _ q _ => 12 - (intOf q).toNat)
        case atStart => exact ⟨0, 1, by omega, by omega, rfl, rfl, hs⟩
        case round =>
          clear hs
          obtain ⟨m, qq, hm, hq, rfl, rfl, hs⟩ := hrel
          by_cases h11 : qq ≤ 11
          · have Hq := Lib.hid hq
            have Hm := Lib.hid hm
            have q1 : 1 ≤ qq := by omega
            have Hwq := Lib.hid (WalkArith.wf_i64 (n := qq) (by omega))
            have hsn : anyM s (m + 1) = (anyM s m || (requestsM s qq == 1)) := by rw [hq]; rfl
            obtain ⟨r, hr⟩ : ∃ r, (requestsM s qq == 1) = r := ⟨_, rfl⟩
            rw [hr] at hsn
            have Hr := Lib.hid hr
            obtain ⟨b, hb⟩ : ∃ b, anyM s m = b := ⟨_, rfl⟩
            rw [hb] at hsn ⊢
            have Hs := Lib.hid hsn
            clear hsn hr hb hq hm
            cases b with
            | true =>
              go_wp2_with fail
              go_roundw
              case rel => exact ⟨m + 1, qq + 1, by have := Hq.out; omega, by have := Hq.out; omega, by go_num, by rw [Hs.out]; rfl, hs⟩
              case measure => simp [intOf]; omega
            | false =>
              go_wp2_with (first | (go_at_call 25; ((with_reducible refine (mayB Hr.out Hw.out Hwq.out).use0 hs ?_); intro w hs)))
              go_roundw
              case rel => exact ⟨m + 1, qq + 1, by have := Hq.out; omega, by have := Hq.out; omega, by go_num, by rw [Hs.out]; simp, hs⟩
              case measure => simp [intOf]; omega
          · obtain rfl : m = 11 := by omega
            obtain rfl : qq = 12 := by omega
            rw [Hany.out]
            clear hq hm h11
            by_cases h : s = 10
            · have H7' := Lib.hid (show (requestsM s 7 == 1) = true by rw [H7.out, h]; rfl)
              have hb : (s == 10) = true := by simp [h]
              clear h
              go_wp2_with (first | (go_at_call 25; ((with_reducible refine (mayB H7'.out Hw.out (by decide)).use0 hs ?_); intro w hs)))
              go_roundw
              case rel => exact ⟨n + 1, s + 1, by have := Hsn.out; omega, by have := Hsn.out; omega, by go_num, by rw [Ht.out] <;> go_num, hs⟩
              case measure => simp [intOf]; omega
            · have hb : (s == 10) = false := by simpa using h
              have H7' := Lib.hid (show (requestsM s 7 == 1) = false by rw [H7.out, hb])
              clear h
              go_wp2_with (first | (go_at_call 25; ((with_reducible refine (mayB H7'.out Hw.out (by decide)).use0 hs ?_); intro w hs)))
              go_roundw
              case rel => exact ⟨n + 1, s + 1, by have := Hsn.out; omega, by have := Hsn.out; omega, by go_num, by rw [Ht.out] <;> go_num, hs⟩
              case measure => simp [intOf]; omega
    · obtain rfl : n = 10 := by omega
      have hone := handled_one H1k.out H15.out
      generalize handled k 10 = c at *
      go_wp2_with fail
      go_ret
      exact ⟨by simp; omega, hs.mkEmp⟩

end Go.Proofs.Ytdjepkhpkmmhpaa
