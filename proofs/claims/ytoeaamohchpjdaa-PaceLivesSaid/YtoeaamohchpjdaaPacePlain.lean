/-
  Pace, in plain Lean: what its calls do to five timers is what the document says; who asks at once is never given up.
-/
import Derived.Test.YtoeaamohchpjdaaPace2
namespace Go.Proofs.Ytoeaamohchpjdaa
open Go Go.RowKit
set_option linter.unusedVariables false
set_option linter.unusedSimpArgs false

/-- Ticks that may be. -/
structure Ticks (T : List Int) : Prop where
  len : T.length = 5
  each : ∀ n ∈ T, 1 ≤ n ∧ n ≤ 1048576
  poll : T.getD 1 0 < T.getD 3 0
  keep : T.getD 2 0 < T.getD 3 0
/-! ### Five timers by their numbers -/
section
variable {a b c d e n : Int}
@[simp] theorem st0 : startL [a, b, c, d, e] 0 n = [clampT n, b, c, d, e] := rfl
@[simp] theorem st1 : startL [a, b, c, d, e] 1 n = [a, clampT n, c, d, e] := rfl
@[simp] theorem st2 : startL [a, b, c, d, e] 2 n = [a, b, clampT n, d, e] := rfl
@[simp] theorem st3 : startL [a, b, c, d, e] 3 n = [a, b, c, clampT n, e] := rfl
@[simp] theorem st4 : startL [a, b, c, d, e] 4 n = [a, b, c, d, clampT n] := rfl
@[simp] theorem sp0 : stopL [a, b, c, d, e] 0 = [0, b, c, d, e] := rfl
@[simp] theorem sp1 : stopL [a, b, c, d, e] 1 = [a, 0, c, d, e] := rfl
@[simp] theorem sp2 : stopL [a, b, c, d, e] 2 = [a, b, 0, d, e] := rfl
@[simp] theorem sp3 : stopL [a, b, c, d, e] 3 = [a, b, c, 0, e] := rfl
@[simp] theorem sp4 : stopL [a, b, c, d, e] 4 = [a, b, c, d, 0] := rfl
@[simp] theorem lf0 : leftL [a, b, c, d, e] 0 = a := rfl
@[simp] theorem lf1 : leftL [a, b, c, d, e] 1 = b := rfl
@[simp] theorem lf2 : leftL [a, b, c, d, e] 2 = c := rfl
@[simp] theorem lf3 : leftL [a, b, c, d, e] 3 = d := rfl
@[simp] theorem lf4 : leftL [a, b, c, d, e] 4 = e := rfl
end
theorem clamp_id {n : Int} (h : 1 ≤ n ∧ n ≤ 1048576) : clampT n = n := by unfold clampT; omega

/-- Ticks that may be, by their numbers. -/
theorem Ticks.five {T : List Int} (h : Ticks T) : ∃ p q r s t, T = [p, q, r, s, t] ∧ (1 ≤ p ∧ p ≤ 1048576) ∧ (1 ≤ q ∧ q ≤ 1048576) ∧ (1 ≤ r ∧ r ≤ 1048576) ∧ (1 ≤ s ∧ s ≤ 1048576) ∧ (1 ≤ t ∧ t ≤ 1048576) ∧ q < s ∧ r < s := by
  obtain ⟨hl, he, hp, hk⟩ := h
  match T, hl with
  | [p, q, r, s, t], _ =>
    exact ⟨p, q, r, s, t, rfl, he p (by simp), he q (by simp), he r (by simp), he s (by simp), he t (by simp), by simpa using hp, by simpa using hk⟩
theorem Bank.five {l : List Int} (h : Bank l) : ∃ a b c d e, l = [a, b, c, d, e] ∧ (0 ≤ a ∧ a ≤ 1048576) ∧ (0 ≤ b ∧ b ≤ 1048576) ∧ (0 ≤ c ∧ c ≤ 1048576) ∧ (0 ≤ d ∧ d ≤ 1048576) ∧ (0 ≤ e ∧ e ≤ 1048576) := by
  obtain ⟨hl, he⟩ := h
  match l, hl with
  | [p, q, r, s, t], _ => exact ⟨p, q, r, s, t, rfl, he p (by simp), he q (by simp), he r (by simp), he s (by simp), he t (by simp)⟩

/-- The document's: some started, some stopped. -/
def setL (l T on off : List Int) : List Int := on.foldl (fun l t => l.set t.toNat (T.getD t.toNat 0)) (off.foldl (fun l t => l.set t.toNat 0) l)
def rBegin (l T : List Int) : List Int := setL l T [1, 3] [2, 4]
def rEnd (l T : List Int) : List Int := setL l T [] [1, 2, 3, 4]
def rAgain (l T : List Int) : List Int := setL l T [0] []
def rEnough (l T : List Int) : List Int := setL l T [] [0]
def rWatch (l T : List Int) : List Int := if 0 < l.getD 3 0 then l else setL l T [3] []
def rBusy (l T : List Int) : List Int := if l.getD 2 0 = 0 ∧ l.getD 4 0 = 0 then l else rWatch (setL l T [1] [2, 4]) T
def rPolled (l T : List Int) (idle : Bool) : List Int := if idle then rWatch (setL l T [2] [1, 4]) T else rWatch (setL l T [1] [2, 4]) T
def rAnswered (l T : List Int) (idle : Bool) : List Int := if idle = true ∧ 0 < l.getD 2 0 then setL l T [4] [2, 3] else if 0 < l.getD 4 0 then l else setL l T [3] []

theorem begin_ref {l T : List Int} (hl : Bank l) (hT : Ticks T) : beginL l T = rBegin l T := by
  obtain ⟨a, b, c, d, e, rfl, ha, hb, hc, hd, he⟩ := hl.five
  obtain ⟨p, q, r, s, t, rfl, hp, hq, hr, hs, ht, h1, h2⟩ := hT.five
  simp [beginL, rBegin, setL, watchL, startT, endL, stopsL, clamp_id, *]
theorem end_ref {l T : List Int} (hl : Bank l) : endL l = rEnd l T := by
  obtain ⟨a, b, c, d, e, rfl, ha, hb, hc, hd, he⟩ := hl.five
  simp [rEnd, setL, endL, stopsL]
theorem again_ref {l T : List Int} (hl : Bank l) (hT : Ticks T) : startT l T 0 = rAgain l T := by
  obtain ⟨a, b, c, d, e, rfl, ha, hb, hc, hd, he⟩ := hl.five
  obtain ⟨p, q, r, s, t, rfl, hp, hq, hr, hs, ht, h1, h2⟩ := hT.five
  simp [rAgain, setL, startT, clamp_id, *]
theorem enough_ref {l T : List Int} (hl : Bank l) : stopL l 0 = rEnough l T := by
  obtain ⟨a, b, c, d, e, rfl, ha, hb, hc, hd, he⟩ := hl.five
  simp [rEnough, setL]
theorem busy_ref {l T : List Int} (hl : Bank l) (hT : Ticks T) : busyL l T = rBusy l T := by
  obtain ⟨a, b, c, d, e, rfl, ha, hb, hc, hd, he⟩ := hl.five
  obtain ⟨p, q, r, s, t, rfl, hp, hq, hr, hs, ht, h1, h2⟩ := hT.five
  by_cases k1 : 0 < c
  · simp [busyL, rBusy, rWatch, setL, watchL, startT, stopsL, clamp_id, show ¬ c = 0 by omega, *]
  · by_cases k2 : 0 < e
    · simp [busyL, rBusy, rWatch, setL, watchL, startT, stopsL, clamp_id, show ¬ e = 0 by omega, *]
    · simp [busyL, rBusy, show c = 0 by omega, show e = 0 by omega]
theorem polled_ref {l T : List Int} (hl : Bank l) (hT : Ticks T) (i : Bool) : polledL l T i = rPolled l T i := by
  obtain ⟨a, b, c, d, e, rfl, ha, hb, hc, hd, he⟩ := hl.five
  obtain ⟨p, q, r, s, t, rfl, hp, hq, hr, hs, ht, h1, h2⟩ := hT.five
  cases i <;> simp [polledL, rPolled, rWatch, setL, watchL, startT, stopsL, clamp_id, *]
theorem answered_ref {l T : List Int} (hl : Bank l) (hT : Ticks T) (i : Bool) : answeredL l T i = rAnswered l T i := by
  obtain ⟨a, b, c, d, e, rfl, ha, hb, hc, hd, he⟩ := hl.five
  obtain ⟨p, q, r, s, t, rfl, hp, hq, hr, hs, ht, h1, h2⟩ := hT.five
  cases i <;> simp [answeredL, rAnswered, setL, startT, stopsL, clamp_id, *]

def safeB (l : List Int) : Bool := leftL l 3 == 0 || decide (0 < leftL l 1) && decide (leftL l 1 < leftL l 3) || decide (0 < leftL l 2) && decide (leftL l 2 < leftL l 3)

theorem safe_iff {a b c d e : Int} : safeB [a, b, c, d, e] = true ↔ d = 0 ∨ (0 < b ∧ b < d) ∨ (0 < c ∧ c < d) := by
  show (d == 0 || decide (0 < b) && decide (b < d) || decide (0 < c) && decide (c < d)) = true ↔ _
  simp [or_assoc]

/-- What stays from a beginning on: whose idle phase runs isn't watched. -/
structure Live (l : List Int) : Prop where
  bank : Bank l
  idle : 0 < leftL l 4 → leftL l 3 = 0
theorem five_bank {a b c d e : Int} (ha : 0 ≤ a ∧ a ≤ 1048576) (hb : 0 ≤ b ∧ b ≤ 1048576) (hc : 0 ≤ c ∧ c ≤ 1048576) (hd : 0 ≤ d ∧ d ≤ 1048576) (he : 0 ≤ e ∧ e ≤ 1048576) : Bank [a, b, c, d, e] :=
  ⟨rfl, by intro n hn; simp at hn; omega⟩
theorem Live.five {l : List Int} (h : Live l) : ∃ a b c d e, l = [a, b, c, d, e] ∧ (0 ≤ a ∧ a ≤ 1048576) ∧ (0 ≤ b ∧ b ≤ 1048576) ∧ (0 ≤ c ∧ c ≤ 1048576) ∧ (0 ≤ d ∧ d ≤ 1048576) ∧ (0 ≤ e ∧ e ≤ 1048576) ∧ (0 < e → d = 0) := by
  obtain ⟨a, b, c, d, e, rfl, ha, hb, hc, hd, he⟩ := h.bank.five
  exact ⟨a, b, c, d, e, rfl, ha, hb, hc, hd, he, by simpa using h.idle⟩
theorem live_five {a b c d e : Int} (ha : 0 ≤ a ∧ a ≤ 1048576) (hb : 0 ≤ b ∧ b ≤ 1048576) (hc : 0 ≤ c ∧ c ≤ 1048576) (hd : 0 ≤ d ∧ d ≤ 1048576) (he : 0 ≤ e ∧ e ≤ 1048576) (h : 0 < e → d = 0) : Live [a, b, c, d, e] :=
  ⟨five_bank ha hb hc hd he, by simpa using h⟩

theorem Live.begin {l T : List Int} (hl : Bank l) (hT : Ticks T) : Live (beginL l T) := by
  obtain ⟨a, b, c, d, e, rfl, ha, hb, hc, hd, he⟩ := hl.five
  obtain ⟨p, q, r, s, t, rfl, hp, hq, hr, hs, ht, h1, h2⟩ := hT.five
  simp [beginL, watchL, startT, endL, stopsL, clamp_id, hq, hs]
  exact live_five ha (by omega) (by omega) (by omega) (by omega) (by omega)
theorem Live.again {l T : List Int} (hl : Live l) (hT : Ticks T) : Live (startT l T 0) := by
  obtain ⟨a, b, c, d, e, rfl, ha, hb, hc, hd, he, hi⟩ := hl.five
  obtain ⟨p, q, r, s, t, rfl, hp, hq, hr, hs, ht, h1, h2⟩ := hT.five
  simp [startT, clamp_id, hp]
  exact live_five (by omega) hb hc hd he hi
theorem Live.enough {l : List Int} (hl : Live l) : Live (stopL l 0) := by
  obtain ⟨a, b, c, d, e, rfl, ha, hb, hc, hd, he, hi⟩ := hl.five
  simp
  exact live_five (by omega) hb hc hd he hi
theorem Live.busy {l T : List Int} (hl : Live l) (hT : Ticks T) : Live (busyL l T) := by
  obtain ⟨a, b, c, d, e, rfl, ha, hb, hc, hd, he, hi⟩ := hl.five
  obtain ⟨p, q, r, s, t, rfl, hp, hq, hr, hs, ht, h1, h2⟩ := hT.five
  by_cases k1 : 0 < c ∨ 0 < e
  · by_cases k3 : 0 < d
    · simp [busyL, watchL, startT, stopsL, clamp_id, k1, k3, hq]
      exact live_five ha (by omega) (by omega) hd (by omega) (by omega)
    · simp [busyL, watchL, startT, stopsL, clamp_id, k1, k3, hq, hs]
      exact live_five ha (by omega) (by omega) (by omega) (by omega) (by omega)
  · simp [busyL, k1]; exact hl
theorem Live.polled {l T : List Int} (hl : Live l) (hT : Ticks T) (i : Bool) : Live (polledL l T i) := by
  obtain ⟨a, b, c, d, e, rfl, ha, hb, hc, hd, he, hi⟩ := hl.five
  obtain ⟨p, q, r, s, t, rfl, hp, hq, hr, hs, ht, h1, h2⟩ := hT.five
  by_cases k3 : 0 < d <;> cases i <;> simp [polledL, watchL, startT, stopsL, clamp_id, k3, hq, hr, hs] <;> exact live_five ha (by omega) (by omega) (by omega) (by omega) (by omega)
theorem Live.answered {l T : List Int} (hl : Live l) (hT : Ticks T) (i : Bool) : Live (answeredL l T i) := by
  obtain ⟨a, b, c, d, e, rfl, ha, hb, hc, hd, he, hi⟩ := hl.five
  obtain ⟨p, q, r, s, t, rfl, hp, hq, hr, hs, ht, h1, h2⟩ := hT.five
  by_cases k3 : 0 < c <;> by_cases k4 : 0 < e <;> cases i <;> simp [answeredL, startT, stopsL, clamp_id, k3, k4, ht, hs] <;> first | exact hl | exact live_five ha (by omega) (by omega) (by omega) (by omega) (by omega)
theorem Live.tick {l : List Int} (hl : Live l) : Live (tickL l) := by
  obtain ⟨a, b, c, d, e, rfl, ha, hb, hc, hd, he, hi⟩ := hl.five
  simp only [tickL, List.map, decT]
  exact live_five (by omega) (by omega) (by omega) (by omega) (by omega) (by omega)

theorem over_five (a b c d e : Int) : overL [a, b, c, d, e] = (if a = 1 then [0] else []) ++ ((if b = 1 then [1] else []) ++ ((if c = 1 then [2] else []) ++ ((if d = 1 then [3] else []) ++ (if e = 1 then [4] else [])))) := by
  simp [overL, overFrom]
theorem over_mem {l : List Int} (hl : Bank l) {t : Int} (ht : t ∈ overL l) : 0 ≤ t ∧ t < 5 ∧ leftL l t = 1 := by
  obtain ⟨a, b, c, d, e, rfl, ha, hb, hc, hd, he⟩ := hl.five
  rw [over_five] at ht
  simp only [List.mem_append] at ht
  rcases ht with ht | ht | ht | ht | ht <;> split at ht <;> simp at ht <;> subst ht <;> simp [*]
theorem mem_over {l : List Int} (hl : Bank l) {t : Int} (h0 : 0 ≤ t) (h5 : t < 5) (h : leftL l t = 1) : t ∈ overL l := by
  obtain ⟨a, b, c, d, e, rfl, ha, hb, hc, hd, he⟩ := hl.five
  rw [over_five]
  have : t = 0 ∨ t = 1 ∨ t = 2 ∨ t = 3 ∨ t = 4 := by omega
  rcases this with rfl | rfl | rfl | rfl | rfl <;> simp at h <;> simp [h]

def asksB (t : Int) : Bool := t == 1 || t == 2 || t == 4
/-- Who is safe isn't silent at the next tick; who is asked of nothing at it is safe behind it. -/
theorem safe_silent {l : List Int} (hl : Live l) (h : safeB l = true) : 3 ∉ overL l := by
  intro hm
  have := (over_mem hl.bank hm).2.2
  obtain ⟨a, b, c, d, e, rfl, ha, hb, hc, hd, he, hi⟩ := hl.five
  rw [safe_iff] at h
  simp only [lf3] at this
  omega
theorem safe_tick {l : List Int} (hl : Live l) (h : safeB l = true) (hq : ∀ t ∈ overL l, asksB t = false) : safeB (tickL l) = true := by
  have h1 : leftL l 1 ≠ 1 := fun e => by have := hq 1 (mem_over hl.bank (by omega) (by omega) e); simp [asksB] at this
  have h2 : leftL l 2 ≠ 1 := fun e => by have := hq 2 (mem_over hl.bank (by omega) (by omega) e); simp [asksB] at this
  obtain ⟨a, b, c, d, e, rfl, ha, hb, hc, hd, he, hi⟩ := hl.five
  rw [safe_iff] at h
  simp only [lf1, lf2] at h1 h2
  simp only [tickL, List.map, decT, safe_iff]
  omega
theorem safe_asked {l T : List Int} (hl : Live l) (hT : Ticks T) (i : Bool) : safeB (answeredL (polledL l T i) T i) = true := by
  obtain ⟨a, b, c, d, e, rfl, ha, hb, hc, hd, he, hi⟩ := hl.five
  obtain ⟨p, q, r, s, t, rfl, hp, hq, hr, hs, ht, h1, h2⟩ := hT.five
  by_cases k3 : 0 < d <;> cases i <;> simp [answeredL, polledL, watchL, startT, stopsL, clamp_id, k3, hq, hr, hs, ht, show 0 < r by omega] <;> rw [safe_iff] <;> omega
theorem safe_busy {l T : List Int} (hl : Live l) (hT : Ticks T) (h : 0 < leftL l 4) : safeB (busyL l T) = true := by
  obtain ⟨a, b, c, d, e, rfl, ha, hb, hc, hd, he, hi⟩ := hl.five
  obtain ⟨p, q, r, s, t, rfl, hp, hq, hr, hs, ht, h1, h2⟩ := hT.five
  simp at h
  have : d = 0 := hi h
  subst this
  simp [busyL, watchL, startT, stopsL, clamp_id, hq, hs, h]
  rw [safe_iff]; omega

/-- From a beginning on, let alone. -/
def freshL (T : List Int) (i : Int) : List Int := [0, max 0 (T.getD 1 0 - i), 0, max 0 (T.getD 3 0 - i), 0]
theorem fresh_zero {T : List Int} (hT : Ticks T) : beginL zeroL T = freshL T 0 := by
  obtain ⟨p, q, r, s, t, rfl, hp, hq, hr, hs, ht, h1, h2⟩ := hT.five
  simp [zeroL, beginL, watchL, startT, endL, stopsL, clamp_id, hq, hs, freshL]
  omega
theorem fresh_tick {T : List Int} (hT : Ticks T) (i : Int) (h0 : 0 ≤ i) : tickL (freshL T i) = freshL T (i + 1) := by
  simp only [tickL, freshL, List.map, decT]
  congr 1
  congr 1
  · omega
  · congr 1; congr 1; omega
theorem fresh_bank {T : List Int} (hT : Ticks T) (i : Int) (h0 : 0 ≤ i) : Bank (freshL T i) := by
  obtain ⟨p, q, r, s, t, rfl, hp, hq, hr, hs, ht, h1, h2⟩ := hT.five
  exact five_bank (by omega) (by simp; omega) (by omega) (by simp; omega) (by omega)
theorem fresh_over {T : List Int} (hT : Ticks T) (i : Int) (h0 : 0 ≤ i) {t : Int} (ht : t ∈ overL (freshL T i)) : (t = 1 ∧ i + 1 = T.getD 1 0) ∨ (t = 3 ∧ i + 1 = T.getD 3 0) := by
  have h := over_mem (fresh_bank hT i h0) ht
  obtain ⟨p, q, r, s, u, rfl, hp, hq, hr, hs, hu, h1, h2⟩ := hT.five
  obtain ⟨ha, hb, hc⟩ := h
  have : t = 0 ∨ t = 1 ∨ t = 2 ∨ t = 3 ∨ t = 4 := by omega
  simp only [freshL] at hc
  rcases this with rfl | rfl | rfl | rfl | rfl <;> simp at hc ⊢ <;> omega
theorem fresh_left {T : List Int} (i : Int) : leftL (freshL T i) 1 = max 0 (T.getD 1 0 - i) ∧ leftL (freshL T i) 3 = max 0 (T.getD 3 0 - i) := ⟨rfl, rfl⟩
theorem fresh_safe {T : List Int} (i : Int) (h : T.getD 3 0 ≤ i) : safeB (freshL T i) = true := by
  unfold freshL; rw [safe_iff]; omega
theorem fresh_none {T : List Int} (i : Int) (h : T.getD 3 0 ≤ i) (hT : Ticks T) (h0 : 0 ≤ i) : overL (freshL T i) = [] := by
  obtain ⟨p, q, r, s, u, rfl, hp, hq, hr, hs, hu, h1, h2⟩ := hT.five
  simp only [List.getD_cons_succ, List.getD_cons_zero] at h
  have e1 : max 0 (q - i) = 0 := by omega
  have e2 : max 0 (s - i) = 0 := by omega
  simp [freshL, over_five, e1, e2]

/-- In the idle phase, let alone. -/
def restL (T : List Int) (i : Int) : List Int := [0, 0, 0, 0, max 0 (T.getD 4 0 - i)]
theorem rest_zero {T : List Int} (hT : Ticks T) : answeredL (polledL (beginL zeroL T) T true) T true = restL T 0 := by
  obtain ⟨p, q, r, s, t, rfl, hp, hq, hr, hs, ht, h1, h2⟩ := hT.five
  simp [zeroL, beginL, polledL, answeredL, watchL, startT, endL, stopsL, clamp_id, hq, hr, hs, ht, restL, show 0 < s by omega, show 0 < r by omega]
  omega
theorem rest_tick {T : List Int} (i : Int) (h0 : 0 ≤ i) : tickL (restL T i) = restL T (i + 1) := by
  simp only [tickL, restL, List.map, decT]
  congr 5
  omega
theorem rest_bank {T : List Int} (hT : Ticks T) (i : Int) (h0 : 0 ≤ i) : Bank (restL T i) := by
  obtain ⟨p, q, r, s, t, rfl, hp, hq, hr, hs, ht, h1, h2⟩ := hT.five
  exact five_bank (by omega) (by omega) (by omega) (by omega) (by simp; omega)
theorem rest_none {T : List Int} (i : Int) (h : i + 1 < T.getD 4 0) : overL (restL T i) = [] := by
  have e : ¬ max 0 (T.getD 4 0 - i) = 1 := by omega
  unfold restL
  generalize max 0 (T.getD 4 0 - i) = m at *
  simp [over_five, e]
theorem rest_safe {T : List Int} (i : Int) : safeB (restL T i) = true := by unfold restL; rw [safe_iff]; omega
theorem rest_busy {T : List Int} (hT : Ticks T) (i : Int) (h : i < T.getD 4 0) : busyL (restL T i) T = [0, T.getD 1 0, 0, T.getD 3 0, 0] := by
  have e : 0 < max 0 (T.getD 4 0 - i) := by omega
  unfold restL
  generalize max 0 (T.getD 4 0 - i) = m at *
  obtain ⟨p, q, r, s, t, rfl, hp, hq, hr, hs, ht, h1, h2⟩ := hT.five
  simp [busyL, watchL, startT, stopsL, clamp_id, hq, hs, e]

end Go.Proofs.Ytoeaamohchpjdaa
