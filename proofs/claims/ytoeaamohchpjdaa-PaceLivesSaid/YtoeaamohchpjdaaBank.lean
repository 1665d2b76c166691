/-
  Five timers: what their calls do to the list of what is left.
-/
import Derived.Test.YtoeaamohchpjdaaTimer
namespace Go.Proofs.Ytoeaamohchpjdaa
open Go Go.RowKit
set_option linter.unusedVariables false
set_option maxRecDepth 100000

def hits (t : Int) (l : List Int) : Nat := (l.filter (fun x => decide (x = t))).length
theorem hits_snoc (t x : Int) (l : List Int) : hits t (l ++ [x]) = hits t l + if x = t then 1 else 0 := by
  simp only [hits, List.filter_append, List.length_append]
  congr 1
  by_cases h : x = t <;> simp [h]
theorem hits_over (t : Nat) : ∀ (l : List Int) (k : Nat), hits (t : Int) (overFrom k l) = if k ≤ t ∧ l[t - k]? = some 1 then 1 else 0
  | [], k => by simp [overFrom, hits]
  | n :: r, k => by
    have ih := hits_over t r (k + 1)
    have e : hits (t : Int) (overFrom k (n :: r)) = hits (t : Int) (if n = 1 then [(k : Int)] else []) + hits (t : Int) (overFrom (k + 1) r) := by
      simp only [overFrom, hits, List.filter_append, List.length_append]
    rw [e, ih]
    by_cases h1 : n = 1
    · by_cases h2 : k = t
      · subst h2; simp [hits, h1]; omega
      · by_cases h3 : k ≤ t
        · obtain ⟨d, hd⟩ : ∃ d, t - k = d + 1 := ⟨t - k - 1, by omega⟩
          have hd2 : t - (k + 1) = d := by omega
          simp [hits, h1, hd, hd2, show ¬ (k : Int) = (t : Int) by omega, h3, show k + 1 ≤ t by omega]
        · simp [hits, h1, show ¬ (k : Int) = (t : Int) by omega, h3, show ¬ k + 1 ≤ t by omega]
    · by_cases h2 : k = t
      · subst h2; simp [hits, h1]; omega
      · by_cases h3 : k ≤ t
        · obtain ⟨d, hd⟩ : ∃ d, t - k = d + 1 := ⟨t - k - 1, by omega⟩
          have hd2 : t - (k + 1) = d := by omega
          simp [hits, h1, hd, hd2, h3, show k + 1 ≤ t by omega]
        · simp [hits, h1, h3, show ¬ k + 1 ≤ t by omega]

theorem bk_rd (l : List Int) (hl : l.length = 5) : rd (bk l []) 0 (szOf Try.prog 35) true = some (.agg (l.map (Value.int .i64)).toArray) := by
  have : szOf Try.prog 35 = 5 := rfl
  rw [this]
  simp [rd, bk, hl]
  exact List.take_of_length_le (by simp [hl])
theorem bk_over (l m : List Int) (hl : l.length = 5) (hm : m.length = 5) : splice (bk m []) 0 (l.map (Value.int .i64)) = bk l [] := by
  simp [splice, bk, hl, hm]

/-- A bank of timers that may be. -/
structure Bank (l : List Int) : Prop where
  len : l.length = 5
  all : ∀ n ∈ l, 0 ≤ n ∧ n ≤ 1048576
theorem Bank.zero : Bank zeroL := ⟨rfl, by decide⟩
theorem Bank.start {l : List Int} (h : Bank l) (t n : Int) : Bank (startL l t n) := by
  unfold startL
  split
  · refine ⟨by simp [h.len], fun m hm => ?_⟩
    rcases List.mem_or_eq_of_mem_set hm with hm | rfl
    · exact h.all m hm
    · unfold clampT; omega
  · exact h
theorem Bank.stop {l : List Int} (h : Bank l) (t : Int) : Bank (stopL l t) := by
  unfold stopL
  split
  · refine ⟨by simp [h.len], fun m hm => ?_⟩
    rcases List.mem_or_eq_of_mem_set hm with hm | rfl
    · exact h.all m hm
    · omega
  · exact h
theorem Bank.tick {l : List Int} (h : Bank l) : Bank (tickL l) := by
  refine ⟨by simp [tickL, h.len], fun m hm => ?_⟩
  obtain ⟨n, hn, rfl⟩ := List.mem_map.1 hm
  have := h.all n hn
  unfold decT; omega

theorem bank_getD {l : List Int} (h : Bank l) (t : Int) (h0 : 0 ≤ t) (h5 : t < 5) : leftL l t = l.getD t.toNat 0 ∧ 0 ≤ leftL l t ∧ leftL l t ≤ 1048576 := by
  have : isT t = true := by simp [isT, h0, h5]
  have hlt : t.toNat < l.length := by rw [h.len]; omega
  have h2 := h.all l[t.toNat] (List.getElem_mem hlt)
  have e : leftL l t = l[t.toNat] := by simp [leftL, this, hlt]
  refine ⟨by simp [leftL, this], ?_⟩
  rw [e]; exact h2
theorem left_start {l : List Int} (h : l.length = 5) (t u n : Int) (h0 : 0 ≤ t) (h5 : t < 5) (hu0 : 0 ≤ u) (hu : u < 5) : leftL (startL l t n) u = if t = u then clampT n else leftL l u := by
  have h1 : isT t = true := by simp [isT, h0, h5]
  have h2 : isT u = true := by simp [isT, hu0, hu]
  have hlt : u.toNat < l.length := by omega
  simp only [leftL, startL, h1, h2, if_true, List.getD_eq_getElem?_getD, List.getElem?_set]
  by_cases e : t = u
  · subst e; simp [hlt]
  · simp [show ¬ t.toNat = u.toNat by omega, e]
theorem left_tick {l : List Int} (h : Bank l) (u : Int) (hu0 : 0 ≤ u) (hu : u < 5) : leftL (tickL l) u = decT (leftL l u) := by
  have h2 : isT u = true := by simp [isT, hu0, hu]
  have hlt : u.toNat < l.length := by have := h.len; omega
  simp [leftL, tickL, h2, List.getD_eq_getElem?_getD, hlt]
theorem hits_left {l : List Int} (h : Bank l) (u : Int) (hu0 : 0 ≤ u) (hu : u < 5) : hits u (overL l) = if leftL l u = 1 then 1 else 0 := by
  have h2 : isT u = true := by simp [isT, hu0, hu]
  have hlt : u.toNat < l.length := by have := h.len; omega
  have := hits_over u.toNat l 0
  rw [show ((u.toNat : Nat) : Int) = u by omega] at this
  simp only [overL, this, leftL, h2, if_true, List.getD_eq_getElem?_getD]
  simp [hlt]

end Go.Proofs.Ytoeaamohchpjdaa
