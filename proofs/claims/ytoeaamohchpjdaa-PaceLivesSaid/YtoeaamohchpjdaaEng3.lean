/-
  A region that draws its order: what only computes, or reads what is held, is taken first; what is left stands in a chain. It speaks of no program.
-/
import Derived.Test.YtoeaamohchpjdaaEng2
namespace Go.Proofs.Ytoeaamohchpjdaa
open Go Go.RowKit
set_option linter.unusedVariables false
set_option linter.unusedSimpArgs false

section
variable {P : Program} {ops : Array Oper} {Q : Exit → Act → World → Prop} {md : Region.Mode} {S : World → Prop}

/-- Whichever of the head's operations comes up next; L behind them all. -/
def wpHd (P : Program) (md : Region.Mode) (ops : Array Oper) (Q : Exit → Act → World → Prop) (S : World → Prop) (n : Nat) (L : Array Bool → Act → World → Prop) : Nat → Array Bool → Act → World → Prop
  | 0, listed, a, w => L listed a w
  | f + 1, listed, a, w => Region.ready md ops listed ≠ [] ∧ ∀ i ∈ Region.ready md ops listed, i < n ∧ wpOp P ops Q i (fun a' w' => S w' ∧ wpHd P md ops Q S n L f (listed.setIfInBounds i true) a' w') a w
theorem wpAny_of_hd {n g : Nat} {L : Array Bool → Act → World → Prop} (hL : ∀ listed a w, L listed a w → wpAny P md ops Q g listed a w) :
    ∀ (f : Nat) (listed : Array Bool) (a : Act) (w : World), wpHd P md ops Q S n L f listed a w → wpAny P md ops Q (f + g) listed a w
  | 0, listed, a, w, h => by rw [Nat.zero_add]; exact hL _ _ _ h
  | f + 1, listed, a, w, h => by
    rw [show f + 1 + g = (f + g) + 1 by omega]
    exact ⟨fun h0 => absurd h0 h.1, fun i hi => wpOp_mono (fun a' w' h' => wpAny_of_hd hL f _ a' w' h'.2) (h.2 i hi).2⟩

/-- While something of the head is to come, nothing of the tail may come up (l0: what has come up already). -/
def HeadFirst (md : Region.Mode) (ops : Array Oper) (n : Nat) (l0 : Array Bool) : Prop :=
  ∀ listed, HeadInv md ops n listed → (∀ i, l0.getD i false = true → listed.getD i false = true) → ∀ i, i < n → listed.getD i true = false → ∀ j ∈ Region.ready md ops listed, j < n
def sinkB (md : Region.Mode) (ops : Array Oper) (n : Nat) (l0 : Array Bool) : Bool :=
  (List.range n).all fun i => l0.getD i false || (List.range (n + 1)).any fun j => decide (i < j) && Region.waitsFor md ops j i
theorem headFirst_tail {n : Nat} {l0 : Array Bool} (hs : sinkB md ops n l0 = true) (hc : Region.chainB md ops n = true) (hn : n < ops.size) : HeadFirst md ops n l0 := by
  intro listed inv hsup
  have key : ∀ (d i : Nat), n - i = d → i < n → listed.getD i true = false → ∀ t, n ≤ t → t ∉ Region.ready md ops listed := by
    intro d
    induction d using Nat.strongRecOn with
    | _ d ih =>
      intro i hd hi hun t ht hr
      obtain ⟨_, ot, hot, hall⟩ := mem_ready.1 hr
      have htlt : t < ops.size := (Array.getElem?_eq_some_iff.1 hot).1
      by_cases htn : t = n
      · subst htn
        have h1 := List.all_eq_true.1 hs i (List.mem_range.2 hi)
        simp only [Bool.or_eq_true] at h1
        rcases h1 with h1 | h1
        · have := hsup i h1
          rw [getD_both hun] at this; cases this
        · obtain ⟨j, hj, hj2⟩ := List.any_eq_true.1 h1
          simp only [Bool.and_eq_true, decide_eq_true_eq] at hj2
          obtain ⟨oj, hoj, e, he, hb, hon⟩ := Region.waitsFor_spec hj2.2
          have hjle : j ≤ t := by have := List.mem_range.1 hj; omega
          by_cases hjt : j = t
          · subst hjt
            have : oj = ot := Option.some.inj (hoj.symm.trans hot)
            subst this
            have h2 := hall e he hb
            rw [hon, getD_both hun] at h2
            cases h2
          · cases hl : listed.getD j false with
            | true =>
              have h2 := inv.closed j oj hoj hl e he hb
              rw [hon, getD_both hun] at h2
              cases h2
            | false =>
              have hjs : j < listed.size := by rw [inv.size]; omega
              exact ih (t - j) (by omega) j rfl (by omega) (getD_in hjs hl) t (Nat.le_refl _) hr
      · have h1 := List.all_eq_true.1 hc t (List.mem_range.2 htlt)
        simp only [Bool.or_eq_true, decide_eq_true_eq] at h1
        rcases h1 with h1 | h1
        · omega
        · obtain ⟨o', ho', e, he, hb, hon⟩ := Region.waitsFor_spec h1
          have : o' = ot := Option.some.inj (ho'.symm.trans hot)
          subst this
          have h2 := hall e he hb
          rw [hon, getD_both (inv.tail (t - 1) (by omega) (by omega))] at h2
          cases h2
  intro i hin hun j hj
  rcases Nat.lt_or_ge j n with h | h
  · exact h
  · exact absurd hj (key _ i rfl hin hun j h)
def directB (md : Region.Mode) (ops : Array Oper) (n : Nat) (l0 : Array Bool) : Bool :=
  (List.range ops.size).all fun t => decide (t < n) || (List.range n).all fun i => l0.getD i false || Region.waitsFor md ops t i
theorem headFirst_direct {n : Nat} {l0 : Array Bool} (hs : directB md ops n l0 = true) : HeadFirst md ops n l0 := by
  intro listed inv hsup i hin hun j hj
  rcases Nat.lt_or_ge j n with h | h
  · exact h
  · exfalso
    obtain ⟨_, oj, hoj, hall⟩ := mem_ready.1 hj
    have hjlt : j < ops.size := (Array.getElem?_eq_some_iff.1 hoj).1
    have h1 := List.all_eq_true.1 hs j (List.mem_range.2 hjlt)
    simp only [Bool.or_eq_true, decide_eq_true_eq] at h1
    rcases h1 with h1 | h1
    · omega
    · have h2 := List.all_eq_true.1 h1 i (List.mem_range.2 hin)
      simp only [Bool.or_eq_true] at h2
      rcases h2 with h2 | h2
      · have := hsup i h2
        rw [getD_both hun] at this; cases this
      · obtain ⟨o', ho', e, he, hb, hon⟩ := Region.waitsFor_spec h2
        have : o' = oj := Option.some.inj (ho'.symm.trans hoj)
        subst this
        have h3 := hall e he hb
        rw [hon, getD_both hun] at h3
        cases h3
theorem headFirst_all {l0 : Array Bool} : HeadFirst md ops ops.size l0 := fun listed inv _ i hin hun j hj => by
  obtain ⟨_, oj, hoj, _⟩ := mem_ready.1 hj
  exact (Array.getElem?_eq_some_iff.1 hoj).1
theorem sup_set {l0 listed : Array Bool} {i : Nat} (h : ∀ i, l0.getD i false = true → listed.getD i false = true) : ∀ k, l0.getD k false = true → (listed.setIfInBounds i true).getD k false = true := fun k hk => getD_set_true (h k hk)

theorem wpHd_first {n i : Nat} {l0 : Array Bool} {oi : Oper} {v : Value} {L : Array Bool → Act → World → Prop} (hi : ops[i]? = some oi) (hsel : ∀ (j : Nat) (o : Oper) cs b, ops[j]? = some o → o.op ≠ .select cs b)
    (hH : HeadFirst md ops n l0) (hin : i < n) (hQ : ∀ c a w, Q (.panic c) (a.put oi.dst v) w → Q (.panic c) a w)
    (hdone : ∀ listed a w, L listed a w → ∀ j ∈ Region.ready md ops listed, n ≤ j) :
    ∀ (f : Nat) (listed : Array Bool) (a : Act) (w : World), HeadInv md ops n listed → (∀ i, l0.getD i false = true → listed.getD i false = true) →
      (∀ j oj, ops[j]? = some oj → j ≠ i → listed.getD j true = false → (∀ e ∈ oj.after, Region.binds md e = true → e.on ≠ i) → oi.apart ops oj = true) →
      i ∈ Region.ready md ops listed → YieldsIf P ops S oi v a → S w →
      wpHd P md ops Q S n L f (listed.setIfInBounds i true) (a.put oi.dst v) w → wpHd P md ops Q S n L (f + 1) listed a w := by
  intro f
  induction f with
  | zero =>
    intro listed a w inv hsup _ hr hy hS H
    have hun := (mem_ready.1 hr).1
    refine ⟨fun h => (by rw [h] at hr; cases hr), fun j hj => ?_⟩
    have hjn := hH listed inv hsup i hin hun j hj
    refine ⟨hjn, ?_⟩
    by_cases hji : j = i
    · subst hji; exact hy.wpOp hi hS ⟨hS, H⟩
    · have := hdone _ _ _ H j (ready_mono hj hji)
      omega
  | succ f ih =>
    intro listed a w inv hsup hfree hr hy hS H
    have hun := (mem_ready.1 hr).1
    refine ⟨fun h => (by rw [h] at hr; cases hr), fun j hj => ?_⟩
    have hjn := hH listed inv hsup i hin hun j hj
    refine ⟨hjn, ?_⟩
    by_cases hji : j = i
    · subst hji; exact hy.wpOp hi hS ⟨hS, H⟩
    · have h1 := (H.2 j (ready_mono hj hji)).2
      obtain ⟨hjun, oj, hoj, hall⟩ := mem_ready.1 hj
      have hnot : ∀ e ∈ oj.after, Region.binds md e = true → e.on ≠ i := fun e he hb heq => by
        have h1 := hall e he hb
        rw [heq, getD_both hun] at h1
        cases h1
      have h2 := wpOp_putIf hoj (hfree j oj hoj hji hjun hnot) (fun cs b => hsel i oi cs b hi) (fun cs b => hsel j oj cs b hoj) hQ hy h1
      have hfree' : ∀ k ok, ops[k]? = some ok → k ≠ i → (listed.setIfInBounds j true).getD k true = false →
          (∀ e ∈ ok.after, Region.binds md e = true → e.on ≠ i) → oi.apart ops ok = true := fun k ok hk hki hun' hno => by
        refine hfree k ok hk hki ?_ hno
        by_cases hjk : j = k
        · subst hjk; exact hjun
        · rw [getD_set_ne true hjk] at hun'; exact hun'
      refine wpOp_mono (fun a' w' h3 => ⟨h3.2.1, ih (listed.setIfInBounds j true) a' w' (inv.set hj hjn) (sup_set hsup) hfree' (ready_mono hr (Ne.symm hji)) h3.1 h3.2.1 ?_⟩) h2
      rw [Array.setIfInBounds_comm _ _ hji]
      exact h3.2.2

/-- The head in an order: (i, true): taken first; (i, false): nothing else may come up. -/
def wpHi (P : Program) (ops : Array Oper) (Q : Exit → Act → World → Prop) (S : World → Prop) (L : Act → World → Prop) : List (Nat × Bool) → Act → World → Prop
  | [], a, w => L a w
  | (i, true) :: r, a, w => ∃ o v, ops[i]? = some o ∧ YieldsIf P ops S o v a ∧ wpHi P ops Q S L r (a.put o.dst v) w
  | (i, false) :: r, a, w => wpOp P ops Q i (fun a' w' => S w' ∧ wpHi P ops Q S L r a' w') a w
def preL : List Nat → Array Bool → Array Bool
  | [], listed => listed
  | i :: r, listed => preL r (listed.setIfInBounds i true)
def headB (md : Region.Mode) (ops : Array Oper) (n : Nat) : List (Nat × Bool) → Array Bool → Bool
  | [], listed => (Region.ready md ops listed).all fun j => decide (n ≤ j)
  | (i, true) :: r, listed => decide (i < n) && (Region.ready md ops listed).contains i && Region.free md ops listed i && headB md ops n r (listed.setIfInBounds i true)
  | (i, false) :: r, listed => decide (i < n) && decide (Region.ready md ops listed = [i]) && headB md ops n r (listed.setIfInBounds i true)
theorem wpHi_hd {n : Nat} {l0 l1 : Array Bool} {Lq : Act → World → Prop} (hsel : Region.noSelect ops = true) (hH : HeadFirst md ops n l0) (hQ : ∀ c a d v w, Q (.panic c) (Act.put a d v) w → Q (.panic c) a w) :
    ∀ (σ : List (Nat × Bool)) (listed : Array Bool) (a : Act) (w : World), HeadInv md ops n listed → (∀ i, l0.getD i false = true → listed.getD i false = true) → headB md ops n σ listed = true → preL (σ.map (·.1)) listed = l1 → S w → wpHi P ops Q S Lq σ a w →
    wpHd P md ops Q S n (fun listed' a' w' => (listed' = l1 ∧ ∀ j ∈ Region.ready md ops listed', n ≤ j) ∧ Lq a' w') σ.length listed a w
  | [], listed, a, w, _, _, hB, hl, _, h => ⟨⟨hl, fun j hj => by
      simp only [headB, List.all_eq_true, decide_eq_true_eq] at hB
      exact hB j hj⟩, h⟩
  | (i, true) :: r, listed, a, w, inv, hsup, hB, hl, hS, h => by
    simp only [headB, Bool.and_eq_true, decide_eq_true_eq] at hB
    obtain ⟨⟨⟨hin, hr⟩, hf⟩, hB'⟩ := hB
    obtain ⟨o, v, ho, hy, hk⟩ := h
    have hr' : i ∈ Region.ready md ops listed := by simpa using hr
    exact wpHd_first ho (Region.noSelect_spec hsel) hH hin (fun c a w => hQ c a _ _ w) (fun listed' a' w' hL => hL.1.2) r.length listed a w inv hsup (Region.free_spec ho hf) hr' hy hS
      (wpHi_hd hsel hH hQ r _ _ w (inv.set hr' hin) (sup_set hsup) hB' hl hS hk)
  | (i, false) :: r, listed, a, w, inv, hsup, hB, hl, hS, h => by
    simp only [headB, Bool.and_eq_true, decide_eq_true_eq] at hB
    obtain ⟨⟨hin, hr⟩, hB'⟩ := hB
    have hr' : i ∈ Region.ready md ops listed := by rw [hr]; simp
    refine ⟨by rw [hr]; simp, fun j hj => ?_⟩
    have hji : j = i := by rw [hr] at hj; simpa using hj
    subst hji
    exact ⟨hin, wpOp_mono (fun a' w' h' => ⟨h'.1, wpHi_hd hsel hH hQ r _ a' w' (inv.set hr' hin) (sup_set hsup) hB' hl h'.1 h'.2⟩) h⟩

/-- What only computes, taken first of all. -/
def wpPre (P : Program) (ops : Array Oper) (K : Act → Prop) : List Nat → Act → Prop
  | [], a => K a
  | i :: r, a => ∃ o v, ops[i]? = some o ∧ Yields P ops o v a ∧ wpPre P ops K r (a.put o.dst v)
def preB (md : Region.Mode) (ops : Array Oper) : List Nat → Array Bool → Bool
  | [], _ => true
  | i :: r, listed => (Region.ready md ops listed).contains i && Region.free md ops listed i && preB md ops r (listed.setIfInBounds i true)
theorem wpPre_any {w : World} (hsel : Region.noSelect ops = true) (hQ : ∀ c a d v w, Q (.panic c) (Act.put a d v) w → Q (.panic c) a w) {K : Act → Prop} {fuel : Nat} :
    ∀ (pre : List Nat) (listed : Array Bool) (a : Act), preB md ops pre listed = true → (∀ a', K a' → wpAny P md ops Q fuel (preL pre listed) a' w) → wpPre P ops K pre a → wpAny P md ops Q (fuel + pre.length) listed a w
  | [], listed, a, _, hK, h => hK a h
  | i :: r, listed, a, hB, hK, h => by
    simp only [preB, Bool.and_eq_true] at hB
    obtain ⟨⟨hr, hf⟩, hB'⟩ := hB
    obtain ⟨o, v, ho, hy, hk⟩ := h
    have ih := wpPre_any hsel hQ r (listed.setIfInBounds i true) (a.put o.dst v) hB' hK hk
    rw [List.length_cons, ← Nat.add_assoc]
    exact wpAny_take ho hsel hf hr (fun c a w => hQ c a _ _ w) hy ih
/-- The list of those that have come up is closed: whoever came up, came up behind those it waits for. -/
def closedB (md : Region.Mode) (ops : Array Oper) (listed : Array Bool) : Bool :=
  decide (listed.size = ops.size) && (List.range ops.size).all fun j => !listed.getD j false || match ops[j]? with
    | some oj => oj.after.all fun e => !Region.binds md e || listed.getD e.on false
    | none => true
def tailB (ops : Array Oper) (n : Nat) (listed : Array Bool) : Bool := (List.range ops.size).all fun t => decide (t < n) || !listed.getD t true
theorem inv_of {n : Nat} {listed : Array Bool} (hc : closedB md ops listed = true) (ht : tailB ops n listed = true) : HeadInv md ops n listed := by
  simp only [closedB, Bool.and_eq_true, decide_eq_true_eq] at hc
  obtain ⟨h1, h2⟩ := hc
  refine ⟨h1, fun j oj hj hl e he hb => ?_, fun t ht' htl => ?_⟩
  · have h3 := List.all_eq_true.1 h2 j (List.mem_range.2 (Array.getElem?_eq_some_iff.1 hj).1)
    simp only [hl, Bool.not_true, Bool.false_or, hj] at h3
    have h4 := Array.all_eq_true'.1 h3 e he
    simpa [hb] using h4
  · have h3 := List.all_eq_true.1 ht t (List.mem_range.2 htl)
    simp only [Bool.or_eq_true, decide_eq_true_eq, Bool.not_eq_true'] at h3
    rcases h3 with h3 | h3
    · omega
    · exact h3
def firstB (md : Region.Mode) (ops : Array Oper) (n : Nat) (l0 : Array Bool) : Bool :=
  decide (n = ops.size) || directB md ops n l0 || (decide (n < ops.size) && sinkB md ops n l0 && Region.chainB md ops n)
theorem headFirst_of {n : Nat} {l0 : Array Bool} (h : firstB md ops n l0 = true) : HeadFirst md ops n l0 := by
  simp only [firstB, Bool.or_eq_true, Bool.and_eq_true, decide_eq_true_eq] at h
  rcases h with (h | h) | h
  · subst h; exact headFirst_all
  · exact headFirst_direct h
  · exact headFirst_tail h.1.2 h.2 h.1.1

/-! ### A region that draws, stage by stage -/
theorem d_start {id : Nat} {l : List Oper} {a : Act} {w : World} (hm : P.follows .mixedOrders = true)
    (h : wpAny P .any l.toArray Q l.toArray.size (Array.replicate l.toArray.size false) a w.drew) : (Code.region id l.toArray true).wp P Q a w := wp_region_any hm h
theorem d_pre {l : List Oper} {a : Act} {w : World} {listed : Array Bool} (pre : List Nat) {fuel g : Nat} (hB : (Region.noSelect l.toArray && preB .any l.toArray pre listed && decide (fuel = g + pre.length)) = true)
    (hQ : ∀ c a d v w, Q (.panic c) (Act.put a d v) w → Q (.panic c) a w)
    (h : wpPre P l.toArray (fun a => wpAny P .any l.toArray Q g (preL pre listed) a w) pre a) : wpAny P .any l.toArray Q fuel listed a w := by
  simp only [Bool.and_eq_true, decide_eq_true_eq] at hB
  obtain ⟨⟨hsel, hp⟩, rfl⟩ := hB
  exact wpPre_any hsel hQ pre listed a hp (fun _ h => h) h
theorem d_head {l : List Oper} {a : Act} {w : World} {listed : Array Bool} (n : Nat) (σ : List (Nat × Bool)) (S : World → Prop) {fuel g : Nat}
    (hB : (Region.noSelect l.toArray && closedB .any l.toArray listed && tailB l.toArray n listed && firstB .any l.toArray n listed && headB .any l.toArray n σ listed && decide (fuel = σ.length + g)) = true)
    (hQ : ∀ c a d v w, Q (.panic c) (Act.put a d v) w → Q (.panic c) a w) (hS : S w)
    (h : wpHi P l.toArray Q S (fun a' w' => wpAny P .any l.toArray Q g (preL (σ.map (·.1)) listed) a' w') σ a w) : wpAny P .any l.toArray Q fuel listed a w := by
  simp only [Bool.and_eq_true, decide_eq_true_eq] at hB
  obtain ⟨⟨⟨⟨⟨hsel, hc⟩, ht⟩, hf⟩, hh⟩, rfl⟩ := hB
  have H := wpHi_hd (md := .any) hsel (headFirst_of hf) hQ σ listed a w (inv_of hc ht) (fun _ h => h) hh rfl hS h
  exact wpAny_of_hd (md := .any) (g := g) (fun listed' a' w' hL => by rw [hL.1.1]; exact hL.2) _ _ _ _ H
theorem d_tail {l : List Oper} {a : Act} {w : World} {listed : Array Bool} (n : Nat) {fuel : Nat} (hB : (Region.seqB .any l.toArray fuel n listed && decide (fuel = (l.drop n).length)) = true)
    (h : wpList P l.toArray Q (l.drop n) a w) : wpAny P .any l.toArray Q fuel listed a w := by
  simp only [Bool.and_eq_true, decide_eq_true_eq] at hB
  obtain ⟨h1, rfl⟩ := hB
  exact wpAny_of_seq (md := .any) (Q' := Q) (l.drop n) n listed a w (fun j => by simp [List.getElem?_drop]) h1 h
end
end Go.Proofs.Ytoeaamohchpjdaa
