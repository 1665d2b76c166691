/-
  The walk's steps: operations that make memory or write it; the answers of tests as facts. It speaks of no program.
-/
import Derived.Test.YtoeaamohchpjdaaEng4
import Derived.IntWalk
namespace Go.Proofs.Ytoeaamohchpjdaa
open Go Go.RowKit
set_option linter.unusedVariables false
set_option linter.unusedSimpArgs false

section
variable {P : Program} {ops : Array Oper} {rest : List Oper} {o : Oper} {w : World} {Q : Exit → Act → World → Prop} {l : List Value} {d : Nat} {β : Type}
theorem s_ex {g : β → Value} {Ψ : β → World → Prop} {l' : β → List Value} (hr : ∃ b w', (execOp (Fr l).eval o).run P w = .ok (.value (g b)) w' ∧ Ψ b w') (hd : o.dst = some d) (hg : Region.wanted o (yielded ops (Fr l).tmps) = true) (hp : ∀ b, putL l d (g b) = some (l' b))
    (hk : ∀ b w', Ψ b w' → wpList P ops Q rest (Fr (l' b)) w') : wpList P ops Q (o :: rest) (Fr l) w := by
  obtain ⟨b, w', hr, h⟩ := hr
  exact s_val hr hd hg (hp b) (hk b w' h)
theorem s_exQ {g : β → Value} {Ψ : β → Prop} {l' : β → List Value} (hr : ∃ b, (∀ w', (execOp (Fr l).eval o).run P w' = .ok (.value (g b)) w') ∧ Ψ b) (hd : o.dst = some d) (hg : Region.wanted o (yielded ops (Fr l).tmps) = true) (hp : ∀ b, putL l d (g b) = some (l' b))
    (hk : ∀ b, Ψ b → wpList P ops Q rest (Fr (l' b)) w) : wpList P ops Q (o :: rest) (Fr l) w := by
  obtain ⟨b, hr, h⟩ := hr
  exact s_val (hr w) hd hg (hp b) (hk b h)
theorem s_exS {Ψ : World → Prop} (hr : ∃ w', (execOp (Fr l).eval o).run P w = .ok .skip w' ∧ Ψ w') (hd : o.dst = none) (hg : Region.wanted o (yielded ops (Fr l).tmps) = true)
    (hk : ∀ w', Ψ w' → wpList P ops Q rest (Fr l) w') : wpList P ops Q (o :: rest) (Fr l) w := by
  obtain ⟨w', hr, h⟩ := hr
  exact s_skip hr hd hg (hk w' h)
end
section
variable {P : Program} {ops : Array Oper} {Q : Exit → Act → World → Prop} {S : World → Prop} {L : Act → World → Prop} {σ : List (Nat × Bool)} {l : List Value} {w : World} {o : Oper} {i d : Nat} {β : Type}
theorem h_ex {g : β → Value} {Ψ : β → World → Prop} {l' : β → List Value} (hi : ops[i]? = some o) (hr : ∃ b w', (execOp (Fr l).eval o).run P w = .ok (.value (g b)) w' ∧ Ψ b w') (hd : o.dst = some d) (hg : Region.wanted o (yielded ops (Fr l).tmps) = true) (hp : ∀ b, putL l d (g b) = some (l' b))
    (hk : ∀ b w', Ψ b w' → S w' ∧ wpHi P ops Q S L σ (Fr (l' b)) w') : wpHi P ops Q S L ((i, false) :: σ) (Fr l) w := by
  obtain ⟨b, w', hr, h⟩ := hr
  exact h_eff hi hd hg hr (hk b w' h).1 (hp b) (hk b w' h).2
theorem h_exS {Ψ : World → Prop} (hi : ops[i]? = some o) (hr : ∃ w', (execOp (Fr l).eval o).run P w = .ok .skip w' ∧ Ψ w') (hd : o.dst = none) (hg : Region.wanted o (yielded ops (Fr l).tmps) = true)
    (hk : ∀ w', Ψ w' → S w' ∧ wpHi P ops Q S L σ (Fr l) w') : wpHi P ops Q S L ((i, false) :: σ) (Fr l) w := by
  obtain ⟨w', hr, h⟩ := hr
  exact h_skip hi hd hg hr (hk w' h).1 (hk w' h).2
theorem h_exQ {g : β → Value} {Ψ : β → Prop} {l' : β → List Value} (hi : ops[i]? = some o) (hr : ∃ b, (∀ w', (execOp (Fr l).eval o).run P w' = .ok (.value (g b)) w') ∧ Ψ b) (hd : o.dst = some d) (hg : Region.wanted o (yielded ops (Fr l).tmps) = true) (hp : ∀ b, putL l d (g b) = some (l' b))
    (hk : ∀ b, Ψ b → wpHi P ops Q S L σ (Fr (l' b)) w) : wpHi P ops Q S L ((i, true) :: σ) (Fr l) w := by
  obtain ⟨b, hr, h⟩ := hr
  exact h_val hi hd hg (fun w' _ => hr w') (hp b) (hk b h)
theorem p_exQ {K : Act → Prop} {r : List Nat} {g : β → Value} {Ψ : β → Prop} {l' : β → List Value} (hi : ops[i]? = some o) (hr : ∃ b, (∀ w', (execOp (Fr l).eval o).run P w' = .ok (.value (g b)) w') ∧ Ψ b) (hd : o.dst = some d) (hg : Region.wanted o (yielded ops (Fr l).tmps) = true) (hp : ∀ b, putL l d (g b) = some (l' b))
    (hk : ∀ b, Ψ b → wpPre P ops K r (Fr (l' b))) : wpPre P ops K (i :: r) (Fr l) := by
  obtain ⟨b, hr, h⟩ := hr
  exact p_val hi hd hg hr (hp b) (hk b h)
theorem Holds.ext {E : World} {K A : HP} {w : World} (h : Sat E (K * A) w) : Holds E K w := ⟨A, h.eq (star_comm _ _)⟩
theorem Holds.ext2 {E : World} {K A B : HP} {w : World} (h : Sat E (K * A * B) w) : Holds E K w := Holds.ext (h.eq (star_assoc _ _ _))
theorem Holds.ext3 {E : World} {K A B C : HP} {w : World} (h : Sat E (K * A * B * C) w) : Holds E K w := Holds.ext2 (h.eq (star_assoc _ _ _))
end

section
variable {P : Program} {w : World} {l : List Value} {o : Oper} {α : Type} {sz : Nat} {f : α → List Value}
theorem isEl_add {v : Value} {m j k : Nat} {ad : Addr} (h : IsEl v (m + j) ad) : IsEl v (m + (j + k)) (ad.add k) := by
  obtain ⟨a, n, c, rfl, rfl⟩ := h
  exact ⟨a, n, c, rfl, by rw [add_add, Nat.add_assoc]⟩
/-- The address of an element. -/
theorem r_idx {t : TypeId} {x y : Operand} {k : IntKind} {v : Value} {i : Int} {m : Nat} {L : List α} {e : TypeId} {u : α} (ho : o.op = .indexAddr t x y) (hx0 : lookL l x = some v) (hy0 : lookL l y = some (.int k i)) (hr : ReadsL w sz f v L) (him : i = (m : Int)) (h1 : L[m]? = some u)
    (ht : P.underlying t = some (.slice e)) (hn : (P.info? e).isSome = true) (hsz : szOf P e = sz) :
    ∃ ad, (∀ w', (execOp (Fr l).eval o).run P w' = .ok (.value (.pointer (some ad))) w') ∧ IsEl v (m * sz + 0) ad := by
  have hx := lookL_eval hx0
  have hy := lookL_eval hy0
  subst him
  have hlt : m < L.length := (List.getElem?_eq_some_iff.1 h1).1
  obtain ⟨hl, ⟨rfl, h00⟩ | ⟨a, c, rfl, hc⟩⟩ := hr
  · omega
  · refine ⟨a.add (m * sz), fun w' => ?_, a, _, c, rfl, rfl⟩
    have hs := run_szOf (P := P) hn w'
    rw [hsz] at hs
    simp [execOp, ho, hx, hy, Instr.indexAt, asIntOf, run_underlying ht, hlt, hs]
theorem r_fieldG {s : TypeId} {x : Operand} {g k : Nat} {ad : Addr} (ho : o.op = .fieldAddr s x g) (hx : lookL l x = some (.pointer (some ad))) (hf : offOf P s g = some k) :
    (execOp (Fr l).eval o).run P w = .ok (.value (.pointer (some (ad.add k)))) w := by
  unfold offOf at hf
  split at hf
  · rename_i fs hu
    split at hf
    · rename_i fd hfd
      split at hf
      · rename_i i hi
        split at hf
        · cases hf
        · rename_i hz
          cases hf
          simp [execOp, ho, lookL_eval hx, Instr.fieldAt, run_underlying hu, hfd, Instr.sureAddr, fieldPlace, sizeOf, typeInfo, hi, hz]
      · cases hf
    · cases hf
  · cases hf
theorem r_notT {t : TypeId} {x : Operand} (ho : o.op = .unOp .not t x) (hx : lookL l x = some (.bool true)) : (execOp (Fr l).eval o).run P w = .ok (.value (.bool false)) w := by
  simp [execOp, ho, lookL_eval hx, Op.unary]
theorem r_notF {t : TypeId} {x : Operand} (ho : o.op = .unOp .not t x) (hx : lookL l x = some (.bool false)) : (execOp (Fr l).eval o).run P w = .ok (.value (.bool true)) w := by
  simp [execOp, ho, lookL_eval hx, Op.unary]
theorem wrapI {x : Int} (h : -9223372036854775808 ≤ x ∧ x ≤ 9223372036854775807) : IntKind.i64.wrap x = x := IntWalk.i64_in x h
end

theorem want_no {o : Oper} {lo : List Oper} {l : List Value} {j t : Nat} {want b : Bool} (h1 : o.guard = some (j, want)) (h2 : (lo[j]?).bind (·.dst) = some t) (h3 : nthL l t = some (.bool b)) (h4 : (b == want) = false) : Region.wanted o (yielded lo.toArray (Fr l).tmps) = false := by
  rw [nthL_eq] at h3
  simp only [Region.wanted, h1, yielded, List.getElem?_toArray, h2, Option.bind_some, h3]
  simpa using h4
theorem want_ud {o : Oper} {lo : List Oper} {l : List Value} {j t : Nat} {want : Bool} (h1 : o.guard = some (j, want)) (h2 : (lo[j]?).bind (·.dst) = some t) (h3 : nthL l t = some undef) : Region.wanted o (yielded lo.toArray (Fr l).tmps) = false := by
  rw [nthL_eq] at h3
  simp only [Region.wanted, h1, yielded, List.getElem?_toArray, h2, Option.bind_some, h3, undef]
  cases want <;> rfl
theorem want_yes {o : Oper} {lo : List Oper} {l : List Value} {j t : Nat} {want b : Bool} (h1 : o.guard = some (j, want)) (h2 : (lo[j]?).bind (·.dst) = some t) (h3 : nthL l t = some (.bool b)) (h4 : (b == want) = true) : Region.wanted o (yielded lo.toArray (Fr l).tmps) = true := by
  rw [nthL_eq] at h3
  simp only [Region.wanted, h1, yielded, List.getElem?_toArray, h2, Option.bind_some, h3]
  simpa using h4

section
variable {P : Program} {ops : Array Oper} {rest : List Oper} {o : Oper} {w w' : World} {Q : Exit → Act → World → Prop} {S : World → Prop} {L : Act → World → Prop} {σ : List (Nat × Bool)} {K : Act → Prop} {r : List Nat} {l l' : List Value} {d i : Nat} {v : Value}
theorem sVal (hr : (execOp (Fr l).eval o).run P w = .ok (.value v) w') (hk : wpList P ops Q rest (Fr l') w') (hd : o.dst = some d := by rfl) (hg : Region.wanted o (yielded ops (Fr l).tmps) = true := by rfl) (hp : putL l d v = some l' := by rfl) : wpList P ops Q (o :: rest) (Fr l) w := s_val hr hd hg hp hk
theorem hVal (hi : ops[i]? = some o) (hr : ∀ w', S w' → (execOp (Fr l).eval o).run P w' = .ok (.value v) w') (hk : wpHi P ops Q S L σ (Fr l') w) (hd : o.dst = some d := by rfl) (hg : Region.wanted o (yielded ops (Fr l).tmps) = true := by rfl) (hp : putL l d v = some l' := by rfl) : wpHi P ops Q S L ((i, true) :: σ) (Fr l) w := h_val hi hd hg hr hp hk
theorem hStep (hi : ops[i]? = some o) (hr : (execOp (Fr l).eval o).run P w = .ok (.value v) w) (hS : S w) (hk : wpHi P ops Q S L σ (Fr l') w) (hd : o.dst = some d := by rfl) (hg : Region.wanted o (yielded ops (Fr l).tmps) = true := by rfl) (hp : putL l d v = some l' := by rfl) : wpHi P ops Q S L ((i, false) :: σ) (Fr l) w := h_eff hi hd hg hr hS hp hk
theorem hStepB {c : Bool} {l' : Bool → List Value} (hi : ops[i]? = some o) (hr : (execOp (Fr l).eval o).run P w = .ok (.value (.bool c)) w) (hS : S w) (hk : ∀ c' : Bool, c' = c → wpHi P ops Q S L σ (Fr (l' c')) w) (hd : o.dst = some d := by rfl) (hg : Region.wanted o (yielded ops (Fr l).tmps) = true := by rfl) (hp : ∀ c, putL l d (.bool c) = some (l' c) := by intro c; rfl) : wpHi P ops Q S L ((i, false) :: σ) (Fr l) w := h_eff hi hd hg hr hS (hp c) (hk c rfl)
theorem pVal (hi : ops[i]? = some o) (hr : ∀ w', (execOp (Fr l).eval o).run P w' = .ok (.value v) w') (hk : wpPre P ops K r (Fr l')) (hd : o.dst = some d := by rfl) (hg : Region.wanted o (yielded ops (Fr l).tmps) = true := by rfl) (hp : putL l d v = some l' := by rfl) : wpPre P ops K (i :: r) (Fr l) := p_val hi hd hg hr hp hk
end

/-! ### The answers of tests, as facts -/
theorem eqT {x y : Int} (h : true = (x == y)) : x = y := by simpa using h.symm
theorem eqF {x y : Int} (h : false = (x == y)) : ¬ x = y := by simpa using h.symm
theorem neT {x y : Int} (h : true = (x != y)) : ¬ x = y := by simpa using h.symm
theorem neF {x y : Int} (h : false = (x != y)) : x = y := by simpa using h.symm
theorem decT' {p : Prop} [Decidable p] (h : true = decide p) : p := of_decide_eq_true h.symm
theorem decF' {p : Prop} [Decidable p] (h : false = decide p) : ¬ p := of_decide_eq_false h.symm
theorem gtT {x y : Int} (h : true = decide (x > y)) : y < x := of_decide_eq_true h.symm
theorem gtF {x y : Int} (h : false = decide (x > y)) : ¬ y < x := of_decide_eq_false h.symm
theorem geT {x y : Int} (h : true = decide (x ≥ y)) : y ≤ x := of_decide_eq_true h.symm
theorem geF {x y : Int} (h : false = decide (x ≥ y)) : ¬ y ≤ x := of_decide_eq_false h.symm
end Go.Proofs.Ytoeaamohchpjdaa
