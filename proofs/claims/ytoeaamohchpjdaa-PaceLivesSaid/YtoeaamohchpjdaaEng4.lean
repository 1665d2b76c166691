/-
  The walk's steps in a region's head; slices of data, appended to, indexed, read and written. It speaks of no program.
-/
import Derived.Test.YtoeaamohchpjdaaEng3
namespace Go.Proofs.Ytoeaamohchpjdaa
open Go Go.RowKit
set_option linter.unusedVariables false
set_option linter.unusedSimpArgs false

/-- Among all that holds: this. -/
def Holds (E : World) (K : HP) (w : World) : Prop := ∃ R, Sat E (R * K) w
theorem Holds.self {E : World} {H : HP} {w : World} (h : Sat E H w) : Holds E H w := ⟨emp, h.eq (emp_star H).symm⟩
theorem Holds.of {E : World} {H K R : HP} {w : World} (h : Sat E H w) (c : Cut H K R) : Holds E K w := ⟨R, h.cut c⟩
theorem Holds.but {E : World} {H A K : HP} {w : World} (h : Sat E H w) (c : Cut H A K) : Holds E K w := ⟨A, (h.cut c).swap⟩
theorem Holds.cut {E : World} {K A R : HP} {w : World} (h : Holds E K w) (c : Cut K A R) : ∃ R', Sat E (R' * A) w := by
  obtain ⟨R0, h⟩ := h
  exact ⟨R0 * R, h.eq (by rw [c.eq, star_assoc])⟩
theorem Holds.own {E : World} {K R : HP} {w : World} {b : Nat} {x : Obj} (h : Holds E K w) (c : Cut K (own b x) R := by (repeat (first | exact Cut.head _ _ | apply Cut.tail)); done) : w.heap[b]? = some x := by
  obtain ⟨_, h⟩ := h.cut c
  exact h.getOwn
theorem Sat.own {E : World} {K R : HP} {w : World} {b : Nat} {x : Obj} (h : Sat E K w) (c : Cut K (own b x) R := by (repeat (first | exact Cut.head _ _ | apply Cut.tail)); done) : w.heap[b]? = some x := (h.cut c).getOwn

section
variable {P : Program} {ops : Array Oper} {Q : Exit → Act → World → Prop} {S : World → Prop} {L : Act → World → Prop} {σ : List (Nat × Bool)} {l l' : List Value} {w w' : World} {o : Oper} {i d : Nat} {v : Value}
theorem h_val (hi : ops[i]? = some o) (hd : o.dst = some d) (hg : Region.wanted o (yielded ops (Fr l).tmps) = true) (hr : ∀ w', S w' → (execOp (Fr l).eval o).run P w' = .ok (.value v) w') (hp : putL l d v = some l')
    (hk : wpHi P ops Q S L σ (Fr l') w) : wpHi P ops Q S L ((i, true) :: σ) (Fr l) w :=
  ⟨o, v, hi, .inl ⟨hg, hr⟩, by rw [hd, put_frame hp]; exact hk⟩
theorem h_bool {c : Bool} {l' : Bool → List Value} (hi : ops[i]? = some o) (hd : o.dst = some d) (hg : Region.wanted o (yielded ops (Fr l).tmps) = true) (hr : ∀ w', S w' → (execOp (Fr l).eval o).run P w' = .ok (.value (.bool c)) w') (hp : ∀ c, putL l d (.bool c) = some (l' c))
    (hk : ∀ c' : Bool, c' = c → wpHi P ops Q S L σ (Fr (l' c')) w) : wpHi P ops Q S L ((i, true) :: σ) (Fr l) w :=
  h_val hi hd hg hr (hp c) (hk c rfl)
theorem h_pass (hi : ops[i]? = some o) (hd : o.dst = some d) (hg : Region.wanted o (yielded ops (Fr l).tmps) = false) (hp : putL l d undef = some l')
    (hk : wpHi P ops Q S L σ (Fr l') w) : wpHi P ops Q S L ((i, true) :: σ) (Fr l) w :=
  ⟨o, undef, hi, .inr ⟨hg, rfl⟩, by rw [hd, put_frame hp]; exact hk⟩
theorem h_eff (hi : ops[i]? = some o) (hd : o.dst = some d) (hg : Region.wanted o (yielded ops (Fr l).tmps) = true) (hr : (execOp (Fr l).eval o).run P w = .ok (.value v) w') (hS : S w') (hp : putL l d v = some l')
    (hk : wpHi P ops Q S L σ (Fr l') w') : wpHi P ops Q S L ((i, false) :: σ) (Fr l) w := by
  show wpOp P ops Q i _ (Fr l) w
  unfold wpOp
  simp only [hi]
  rw [if_pos hg]; left; unfold Oper.wp; rw [hr]
  show S w' ∧ wpHi P ops Q S L σ ((Fr l).put o.dst v) w'
  rw [hd, put_frame hp]; exact ⟨hS, hk⟩
theorem h_skip (hi : ops[i]? = some o) (hd : o.dst = none) (hg : Region.wanted o (yielded ops (Fr l).tmps) = true) (hr : (execOp (Fr l).eval o).run P w = .ok .skip w') (hS : S w')
    (hk : wpHi P ops Q S L σ (Fr l) w') : wpHi P ops Q S L ((i, false) :: σ) (Fr l) w := by
  show wpOp P ops Q i _ (Fr l) w
  unfold wpOp
  simp only [hi]
  rw [if_pos hg]; left; unfold Oper.wp; rw [hr]
  show S w' ∧ wpHi P ops Q S L σ ((Fr l).put o.dst undef) w'
  rw [hd]; exact ⟨hS, hk⟩
theorem h_passE (hi : ops[i]? = some o) (hd : o.dst = some d) (hg : Region.wanted o (yielded ops (Fr l).tmps) = false) (hS : S w) (hp : putL l d undef = some l')
    (hk : wpHi P ops Q S L σ (Fr l') w) : wpHi P ops Q S L ((i, false) :: σ) (Fr l) w := by
  show wpOp P ops Q i _ (Fr l) w
  unfold wpOp
  simp only [hi]
  rw [if_neg (by rw [hg]; decide), hd, put_frame hp]; exact ⟨hS, hk⟩
/-- What stands behind a call in a head. -/
def AfterH (P : Program) (ops : Array Oper) (Q : Exit → Act → World → Prop) (S : World → Prop) (L : Act → World → Prop) (σ : List (Nat × Bool)) (l : List Value) (d : Option Nat) (v : Value) (w : World) : Prop := S w ∧ wpHi P ops Q S L σ ((Fr l).put d v) w
theorem h_enter {f : FuncId} {args : Array Value} (hi : ops[i]? = some o) (hr : (execOp (Fr l).eval o).run P w = .ok (.enter f args) w) (hg : Region.wanted o (yielded ops (Fr l).tmps) = true)
    (hc : Calls P f args w fun e w' => ∃ v, e = .returned v ∧ AfterH P ops Q S L σ l o.dst v w') : wpHi P ops Q S L ((i, false) :: σ) (Fr l) w := by
  show wpOp P ops Q i _ (Fr l) w
  unfold wpOp
  simp only [hi]
  rw [if_pos hg]; left; unfold Oper.wp; rw [hr]
  exact hc.mono fun e w' h => by obtain ⟨v, rfl, h⟩ := h; exact h
theorem ah_put (hS : S w) (hp : putL l d v = some l') (hk : wpHi P ops Q S L σ (Fr l') w) : AfterH P ops Q S L σ l (some d) v w := by
  refine ⟨hS, ?_⟩; rw [put_frame hp]; exact hk
theorem ah_bool {c : Bool} {l' : Bool → List Value} (hS : S w) (hp : ∀ c, putL l d (.bool c) = some (l' c)) (hk : ∀ c' : Bool, c' = c → wpHi P ops Q S L σ (Fr (l' c')) w) : AfterH P ops Q S L σ l (some d) (.bool c) w :=
  ah_put hS (hp c) (hk c rfl)
theorem ah_none (hS : S w) (hk : wpHi P ops Q S L σ (Fr l) w) : AfterH P ops Q S L σ l none v w := ⟨hS, hk⟩
theorem p_val {K : Act → Prop} {r : List Nat} (hi : ops[i]? = some o) (hd : o.dst = some d) (hg : Region.wanted o (yielded ops (Fr l).tmps) = true) (hr : ∀ w', (execOp (Fr l).eval o).run P w' = .ok (.value v) w') (hp : putL l d v = some l')
    (hk : wpPre P ops K r (Fr l')) : wpPre P ops K (i :: r) (Fr l) :=
  ⟨o, v, hi, .inl ⟨hg, hr⟩, by rw [hd, put_frame hp]; exact hk⟩
theorem p_bool {K : Act → Prop} {r : List Nat} {c : Bool} {l' : Bool → List Value} (hi : ops[i]? = some o) (hd : o.dst = some d) (hg : Region.wanted o (yielded ops (Fr l).tmps) = true) (hr : ∀ w', (execOp (Fr l).eval o).run P w' = .ok (.value (.bool c)) w') (hp : ∀ c, putL l d (.bool c) = some (l' c))
    (hk : ∀ c' : Bool, c' = c → wpPre P ops K r (Fr (l' c'))) : wpPre P ops K (i :: r) (Fr l) := p_val hi hd hg hr (hp c) (hk c rfl)
theorem p_pass {K : Act → Prop} {r : List Nat} (hi : ops[i]? = some o) (hd : o.dst = some d) (hg : Region.wanted o (yielded ops (Fr l).tmps) = false) (hp : putL l d undef = some l')
    (hk : wpPre P ops K r (Fr l')) : wpPre P ops K (i :: r) (Fr l) :=
  ⟨o, undef, hi, .inr ⟨hg, rfl⟩, by rw [hd, put_frame hp]; exact hk⟩
theorem p_nil {K : Act → Prop} (h : K (Fr l)) : wpPre P ops K [] (Fr l) := h
theorem h_nil (h : L (Fr l) w) : wpHi P ops Q S L [] (Fr l) w := h
end

/-! ### Slices of data -/
/-- A slice of one's own, of data x whose cells are f x. -/
def oL {α : Type} (T : TypeId) (sz : Nat) (f : α → List Value) (v : Value) (L : List α) : HP := osl T sz v L.length (L.flatMap f)
/-- A slice that nobody writes any more. -/
def rL {α : Type} (sz : Nat) (f : α → List Value) (v : Value) (L : List α) : HP := rsl sz v L.length (L.flatMap f)
theorem Lasts.ofRL {α : Type} (sz : Nat) (f : α → List Value) (v : Value) (L : List α) : Lasts (rL sz f v L) := Lasts.ofRsl _ _ _ _
/-- What a value reads as in a world. -/
def ReadsL {α : Type} (w : World) (sz : Nat) (f : α → List Value) (v : Value) (L : List α) : Prop := Reads w sz v L.length (L.flatMap f)
section
variable {α : Type} {E : World} {H R : HP} {w : World} {T : TypeId} {sz : Nat} {f : α → List Value} {v : Value} {L : List α}
theorem Sat.oReads (h : Sat E H w) (c : Cut H (oL T sz f v L) R) : ReadsL w sz f v L := (h.cut c).reads
theorem Sat.rReads (h : Sat E H w) (c : Cut H (rL sz f v L) R) : ReadsL w sz f v L := (h.cut c).readsS
theorem Holds.oReads (h : Holds E H w) (c : Cut H (oL T sz f v L) R) : ReadsL w sz f v L := by obtain ⟨_, h⟩ := h.cut c; exact h.reads
theorem Holds.rReads (h : Holds E H w) (c : Cut H (rL sz f v L) R) : ReadsL w sz f v L := by obtain ⟨_, h⟩ := h.cut c; exact h.readsS
theorem oL_nil (T : TypeId) (sz : Nat) (f : α → List Value) : oL T sz f (.slice none 0 0) [] = emp := osl_nil T sz
theorem Sat.mkNilL (T : TypeId) (sz : Nat) (f : α → List Value) (h : Sat E H w) : Sat E (H * oL T sz f (.slice none 0 0) []) w := h.mkNil T sz
theorem Sat.letL (h : Sat E H w) (c : Cut H (oL T sz f v L) R) : Sat E (R * rL sz f v L) w := (h.cut c).oslRsl
/-- A slice among all that holds, one's own or not. -/
inductive CutRd (H : HP) (sz : Nat) (f : α → List Value) (v : Value) (L : List α) : Prop
  | r {R : HP} (c : Cut H (rL sz f v L) R) : CutRd H sz f v L
  | o {T : TypeId} {R : HP} (c : Cut H (oL T sz f v L) R) : CutRd H sz f v L
theorem Sat.rd (h : Sat E H w) (c : CutRd H sz f v L := by first | (apply CutRd.r; (repeat (first | exact Cut.head _ _ | apply Cut.tail)); done) | (apply CutRd.o; (repeat (first | exact Cut.head _ _ | apply Cut.tail)); done)) : ReadsL w sz f v L := by
  cases c with
  | r c => exact h.rReads c
  | o c => exact h.oReads c
theorem Holds.rd (h : Holds E H w) (c : CutRd H sz f v L := by first | (apply CutRd.r; (repeat (first | exact Cut.head _ _ | apply Cut.tail)); done) | (apply CutRd.o; (repeat (first | exact Cut.head _ _ | apply Cut.tail)); done)) : ReadsL w sz f v L := by
  cases c with
  | r c => exact h.rReads c
  | o c => exact h.oReads c
/-- Its header. -/
theorem ReadsL.header (h : ReadsL w sz f v L) : ∃ p c, v = .slice p L.length c := by
  obtain ⟨_, ⟨rfl, h0⟩ | ⟨a, c, rfl, _⟩⟩ := h
  · exact ⟨none, 0, by rw [h0]⟩
  · exact ⟨some a, c, rfl⟩
theorem oneCell_flat (h : ∀ x, (f x).all (·.oneCell') = true) : ∀ u ∈ L.flatMap f, u.oneCell' = true := fun u hu => by
  obtain ⟨x, _, hx⟩ := List.mem_flatMap.1 hu
  exact List.all_eq_true.1 (h x) u hx
end

section
variable {P : Program} {w : World} {l : List Value} {o : Oper} {E : World} {H R : HP} {α : Type} {sz : Nat} {f : α → List Value}
/-- The address of a slice's cell number m. -/
def IsEl (v : Value) (m : Nat) (ad : Addr) : Prop := ∃ a n c, v = .slice (some a) n c ∧ ad = a.add m
theorem add_add (a : Addr) (x y : Nat) : (a.add x).add y = a.add (x + y) := by
  unfold Addr.add
  by_cases h1 : x = 0
  · simp [h1]
  · by_cases h2 : y = 0
    · simp [h2]
    · simp [h1, h2, Nat.add_assoc]
theorem r_appendO {T : TypeId} {s x : Operand} {t : TypeId} {sv xv : Value} {L M : List α} (ho : o.op = .call { callee := .builtin .append, args := #[s, x], argTypes := #[t, t] }) (hs0 : lookL l s = some sv) (hx0 : lookL l x = some xv)
    (h : Sat E H w) (c : Cut H (oL T sz f sv L) R) (hx : ReadsL w sz f xv M) (ht : P.underlying t = some (.slice T)) (hz : zeroOk P T = true) (hsz : szOf P T = sz) (hby : byOf P T ≤ 4096) (h1 : ∀ x, (f x).all (·.oneCell') = true) (h63 : L.length + M.length ≤ 34359738368) :
    ∃ v w', (execOp (Fr l).eval o).run P w = .ok (.value v) w' ∧ Sat E (R * oL T sz f v (L ++ M)) w' := by
  have hs := lookL_eval hs0
  have hx' := lookL_eval hx0
  unfold zeroOk at hz
  cases hi : P.info? T with
  | none => simp [hi] at hz
  | some i =>
    cases hzz : i.zero with
    | none => simp [hi, hzz] at hz
    | some z =>
      simp only [hi, hzz, Bool.and_eq_true, beq_iff_eq, decide_eq_true_eq] at hz
      simp only [szOf, hi] at hsz
      simp only [byOf, hi] at hby
      subst hsz
      obtain ⟨v', w', hr, hsat⟩ := append_osl (P := P) t o.type T i z ht hi hzz hz.1 hz.2 (h.cut c) hx (oneCell_flat h1) (by omega) (Nat.le_trans (Nat.mul_le_mul h63 hby) (by decide))
      refine ⟨v', w', ?_, ?_⟩
      · simp only [execOp, ho, resolve, invoke, builtin, Sem.run_bind, Sem.run_pure, Result.andThen_ok, List.map_toArray, List.map_cons, List.map_nil, hs, hx', hr]
      · refine hsat.eq ?_
        unfold oL
        rw [List.length_append, List.flatMap_append]
/-- The values of a slice literal's parts, which stand in their order. -/
def litL (l : List Value) : List (Nat × Operand) → Nat → Option (List Value)
  | [], _ => some []
  | (i, x) :: r, k => match Nat.beq i k, lookL l x, litL l r (k + 1) with
    | true, some v, some vs => some (v :: vs)
    | _, _, _ => none
theorem litL_eval {l : List Value} : ∀ (ps : List (Nat × Operand)) (k : Nat) (vs : List Value), litL l ps k = some vs → (ps.map fun (x : Nat × Operand) => (x.1, (Fr l).eval x.2)) = (vs.zipIdx k).map fun x => (x.2, x.1)
  | [], k, vs, h => by simp [litL] at h; subst h; rfl
  | (i, x) :: r, k, vs, h => by
    simp only [litL] at h
    split at h
    · rename_i v vs' hik hv hvs
      cases h
      have ih := litL_eval r (k + 1) vs' hvs
      have : i = k := Nat.eq_of_beq_eq_true hik
      simp only [List.map_cons, List.zipIdx_cons, ih, lookL_eval hv, this]
    · cases h
theorem cells_of_lit : ∀ (vs : List Value) (L : List α), vs.map cellsL = L.map (fun x => some (f x)) → (vs.flatMap fun v => v.cells.toList) = L.flatMap f ∧ vs.length = L.length ∧ ∀ v ∈ vs, ∃ x ∈ L, v.cells = (f x).toArray
  | [], [], _ => by simp
  | [], x :: L, h => by simp at h
  | v :: vs, [], h => by simp at h
  | v :: vs, x :: L, h => by
    simp only [List.map_cons, List.cons.injEq] at h
    obtain ⟨h1, h2⟩ := h
    obtain ⟨i1, i2, i3⟩ := cells_of_lit vs L h2
    have hc := cellsL_eq h1
    refine ⟨by rw [List.flatMap_cons, List.flatMap_cons, i1, hc], by simp [i2], fun u hu => ?_⟩
    rcases List.mem_cons.1 hu with rfl | hu
    · exact ⟨x, List.mem_cons_self, hc⟩
    · obtain ⟨y, hy, e⟩ := i3 u hu
      exact ⟨y, List.mem_cons_of_mem _ hy, e⟩
/-- A slice literal of data. -/
theorem r_lit (f : α → List Value) (L : List α) {T t : TypeId} {len : Nat} {parts : List (Nat × Operand)} {vs : List Value} (ho : o.op = .buildSlice t len parts.toArray) (hp : litL l parts 0 = some vs) (hvs : vs.map cellsL = L.map (fun x => some (f x)))
    (h : Sat E H w) (ht : P.underlying t = some (.slice T)) (hz : zeroOk P T = true) (hsz : szOf P T = sz) (hlen : len = L.length) (hsmall : len * sz ≤ 16777216) (hf : ∀ x, (f x).length = sz) :
    ∃ b w', (execOp (Fr l).eval o).run P w = .ok (.value (.slice (some ⟨b, 0, none⟩) len len)) w' ∧ Sat E (H * oL T sz f (.slice (some ⟨b, 0, none⟩) len len) L) w' := by
  obtain ⟨hfm, hvl, hvc⟩ := cells_of_lit vs L hvs
  unfold zeroOk at hz
  cases hi : P.info? T with
  | none => simp [hi] at hz
  | some i =>
    cases hzz : i.zero with
    | none => simp [hi, hzz] at hz
    | some z =>
      simp only [hi, hzz, Bool.and_eq_true, beq_iff_eq, decide_eq_true_eq] at hz
      simp only [szOf, hi] at hsz
      subst hsz
      have hv' : ∀ v ∈ vs, v.cells.size = i.size := fun v hm => by
        obtain ⟨x, _, e⟩ := hvc v hm
        rw [e]; simpa using hf x
      have hparts : (parts.toArray.map fun (x : Nat × Operand) => (x.1, (Fr l).eval x.2)).toList = (vs.zipIdx 0).map fun x => (x.2, x.1) := by
        have := litL_eval _ _ _ hp
        simpa using this
      have hfl : (L.flatMap f).length = len * i.size := by rw [flat_length f i.size hf, hlen]
      have hrun : (Instr.buildSlice t len (parts.toArray.map fun (x : Nat × Operand) => (x.1, (Fr l).eval x.2))).run P w = .ok (.slice (some ⟨w.heap.size, 0, none⟩) len len) (w.alloc (.cells (vs.flatMap fun v => v.cells.toList).toArray T)) := by
        have hs' : ¬ len * i.size > 2 ^ 24 := by omega
        by_cases h0 : len * i.size = 0
        · have hl0 : len = 0 := by
            rcases Nat.mul_eq_zero.1 h0 with h | h
            · exact h
            · omega
          have hvn : vs = [] := List.eq_nil_of_length_eq_zero (by omega)
          subst hvn
          have hpn : (parts.toArray.map fun (x : Nat × Operand) => (x.1, (Fr l).eval x.2)).toList = [] := by simpa using hparts
          simp only [Instr.buildSlice, Sem.run_bind, run_underlying ht, Result.andThen_ok, sizeOf, typeInfo, run_program, hi, Sem.run_pure, h0]
          rw [Array.toList_map] at hpn
          simp [hpn, Instr.fill, newRow, Array.range_zero']
        · refine run_buildSlice w t T len _ _ i z ht hi hzz hs' h0 ?_
          rw [hparts]
          exact Great.fill_whole hz.2 vs _ hv' (by simp [hlen, hvl])
      refine ⟨w.heap.size, w.alloc (.cells (vs.flatMap fun v => v.cells.toList).toArray T), ?_, ?_⟩
      · simp only [execOp, ho, Sem.run_bind]
        rw [show (parts.toArray.map fun (x : Nat × Operand) => match x with | (i, x) => (i, (Fr l).eval x)) = parts.toArray.map fun (x : Nat × Operand) => (x.1, (Fr l).eval x.2) from rfl, hrun]
        rfl
      · rw [hfm]
        have := (h.alloc (.cells (L.flatMap f).toArray T)).mkOsl (T := T) (sz := i.size) (n := len) (off := 0) (cap := len) (xs := L.flatMap f) hfl (Nat.le_refl _) (by
          unfold maxLen
          have : len * 1 ≤ len * i.size := Nat.mul_le_mul_left _ hz.2
          omega) (by simp [hfl]) (by
          simp only [List.drop_zero]
          rw [← hfl]; exact List.take_length)
        unfold oL
        rw [← hlen]; exact this
theorem r_index {t : TypeId} {x y : Operand} {k : IntKind} {v : Value} {i : Int} {L : List α} {e : TypeId} {u : α} (ho : o.op = .indexAddr t x y) (hx0 : lookL l x = some v) (hy0 : lookL l y = some (.int k i)) (hr : ReadsL w sz f v L) (h0 : 0 ≤ i) (h1 : L[i.toNat]? = some u)
    (ht : P.underlying t = some (.slice e)) (hn : (P.info? e).isSome = true) (hsz : szOf P e = sz) :
    ∃ ad, (execOp (Fr l).eval o).run P w = .ok (.value (.pointer (some ad))) w ∧ IsEl v (i.toNat * sz) ad := by
  have hx := lookL_eval hx0
  have hy := lookL_eval hy0
  have hlt : i.toNat < L.length := (List.getElem?_eq_some_iff.1 h1).1
  obtain ⟨hl, ⟨rfl, h00⟩ | ⟨a, c, rfl, hc⟩⟩ := hr
  · omega
  · refine ⟨a.add (i.toNat * sz), ?_, a, _, c, rfl, rfl⟩
    have hs := run_szOf (P := P) hn w
    rw [hsz] at hs
    simp [execOp, ho, hx, hy, Instr.indexAt, asIntOf, run_underlying ht, h0, show i < (L.length : Int) by omega, hs]
theorem r_fieldEl {s : TypeId} {x : Operand} {g k m : Nat} {v : Value} {ad : Addr} (ho : o.op = .fieldAddr s x g) (hx : lookL l x = some (.pointer (some ad))) (he : IsEl v m ad) (hf : offOf P s g = some k) :
    (execOp (Fr l).eval o).run P w = .ok (.value (.pointer (some (ad.add k)))) w ∧ IsEl v (m + k) (ad.add k) := by
  refine ⟨?_, ?_⟩
  · unfold offOf at hf
    split at hf
    · rename_i fs hu
      split at hf
      · rename_i fd hfd
        split at hf
        · rename_i i hi
          split at hf
          · cases hf
          · rename_i hz
            cases hf
            simp [execOp, ho, lookL_eval hx, Instr.fieldAt, run_underlying hu, hfd, Instr.sureAddr, fieldPlace, sizeOf, typeInfo, hi, hz]
        · cases hf
      · cases hf
    · cases hf
  · obtain ⟨a, n, c, rfl, rfl⟩ := he
    exact ⟨a, n, c, rfl, add_add a m k⟩
theorem el_cell {v : Value} {L : List α} {i j : Nat} {ad : Addr} {x : α} {u : Value} (hr : ReadsL w sz f v L) (he : IsEl v (i * sz + j) ad) (hx : L[i]? = some x) (hf : ∀ x, (f x).length = sz) (hu : nthL (f x) j = some u) : w.cell? ad = some u := by
  obtain ⟨a, n, c, rfl, rfl⟩ := he
  obtain ⟨hl, ⟨h, _⟩ | ⟨a', c', h, hc⟩⟩ := hr
  · cases h
  · cases h
    rw [nthL_eq] at hu
    obtain ⟨hlt, rfl⟩ := List.getElem?_eq_some_iff.1 hx
    exact hc _ _ (flat_at f sz hf L i hlt j u hu)
theorem r_loadEl {t : TypeId} {x : Operand} {v : Value} {L : List α} {i j : Nat} {ad : Addr} {e : α} {u : Value} (ho : o.op = .load t x) (hx0 : lookL l x = some (.pointer (some ad))) (hr : ReadsL w sz f v L) (he : IsEl v (i * sz + j) ad) (hx : L[i]? = some e) (hf : ∀ x, (f x).length = sz)
    (hi : (isAgg t).run P w = .ok false w) (hu : nthL (f e) j = some u) : (execOp (Fr l).eval o).run P w = .ok (.value u) w := by
  have hc := el_cell hr he hx hf hu
  simp [execOp, ho, lookL_eval hx0, Instr.loadAt, Instr.sureAddr, loadVar, hi, hc]
theorem r_loadElA {t : TypeId} {x : Operand} {v : Value} {L : List α} {i j n : Nat} {ad : Addr} {e : α} {vs : List Value} (ho : o.op = .load t x) (hx0 : lookL l x = some (.pointer (some ad))) (hr : ReadsL w sz f v L) (he : IsEl v (i * sz + j) ad) (hx : L[i]? = some e) (hf : ∀ x, (f x).length = sz)
    (hi : (isAgg t).run P w = .ok true w) (hn : (P.info? t).isSome = true) (hsz : szOf P t = n) (hu : sliceL (f e) j n = some vs) : (execOp (Fr l).eval o).run P w = .ok (.value (.agg vs.toArray)) w := by
  obtain ⟨h1, h2, h3⟩ := sliceL_eq _ _ _ _ hu
  have hs := run_szOf (P := P) hn w
  rw [hsz, ← h1] at hs
  have hl := run_loadCells_list (P := P) w ad vs (fun k u hk => by
    have he' : IsEl v (i * sz + (j + k)) (ad.add k) := by
      obtain ⟨a, n, c, rfl, rfl⟩ := he
      exact ⟨a, n, c, rfl, by rw [add_add, Nat.add_assoc]⟩
    refine el_cell hr he' hx hf ?_
    rw [nthL_eq]
    rw [h3, List.getElem?_take] at hk
    split at hk
    · simpa [List.getElem?_drop] using hk
    · cases hk)
  simp [execOp, ho, lookL_eval hx0, Instr.loadAt, Instr.sureAddr, loadVar, hi, hs, hl]

theorem flat_set (f : α → List Value) (s : Nat) (hf : ∀ x, (f x).length = s) : ∀ (L : List α) (i : Nat) (x : α), i < L.length → (L.flatMap f).take (i * s) ++ f x ++ (L.flatMap f).drop (i * s + s) = (L.set i x).flatMap f
  | [], i, x, h => by simp at h
  | y :: L, 0, x, h => by
    have := hf y
    simp [List.flatMap_cons, ← this]
  | y :: L, i + 1, x, h => by
    have ih := flat_set f s hf L i x (by simpa using h)
    have hy := hf y
    simp only [List.flatMap_cons, List.set_cons_succ, ← ih]
    rw [show (i + 1) * s = (f y).length + i * s by rw [hy, Nat.add_mul]; omega]
    rw [List.take_length_add_append, show (f y).length + i * s + s = (f y).length + (i * s + s) by omega, List.drop_length_add_append]
    simp [List.append_assoc]
/-- An element of one's own slice, written over whole. -/
theorem r_storeEl {T : TypeId} {t : TypeId} {x y : Operand} {sv v : Value} {L : List α} {i : Nat} {ad : Addr} {e : α} (ho : o.op = .store t x y) (hx0 : lookL l x = some (.pointer (some ad))) (hy0 : lookL l y = some v)
    (h : Sat E H w) (c : Cut H (oL T sz f sv L) R) (he : IsEl sv (i * sz) ad) (hi : i < L.length) (hf : ∀ x, (f x).length = sz) (hv : cellsL v = some (f e)) (h1 : (f e).all (·.oneCell') = true) (hn : (P.info? t).isSome = true) (hsz : szOf P t = sz) :
    ∃ w', (execOp (Fr l).eval o).run P w = .ok .skip w' ∧ Sat E (R * oL T sz f sv (L.set i e)) w' := by
  have hx := lookL_eval hx0
  have hy := lookL_eval hy0
  obtain ⟨a, n, cc, rfl, rfl⟩ := he
  obtain ⟨hl, ⟨h', _⟩ | ⟨g, off, cap, cur, h', hs, k1, k2, k3, k4⟩⟩ := (h.cut c).ofOsl
  · cases h'
  · cases h'
    have hc := cellsL_eq hv
    have hb : off + i * sz + sz ≤ cur.size := by
      have : (i + 1) * sz ≤ L.length * sz := Nat.mul_le_mul_right _ hi
      have h2 : L.length * sz ≤ cc * sz := Nat.mul_le_mul_right _ k1
      rw [Nat.add_mul] at this
      omega
    have hst := run_storeAt (P := P) (t := t) (v := v) (off := off + i * sz) hs.getOwn (run_szOf hn w) (by rw [hc, hsz]; simpa using hf e) (by rw [hc]; simpa using h1) (by rw [hsz]; omega)
    refine ⟨w.setRow g (splice cur (off + i * sz) v.cells.toList), ?_, ?_⟩
    · simp only [execOp, ho, hx, hy, Sem.run_bind, Sem.run_pure, Result.andThen_ok, add_mk, hst]
    · have hsp : (splice cur (off + i * sz) v.cells.toList).toList = cur.toList.take (off + i * sz) ++ f e ++ cur.toList.drop (off + i * sz + sz) := by
        rw [splice_toList, hc]; simp [hf e]
      have hfit : off + i * sz + v.cells.toList.length ≤ cur.size := by rw [hc]; simpa [hf e] using hb
      have fin := (hs.setRow (C' := splice cur (off + i * sz) v.cells.toList)).mkOsl (T := T) (sz := sz) (n := L.length) (xs := (L.set i e).flatMap f) (by rw [flat_length f sz hf]; simp) k1 k2 (by rw [size_splice _ _ _ hfit]; exact k3) ?_
      · unfold oL; rw [List.length_set]; exact fin
      · rw [hsp, ← flat_set f sz hf L i e hi]
        have hlen : (L.flatMap f).length = L.length * sz := flat_length f sz hf L
        have hd : (cur.toList.take (off + i * sz) ++ f e ++ cur.toList.drop (off + i * sz + sz)).drop off = (cur.toList.drop off).take (i * sz) ++ f e ++ (cur.toList.drop off).drop (i * sz + sz) := by
          have h3 : cur.toList.length = cur.size := by simp
          rw [List.append_assoc, List.drop_append_of_le_length (by simp; omega), List.drop_take, List.drop_drop, Nat.add_assoc]
          simp [List.append_assoc]
        rw [hd]
        have hi' : i * sz + sz ≤ L.length * sz := by
          have : (i + 1) * sz ≤ L.length * sz := Nat.mul_le_mul_right _ hi
          rwa [Nat.add_mul, Nat.one_mul] at this
        have hk4 : (cur.toList.drop off).take (L.length * sz) = L.flatMap f := k4
        have h3 : cur.toList.length = cur.size := by simp
        have h4 : L.length * sz ≤ cc * sz := Nat.mul_le_mul_right _ k1
        have h5 : (cur.toList.drop off).take (i * sz) = (L.flatMap f).take (i * sz) := by
          rw [← hk4, List.take_take]; congr 1; omega
        have h6 : ((cur.toList.drop off).drop (i * sz + sz)).take (L.length * sz - (i * sz + sz)) = (L.flatMap f).drop (i * sz + sz) := by
          rw [← hk4, List.drop_take]
        rw [List.take_append, List.take_of_length_le (by simp [hf e]; omega)]
        rw [show L.length * sz - ((cur.toList.drop off).take (i * sz) ++ f e).length = L.length * sz - (i * sz + sz) by simp [hf e]; omega, h5, h6]
end
end Go.Proofs.Ytoeaamohchpjdaa
