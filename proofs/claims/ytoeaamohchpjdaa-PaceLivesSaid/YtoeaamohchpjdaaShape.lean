/-
  What an argument of ints, bools, strings, slices and structs is, as cells: read off the form's own reading. It speaks of no program.
-/
import Derived.Test.YtoeaamohchpjdaaRow
import Derived.Deep.Slices
import Derived.ChangeArms
namespace Go.Proofs.Ytoeaamohchpjdaa
open Go.ChangeShapes Go.WideShapes Go.ChangeAt Go.RowKit Go.Deep
set_option linter.unusedVariables false

inductive Shape (P : Program) (W : World) : TypeId → List Value → Prop
  | int {t : TypeId} {k : IntKind} {n : Int} (h : P.underlying t = some (.int k)) (wf : (Lit.int k n).wf = true) : Shape P W t [.int k n]
  | bool {t : TypeId} {b : Bool} (h : P.underlying t = some .bool) : Shape P W t [.bool b]
  | str {t : TypeId} {s : ByteArray} (h : P.underlying t = some .string) (hs : s.size ≤ maxLen) : Shape P W t [.string s]
  | slice {t e : TypeId} {v : Value} (h : P.underlying t = some (.slice e)) (rows : List (List Value)) (hr : Reads W (P.cellsOf e) v rows.length rows.flatten)
      (each : ∀ row ∈ rows, Shape P W e row) : Shape P W t [v]
  | struct {t : TypeId} {fs : Array Field} {cs : List Value} (h : P.underlying t = some (.struct fs)) (rows : List (List Value)) (hl : rows.length = fs.size) (hc : cs = rows.flatten)
      (each : ∀ (i : Nat) (f : Field) (row : List Value), fs[i]? = some f → rows[i]? = some row → Shape P W f.type row) : Shape P W t cs

def offsetsB (P : Program) : List Field → Nat → Nat → Bool
  | [], k, tot => k == tot
  | f :: r, k, tot => f.offset == k && offsetsB P r (k + P.cellsOf f.type) tot
def plainB (P : Program) : Nat → TypeId → Bool
  | 0, _ => false
  | n + 1, t => match P.underlying t with
    | some (.int _) | some .bool | some .string => true
    | some (.slice e) => plainB P n e
    | some (.struct fs) => offsetsB P fs.toList 0 (P.cellsOf t) && fs.toList.all (fun f => plainB P n f.type)
    | _ => false

theorem segs {P : Program} (cs : List Value) : ∀ (fs : List Field) (k : Nat), offsetsB P fs k cs.length = true → cs.drop k = (fs.map fun f => (cs.drop f.offset).take (P.cellsOf f.type)).flatten
  | [], k, h => by
    simp only [offsetsB, beq_iff_eq] at h
    subst h; simp
  | f :: r, k, h => by
    simp only [offsetsB, Bool.and_eq_true, beq_iff_eq] at h
    obtain ⟨h1, h2⟩ := h
    have ih := segs cs r (k + P.cellsOf f.type) h2
    rw [List.map_cons, List.flatten_cons, ← ih, h1]
    rw [← List.drop_drop]
    exact (List.take_append_drop _ _).symm

section
variable {H : Type} {enc : TypeId × Value → H} {P : Program} {w : World} {held : Bool}
theorem flatten_length (s : Nat) : ∀ (rows : List (List Value)), (∀ row ∈ rows, row.length = s) → rows.flatten.length = rows.length * s
  | [], _ => by simp
  | r :: rs, h => by
    rw [List.flatten_cons, List.length_append, flatten_length s rs (fun x hx => h x (List.mem_cons_of_mem _ hx)), h r List.mem_cons_self, List.length_cons, Nat.add_mul]; omega
theorem flatten_get (s : Nat) : ∀ (rows : List (List Value)), (∀ row ∈ rows, row.length = s) → ∀ (j : Nat) (u : Value), rows.flatten[j]? = some u → ∃ i k row, j = i * s + k ∧ k < s ∧ rows[i]? = some row ∧ row[k]? = some u
  | [], _, j, u, h => by simp at h
  | r :: rs, hl, j, u, h => by
    have hr := hl r List.mem_cons_self
    rw [List.flatten_cons] at h
    by_cases hj : j < r.length
    · rw [List.getElem?_append_left hj] at h
      exact ⟨0, j, r, by omega, by omega, rfl, h⟩
    · rw [List.getElem?_append_right (by omega)] at h
      obtain ⟨i, k, row, e, hk, h1, h2⟩ := flatten_get s rs (fun x hx => hl x (List.mem_cons_of_mem _ hx)) _ u h
      refine ⟨i + 1, k, row, ?_, hk, by simpa using h1, h2⟩
      rw [Nat.add_mul]; omega

theorem rows_ex : ∀ (len : Nat) (Q : Nat → List Value → Prop), (∀ i : Nat, i < len → ∃ cs, Q i cs) → ∃ rows : List (List Value), rows.length = len ∧ ∀ i row, rows[i]? = some row → Q i row
  | 0, _, _ => ⟨[], rfl, by simp⟩
  | len + 1, Q, hex => by
    obtain ⟨rows, hlr, hrs⟩ := rows_ex len Q (fun i hil => hex i (by omega))
    obtain ⟨cs', h1⟩ := hex len (by omega)
    refine ⟨rows ++ [cs'], by simp [hlr], fun i row hrow => ?_⟩
    by_cases hil : i < rows.length
    · rw [List.getElem?_append_left hil] at hrow
      exact hrs i row hrow
    · rw [List.getElem?_append_right (by omega)] at hrow
      have : i = len := by
        rcases Nat.lt_or_ge (i - rows.length) 1 with h0 | h0
        · omega
        · rw [List.getElem?_eq_none (by simpa using h0)] at hrow; cases hrow
      subst this
      simp [hlr] at hrow
      subst hrow
      exact h1

theorem shape_of : ∀ (n : Nat) (t : TypeId) (fuel : Nat) (cs : List Value) (x : DataW H × List MemPlace), plainB P n t = true → DataW.trod enc P w 0 (fun _ => true) held fuel t cs = some x → Shape P w t cs
  | 0, _, _, _, _, h, _ => by cases h
  | n + 1, t, fuel, cs, x, h, ht => by
    unfold plainB at h
    split at h
    · rename_i k hu
      obtain ⟨z, rfl, _, hw⟩ := DataW.trod_int hu ht
      exact .int hu hw
    · rename_i hu
      obtain ⟨z, rfl, _⟩ := DataW.trod_bool hu ht
      exact .bool hu
    · rename_i hu
      obtain ⟨z, rfl, _, hw⟩ := DataW.trod_string hu ht
      exact .str hu hw
    · rename_i e hu
      rcases open_slice hu ht with ⟨rfl, _⟩ | ⟨a, len, cap, m, n', D, Pl, rfl, _, hl, hm, hmm, _, hi⟩
      · exact .slice hu [] ⟨by simp, .inl ⟨rfl, rfl⟩⟩ (by simp)
      · simp only [if_true] at hmm
        have hex : ∀ i : Nat, i < len → ∃ cs', cs'.length = P.cellsOf e ∧ (∀ j, j < P.cellsOf e → w.cell? (a.add (i * P.cellsOf e + j)) = cs'[j]?) ∧ Shape P w e cs' := fun i hil => by
          obtain ⟨cs', hc, htr⟩ := hi i (by omega)
          obtain ⟨_, hlen, hcell⟩ := World.cells?_some hc
          refine ⟨cs', hlen, fun j hj => ?_, shape_of n e _ cs' _ h htr⟩
          rw [← hcell j hj]
          congr 1
          unfold Addr.add
          by_cases h2 : i * P.cellsOf e = 0
          · simp [h2]
          · by_cases h3 : j = 0
            · simp [h3]
            · simp [h2, h3, Nat.add_assoc]
        have hrows := rows_ex len _ hex
        obtain ⟨rows, hlr, hrs⟩ := hrows
        have hlen : ∀ row ∈ rows, row.length = P.cellsOf e := fun row hm => by
          obtain ⟨i, hi⟩ := List.getElem?_of_mem hm
          exact (hrs i row hi).1
        refine .slice hu rows ⟨flatten_length _ _ hlen, .inr ⟨a, cap, by rw [hlr], fun j u hu' => ?_⟩⟩ (fun row hm => ?_)
        · obtain ⟨i, k, row, rfl, hk, h1, h2⟩ := flatten_get _ rows hlen j u hu'
          rw [(hrs i row h1).2.1 k hk]
          exact h2
        · obtain ⟨i, hi⟩ := List.getElem?_of_mem hm
          exact (hrs i row hi).2.2
    · rename_i fs hu
      simp only [Bool.and_eq_true] at h
      obtain ⟨ho, hall⟩ := h
      obtain ⟨ys, n', rfl, _, hcl, hyl, hf⟩ := DataW.trod_struct hu ht
      rw [← hcl] at ho
      have hsg := segs cs fs.toList 0 ho
      refine .struct hu (fs.toList.map fun f => (cs.drop f.offset).take (P.cellsOf f.type)) (by simp) (by simpa using hsg) (fun i f row hfi hrow => ?_)
      rw [List.getElem?_map] at hrow
      have hfi' : fs.toList[i]? = some f := by simpa using hfi
      rw [hfi'] at hrow
      simp only [Option.map_some, Option.some.injEq] at hrow
      subst hrow
      have hlt : i < ys.length := by rw [hyl]; exact (Array.getElem?_eq_some_iff.1 hfi).1
      rw [List.all_eq_true] at hall
      exact shape_of n f.type n' _ _ (hall f (List.mem_of_getElem? hfi')) ((hf i f hfi).trans (List.getElem?_eq_getElem hlt))
    · cases h

theorem shape_arg {t : TypeId} {v : Value} {d : DataW H} {p : List MemPlace} (n : Nat) (hp : plainB P n t = true) (h : DataW.Trod enc P w 0 (fun _ => true) held t v d p) : Shape P w t v.cells.toList := by
  obtain ⟨fuel, hf⟩ := h
  exact shape_of n t fuel _ _ hp hf
end

section
variable {P : Program} {w : World} {t : TypeId} {cs : List Value}
theorem Shape.isInt {k : IntKind} (s : Shape P w t cs) (h : P.underlying t = some (.int k)) : ∃ n, cs = [.int k n] ∧ (Lit.int k n).wf = true := by
  cases s with
  | int h' wf => rw [h] at h'; cases h'; exact ⟨_, rfl, wf⟩
  | bool h' => rw [h] at h'; cases h'
  | str h' => rw [h] at h'; cases h'
  | slice h' => rw [h] at h'; cases h'
  | struct h' => rw [h] at h'; cases h'
theorem Shape.isBool (s : Shape P w t cs) (h : P.underlying t = some .bool) : ∃ b, cs = [.bool b] := by
  cases s with
  | int h' wf => rw [h] at h'; cases h'
  | bool h' => exact ⟨_, rfl⟩
  | str h' => rw [h] at h'; cases h'
  | slice h' => rw [h] at h'; cases h'
  | struct h' => rw [h] at h'; cases h'
theorem Shape.isStr (s : Shape P w t cs) (h : P.underlying t = some .string) : ∃ x : ByteArray, cs = [.string x] ∧ x.size ≤ maxLen := by
  cases s with
  | int h' wf => rw [h] at h'; cases h'
  | bool h' => rw [h] at h'; cases h'
  | str h' hs => exact ⟨_, rfl, hs⟩
  | slice h' => rw [h] at h'; cases h'
  | struct h' => rw [h] at h'; cases h'
theorem Shape.isSlice {e : TypeId} (s : Shape P w t cs) (h : P.underlying t = some (.slice e)) : ∃ v, cs = [v] ∧ ∃ rows : List (List Value), Reads w (P.cellsOf e) v rows.length rows.flatten ∧ ∀ row ∈ rows, Shape P w e row := by
  cases s with
  | int h' wf => rw [h] at h'; cases h'
  | bool h' => rw [h] at h'; cases h'
  | str h' => rw [h] at h'; cases h'
  | slice h' rows hr each => rw [h] at h'; cases h'; exact ⟨_, rfl, rows, hr, each⟩
  | struct h' => rw [h] at h'; cases h'
theorem Shape.isStruct {fs : Array Field} (s : Shape P w t cs) (h : P.underlying t = some (.struct fs)) : ∃ rows : List (List Value), rows.length = fs.size ∧ cs = rows.flatten ∧
    ∀ (i : Nat) (f : Field) (row : List Value), fs[i]? = some f → rows[i]? = some row → Shape P w f.type row := by
  cases s with
  | int h' wf => rw [h] at h'; cases h'
  | bool h' => rw [h] at h'; cases h'
  | str h' => rw [h] at h'; cases h'
  | slice h' => rw [h] at h'; cases h'
  | struct h' rows hl hc each => rw [h] at h'; cases h'; exact ⟨rows, hl, hc, each⟩

/-- A list of rows, each of which is the cells of some datum, is the cells of a list of data. -/
theorem rows_data {α : Type} (f : α → List Value) : ∀ (rows : List (List Value)), (∀ row ∈ rows, ∃ x, row = f x) → ∃ l : List α, rows = l.map f
  | [], _ => ⟨[], rfl⟩
  | r :: rs, h => by
    obtain ⟨x, rfl⟩ := h r List.mem_cons_self
    obtain ⟨l, rfl⟩ := rows_data f rs (fun row hr => h row (List.mem_cons_of_mem _ hr))
    exact ⟨x :: l, rfl⟩
end
end Go.Proofs.Ytoeaamohchpjdaa
