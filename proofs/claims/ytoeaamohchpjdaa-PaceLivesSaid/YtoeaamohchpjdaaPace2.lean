/-
  Pace: Clone, Clone.
-/
import Derived.Test.YtoeaamohchpjdaaPace
namespace Go.Proofs.Ytoeaamohchpjdaa
open Go Go.RowKit
set_option linter.unusedVariables false
set_option linter.unusedSimpArgs false
set_option maxRecDepth 100000

theorem asks_spec (p : Value) (t : Int) : SpecV Try.prog 29 #[p, .int .i64 t] emp (.bool (t == 1 || t == 2 || t == 4)) emp := by
  intro E F w hs
  go_enter Try.func29, Try.ntmps29
  by_cases h1 : t = 1
  · subst h1; go_wp2_with fail; go_ret; exact ⟨rfl, hs⟩
  · by_cases h2 : t = 2
    · subst h2; go_wp2_with fail; go_ret; exact ⟨rfl, hs⟩
    · by_cases h4 : t = 4
      · subst h4; go_wp2_with fail; go_ret; exact ⟨rfl, hs⟩
      · have k1 : (t == 1) = false := by simpa using h1
        have k2 : (t == 2) = false := by simpa using h2
        have k4 : (t == 4) = false := by simpa using h4
        clear h1 h2 h4
        go_wp2_with fail; go_ret; exact ⟨by rw [k1, k2, k4]; rfl, hs⟩

theorem pk_rd (l T : List Int) (hl : l.length = 5) (hT : T.length = 5) : rd (pk l T) 0 (szOf Try.prog 37) true = some (.agg (pk l T)) := by
  have : szOf Try.prog 37 = 10 := rfl
  rw [this]
  have hz : (pk l T).size = 10 := by simp [pk, bk, hl, hT]
  have hz' : (pk l T).toList.length = 10 := by simpa using hz
  unfold rd
  rw [if_pos (by omega), List.drop_zero, List.take_of_length_le (by omega)]

theorem pk_over (l T m : List Int) (Z : List Value) (hl : l.length = 5) (hT : T.length = 5) (hZ : Z.length = 10) : splice Z.toArray 0 (l.map (Value.int .i64) ++ T.map (Value.int .i64)) = pk l T := by
  have hz : (l.map (Value.int .i64) ++ T.map (Value.int .i64)).length = 10 := by simp [hl, hT]
  simp only [splice, pk, bk, List.take_zero, List.nil_append, Nat.zero_add, hz]
  rw [List.drop_of_length_le (by simp [hZ]), List.append_nil]

theorem clone_spec (b : Nat) (l T : List Int) (hl : l.length = 5) (hT : T.length = 5) :
    Spec Try.prog 23 #[.pointer (some ⟨b, 0, none⟩)] (own b (.cells (pk l T) 37 (0, 0)))
      (fun v => some' fun b' => own b (.cells (pk l T) 37 (0, 0)) * own b' (.cells (pk l T) 37 (0, 0)) * fact (v = .pointer (some ⟨b', 0, none⟩))) := by
  intro E F w hs
  have hrd := pk_rd l T hl hT
  have hone : (l.map (Value.int .i64) ++ T.map (Value.int .i64)).all (·.oneCell') = true := by simp [Value.oneCell']
  have hlen : (l.map (Value.int .i64) ++ T.map (Value.int .i64)).length = 10 := by simp [hl, hT]
  go_enter Try.func23, Try.ntmps23
  go_wp2_with (first
    | (refine wpL_alloc _ rfl rfl rfl hs ?_; intro bn w hs) | (refine wpL_loadA _ _ rfl rfl rfl (hs.cut (by repeat (first | exact Cut.head _ _ | apply Cut.tail))).getOwn (by simp) rfl hrd ?_)
    | (refine wpL_storeA (cs := l.map (Value.int .i64) ++ T.map (Value.int .i64)) _ _ _ rfl rfl rfl rfl rfl hs (by repeat (first | exact Cut.head _ _ | apply Cut.tail)) rfl (by rw [hlen]; rfl) hone (by rw [hlen]; decide) ?_; intro w hs))
  go_ret
  refine ⟨_, rfl, ?_⟩
  rw [pk_over l T l _ hl hT rfl] at hs
  exact Sat.mkSome bn ((hs.mkFact rfl).eq (by ac_rfl))
end Go.Proofs.Ytoeaamohchpjdaa
