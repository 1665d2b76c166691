/-
  The walk's steps: arrays, shifts, slices that are made. It speaks of no program.
-/
import Derived.Test.YtoeaamohchpjdaaEng5
import Derived.Laws.MakeOwn
namespace Go.Proofs.Ytoeaamohchpjdaa
open Go Go.RowKit
set_option linter.unusedVariables false
set_option linter.unusedSimpArgs false

theorem fill_mono {f g : Nat → Option (Nat × Nat)} (h : ∀ i p, f i = some p → g i = some p) : ∀ (ps : List (Nat × Value)) (cs r : Array Value), Instr.fill f cs ps = some r → Instr.fill g cs ps = some r
  | [], cs, r, e => e
  | (i, v) :: ps, cs, r, e => by
    simp only [Instr.fill] at e ⊢
    cases hf : f i with
    | none => rw [hf] at e; cases e
    | some p =>
      rw [hf] at e; rw [h i p hf]
      obtain ⟨off, size⟩ := p
      dsimp only at e ⊢
      split at e
      · cases e
      · rename_i hn
        rw [if_neg hn]
        exact fill_mono h ps _ _ e
section
variable {P : Program} {w : World} {l : List Value} {o : Oper} {E : World} {H R : HP} {α : Type} {sz : Nat} {f : α → List Value}
theorem r_buildA {t e : TypeId} {parts : List (Nat × Operand)} {vs : List (Nat × Value)} {n : Nat} {zs cs : List Value} (ho : o.op = .build t parts.toArray) (hp : partsL l parts = some vs) (hu : P.underlying t = some (.array n e)) (hn : (P.info? e).isSome = true) (hsz : szOf P e = sz)
    (hz : ((P.info? t).bind (·.zero)).bind cellsL = some zs) (hf : fillL ((List.range n).map fun i => (i * sz, sz)) zs vs = some cs) : (execOp (Fr l).eval o).run P w = .ok (.value (.agg cs.toArray)) w := by
  have hpv := partsL_eval _ _ hp
  have hs := run_szOf (P := P) hn w
  rw [hsz] at hs
  cases hi : P.info? t with
  | none => simp [hi] at hz
  | some i =>
    cases hzz : i.zero with
    | none => simp [hi, hzz] at hz
    | some z =>
      simp only [hi, hzz, Option.bind_some] at hz
      have hc := cellsL_eq hz
      have hfill := fill_mono (g := fun i => some (i * sz, sz)) (fun i p hip => by
        simp only [List.getElem?_toArray, List.getElem?_map] at hip
        cases hr : (List.range n)[i]? with
        | none => rw [hr] at hip; cases hip
        | some k =>
          rw [hr] at hip
          have : i = k := by have := List.getElem?_eq_some_iff.1 hr; obtain ⟨h1, h2⟩ := this; simpa using h2
          subst this
          exact hip) _ _ _ (fillL_eq vs zs cs hf)
      have hpa : (parts.toArray.map fun (x : Nat × Operand) => (x.1, (Fr l).eval x.2)).toList = vs := by simpa using hpv
      simp only [execOp, ho, Instr.build, zeroValue, typeInfo, Sem.run_bind, run_program, hi, hzz, Sem.run_pure, Result.andThen_ok, run_underlying hu, hs, hc]
      rw [show (parts.toArray.map fun (x : Nat × Operand) => match x with | (i, x) => (i, (Fr l).eval x)) = parts.toArray.map fun (x : Nat × Operand) => (x.1, (Fr l).eval x.2) from rfl, hpa, hfill]
      rfl
/-- An element, of one cell, of an array's value. -/
theorem r_ixA {t e : TypeId} {x y : Operand} {k : IntKind} {i : Int} {m n : Nat} {vs : List Value} {u : Value} (ho : o.op = .index t x y) (hx0 : lookL l x = some (.agg vs.toArray)) (hy0 : lookL l y = some (.int k i)) (hu : P.underlying t = some (.array n e)) (him : i = (m : Int)) (hm : m < n)
    (he : (isAgg e).run P w = .ok false w) (hn : (P.info? e).isSome = true) (hsz : szOf P e = 1) (hv : vs[m]? = some u) : (execOp (Fr l).eval o).run P w = .ok (.value u) w := by
  have hx := lookL_eval hx0
  have hy := lookL_eval hy0
  subst him
  have hs := run_szOf (P := P) hn w
  rw [hsz] at hs
  have hv' : vs.toArray[m]? = some u := by simpa using hv
  simp [execOp, ho, hx, hy, Instr.index, asIntOf, run_underlying hu, hm, hs, part, he, hv, hv']
theorem r_shr {t t' : TypeId} {x y : Operand} {k k' : IntKind} {a b d : Int} (ho : o.op = .binOp .shr t x y t') (hx0 : lookL l x = some (.int k a)) (hy0 : lookL l y = some (.int k' b)) (hb : 0 ≤ b) (hd : a.fdiv (2 ^ min b.toNat k.bits) = d) : (execOp (Fr l).eval o).run P w = .ok (.value (.int k d)) w := by
  subst hd
  exact r_bin ho hx0 hy0 (by simp [eqGuard]) (by simp [binOp, Op.shift, show ¬ b < 0 by omega])
theorem rep_at (f : α → List Value) (s : Nat) (z : α) (hf : (f z).length = s) : ∀ (n j : Nat), j < n * s → ((List.replicate n z).flatMap f)[j]? = (f z)[j % s]?
  | 0, j, h => by omega
  | n + 1, j, h => by
    rw [List.replicate_succ, List.flatMap_cons]
    by_cases hj : j < s
    · rw [List.getElem?_append_left (by omega), Nat.mod_eq_of_lt hj]
    · rw [List.getElem?_append_right (by omega), hf, rep_at f s z hf n (j - s) (by rw [Nat.add_mul] at h; omega), ← Nat.mod_eq_sub_mod (by omega)]
/-- A slice that is made: so many times the zero value. -/
theorem r_mk (f : α → List Value) (z : α) (m c : Nat) {t T : TypeId} {x y : Operand} {k k' : IntKind} {a b : Int} (ho : o.op = .makeSlice t x y) (hx0 : lookL l x = some (.int k a)) (hy0 : lookL l y = some (.int k' b)) (h : Sat E H w)
    (ha : a = (m : Int)) (hb : b = (c : Int)) (hmc : m ≤ c) (hc : c ≤ 1048576) (ht : P.underlying t = some (.slice T)) (hz : ((P.info? T).bind (·.zero)).bind cellsL = some (f z)) (hsz : szOf P T = sz) (hby : byOf P T ≤ 4096) (h0 : 0 < sz) (hf : (f z).length = sz) :
    ∃ g w', (execOp (Fr l).eval o).run P w = .ok (.value (.slice (some ⟨g, 0, none⟩) m c)) w' ∧ Sat E (H * oL T sz f (.slice (some ⟨g, 0, none⟩) m c) (List.replicate m z)) w' := by
  have hx := lookL_eval hx0
  have hy := lookL_eval hy0
  subst ha hb
  cases hi : P.info? T with
  | none => simp [hi] at hz
  | some i =>
    cases hzz : i.zero with
    | none => simp [hi, hzz] at hz
    | some zv =>
      simp only [hi, hzz, Option.bind_some] at hz
      have hcl := cellsL_eq hz
      simp only [szOf, hi] at hsz
      simp only [byOf, hi] at hby
      have hbn : i.bytes * c ≤ 4096 * 1048576 := Nat.mul_le_mul hby hc
      have hr := run_make (P := P) (w := w) t T i zv ht hi hzz k k' m c (by omega) (by omega) (by
        have h : ((i.bytes * c : Nat) : Int) ≤ 281474976710656 := by omega
        rwa [Int.natCast_mul] at h) (by omega)
      simp only [Int.toNat_natCast, hsz, hcl] at hr
      refine ⟨w.heap.size, w.alloc (.cells (madeCells (f z).toArray (c * sz)) T), ?_, ?_⟩
      · simp only [execOp, ho, hx, hy, Sem.run_bind, hr, Result.andThen_ok, Sem.run_pure]
      · have hms : m * sz ≤ c * sz := Nat.mul_le_mul_right _ hmc
        have := (h.alloc (.cells (madeCells (f z).toArray (c * sz)) T)).mkOsl (T := T) (sz := sz) (n := m) (off := 0) (cap := c) (xs := (List.replicate m z).flatMap f) (by
          rw [List.length_flatMap]; simp [hf]) hmc (by unfold maxLen; omega) (by rw [size_madeCells]; omega) (by
          rw [List.drop_zero]
          refine List.ext_getElem? fun j => ?_
          rw [List.getElem?_take]
          split
          · rename_i hj
            rw [rep_at f sz z hf m j hj]
            have hjs : j % sz < (f z).length := by rw [hf]; exact Nat.mod_lt _ h0
            have h1 : (madeCells (f z).toArray (c * sz))[j]? = some ((f z).toArray[j % (f z).toArray.size]!) := by
              unfold madeCells
              rw [Array.getElem?_map]
              rw [Array.getElem?_range]
              simp [show j < c * sz by omega]
            have h2 : (madeCells (f z).toArray (c * sz)).toList[j]? = (madeCells (f z).toArray (c * sz))[j]? := by simp
            rw [h2, h1, List.size_toArray, hf, List.getElem?_eq_getElem hjs]
            congr 1
            rw [getElem!_pos (f z).toArray (j % sz) (by simpa using hjs)]
            simp
          · rename_i hj
            rw [List.getElem?_eq_none]
            rw [List.length_flatMap]; simp [hf]; omega)
        unfold oL
        rw [List.length_replicate]; exact this
end
theorem mask_n {x : Int} {n : Nat} (N : Int) (h1 : ((2 ^ n : Nat) : Int) = N) (h2 : n ≤ 62) : bits .and .i64 x (N - 1) = x % N := by
  have := mask_i64 x n h2
  subst h1
  rw [← this]
  congr 1
  have := Nat.two_pow_pos n
  omega
theorem mask1 (x : Int) : bits .and .i64 x 1 = x % 2 := mask_n (n := 1) 2 rfl (by decide)
theorem mask3 (x : Int) : bits .and .i64 x 3 = x % 4 := mask_n (n := 2) 4 rfl (by decide)
theorem mask7 (x : Int) : bits .and .i64 x 7 = x % 8 := mask_n (n := 3) 8 rfl (by decide)
theorem mask15 (x : Int) : bits .and .i64 x 15 = x % 16 := mask_n (n := 4) 16 rfl (by decide)
theorem mask31 (x : Int) : bits .and .i64 x 31 = x % 32 := mask_n (n := 5) 32 rfl (by decide)
theorem mask255 (x : Int) : bits .and .i64 x 255 = x % 256 := mask_n (n := 8) 256 rfl (by decide)
theorem mask65535 (x : Int) : bits .and .i64 x 65535 = x % 65536 := mask_n (n := 16) 65536 rfl (by decide)

/-! ### What is left over; cells of simple things -/
/-- What is left over is let go. -/
def Keeps (R' R : HP) : Prop := ∀ (E : World) (A : HP) (w : World), Sat E (R' * A) w → Sat E (R * A) w
theorem Keeps.refl (R : HP) : Keeps R R := fun _ _ _ h => h
theorem Keeps.drop {R' R B : HP} (h : Keeps R' R) : Keeps (R' * B) R := fun E A w hs => h E A w ((hs.eq (star_right_comm _ _ _)).drop)
theorem Keeps.tail {R' R B : HP} (h : Keeps R' R) : Keeps (R' * B) (R * B) := fun E A w hs => (h E (B * A) w (hs.eq (star_assoc _ _ _))).eq (star_assoc _ _ _).symm
theorem fin1 {E : World} {H R R' A : HP} {w : World} (h : Sat E H w) (c : Cut H A R') (k : Keeps R' R) : Sat E (R * A) w := k _ _ _ (h.cut c)
theorem fin0 {E : World} {R R' : HP} {w : World} (h : Sat E R' w) (k : Keeps R' R) : Sat E R w := (k _ emp _ h.mkEmp).eq (star_emp _)
theorem Sat.dupL {α : Type} {E : World} {H R : HP} {w : World} {sz : Nat} {f : α → List Value} {v : Value} {L : List α} (h : Sat E H w) (c : Cut H (rL sz f v L) R) : Sat E (H * rL sz f v L) w :=
  ((h.cut c).dup (Lasts.ofRL _ _ _ _)).eq (by rw [← c.eq])
def intC (n : Int) : List Value := [.int .i64 n]
def valC (v : Value) : List Value := [v]
def booC (b : Bool) : List Value := [.bool b]
def strC (s : ByteArray) : List Value := [.string s]
/-! ### A head whose operations come up in several orders -/
/-- An order of a head, with all that may come up instead. -/
inductive HT
  | done
  | none
  | take (i : Nat) (t : HT)
  | alt (i : Nat) (t r : HT)
def HT.idx : HT → List Nat
  | .alt i _ r => i :: r.idx
  | _ => []
def HT.depth : HT → Nat
  | .take _ t => t.depth + 1
  | .alt _ t _ => t.depth + 1
  | _ => 0
def HT.path : HT → List Nat
  | .take i t => i :: t.path
  | .alt i t _ => i :: t.path
  | _ => []
def HT.isNone : HT → Bool
  | .none => true
  | _ => false
section
variable (P : Program) (ops : Array Oper) (Q : Exit → Act → World → Prop) (S : World → Prop) (L : Act → World → Prop)
def wpHT : HT → Act → World → Prop
  | .done, a, w => L a w
  | .none, _, _ => True
  | .take i t, a, w => wpHi P ops Q S (fun a' w' => wpHT t a' w') [(i, true)] a w
  | .alt i t r, a, w => wpHi P ops Q S (fun a' w' => wpHT t a' w') [(i, false)] a w ∧ wpHT r a w
end
section
variable {P : Program} {ops : Array Oper} {Q : Exit → Act → World → Prop} {S : World → Prop} {L : Act → World → Prop} {a : Act} {w : World} {i : Nat} {t r : HT}
theorem t_done (h : L a w) : wpHT P ops Q S L .done a w := h
theorem t_none : wpHT P ops Q S L .none a w := trivial
theorem t_take (h : wpHi P ops Q S (fun a' w' => wpHT P ops Q S L t a' w') [(i, true)] a w) : wpHT P ops Q S L (.take i t) a w := h
theorem t_alt (h : wpHi P ops Q S (fun a' w' => wpHT P ops Q S L t a' w') [(i, false)] a w) (h' : wpHT P ops Q S L r a w) : wpHT P ops Q S L (.alt i t r) a w := ⟨h, h'⟩
end
def headT (md : Region.Mode) (ops : Array Oper) (n : Nat) (l1 : Array Bool) : Bool → HT → Array Bool → Bool
  | top, .done, listed => top && decide (listed = l1) && (Region.ready md ops listed).all fun j => decide (n ≤ j)
  | top, .none, _ => !top
  | top, .take i t, listed => top && decide (i < n) && (Region.ready md ops listed).contains i && Region.free md ops listed i && headT md ops n l1 true t (listed.setIfInBounds i true)
  | top, .alt i t r, listed => (!top || (Region.ready md ops listed).all fun j => (i :: r.idx).contains j) && decide (i < n) && (Region.ready md ops listed).contains i && headT md ops n l1 true t (listed.setIfInBounds i true) && (r.isNone || decide (r.depth = t.depth + 1)) && headT md ops n l1 false r listed
section
variable {P : Program} {ops : Array Oper} {Q : Exit → Act → World → Prop} {md : Region.Mode} {S : World → Prop}
theorem wpHT_hd {n : Nat} {l0 l1 : Array Bool} {Lq : Act → World → Prop} (hsel : Region.noSelect ops = true) (hH : HeadFirst md ops n l0) (hQ : ∀ c a d v w, Q (.panic c) (Act.put a d v) w → Q (.panic c) a w) :
    ∀ (t : HT) (top : Bool) (listed : Array Bool) (a : Act) (w : World), HeadInv md ops n listed → (∀ i, l0.getD i false = true → listed.getD i false = true) → headT md ops n l1 top t listed = true → S w → wpHT P ops Q S Lq t a w →
    (top = true → wpHd P md ops Q S n (fun listed' a' w' => (listed' = l1 ∧ ∀ j ∈ Region.ready md ops listed', n ≤ j) ∧ Lq a' w') t.depth listed a w) ∧
    (∀ j ∈ t.idx, j < n ∧ wpOp P ops Q j (fun a' w' => S w' ∧ wpHd P md ops Q S n (fun listed' a' w' => (listed' = l1 ∧ ∀ j ∈ Region.ready md ops listed', n ≤ j) ∧ Lq a' w') (t.depth - 1) (listed.setIfInBounds j true) a' w') a w)
  | .done, top, listed, a, w, inv, hsup, hB, hS, h => by
    simp only [headT, Bool.and_eq_true, decide_eq_true_eq, List.all_eq_true] at hB
    exact ⟨fun _ => ⟨⟨hB.1.2, hB.2⟩, h⟩, by simp [HT.idx]⟩
  | .none, top, listed, a, w, inv, hsup, hB, hS, h => by
    simp only [headT, Bool.not_eq_true'] at hB
    subst hB
    exact ⟨by simp, by simp [HT.idx]⟩
  | .take i t, top, listed, a, w, inv, hsup, hB, hS, h => by
    simp only [headT, Bool.and_eq_true, decide_eq_true_eq] at hB
    obtain ⟨⟨⟨⟨_, hin⟩, hr⟩, hf⟩, hB'⟩ := hB
    obtain ⟨o, v, ho, hy, hk⟩ := h
    have hr' : i ∈ Region.ready md ops listed := by simpa using hr
    refine ⟨fun _ => wpHd_first ho (Region.noSelect_spec hsel) hH hin (fun c a w => hQ c a _ _ w) (fun listed' a' w' hL => hL.1.2) t.depth listed a w inv hsup (Region.free_spec ho hf) hr' hy hS
      ((wpHT_hd hsel hH hQ t true _ _ w (inv.set hr' hin) (sup_set hsup) hB' hS hk).1 rfl), by simp [HT.idx]⟩
  | .alt i t r, top, listed, a, w, inv, hsup, hB, hS, h => by
    simp only [headT, Bool.and_eq_true, decide_eq_true_eq, Bool.or_eq_true, Bool.not_eq_true', List.all_eq_true] at hB
    obtain ⟨⟨⟨⟨⟨htop, hin⟩, hr⟩, hBt⟩, hd⟩, hBr⟩ := hB
    obtain ⟨h1, h2⟩ := h
    have hr' : i ∈ Region.ready md ops listed := by simpa using hr
    have key : ∀ j ∈ (HT.alt i t r).idx, j < n ∧ wpOp P ops Q j (fun a' w' => S w' ∧ wpHd P md ops Q S n (fun listed' a' w' => (listed' = l1 ∧ ∀ j ∈ Region.ready md ops listed', n ≤ j) ∧ Lq a' w') ((HT.alt i t r).depth - 1) (listed.setIfInBounds j true) a' w') a w := by
      intro j hj
      simp only [HT.idx, List.mem_cons] at hj
      rcases hj with rfl | hj
      · refine ⟨hin, wpOp_mono (fun a' w' h' => ⟨h'.1, ?_⟩) h1⟩
        exact (wpHT_hd hsel hH hQ t true _ a' w' (inv.set hr' hin) (sup_set hsup) hBt h'.1 h'.2).1 rfl
      · have ih := (wpHT_hd hsel hH hQ r false listed a w inv hsup hBr hS h2).2 j hj
        rcases hd with hd | hd
        · cases r <;> simp [HT.isNone] at hd
          simp [HT.idx] at hj
        · rw [hd] at ih
          exact ih
    refine ⟨fun ht => ?_, key⟩
    subst ht
    have hall : ∀ j ∈ Region.ready md ops listed, (i :: r.idx).contains j = true := by simpa using htop
    refine ⟨fun h0 => (by rw [h0] at hr'; cases hr'), fun j hj => key j ?_⟩
    have := hall j hj
    simpa [HT.idx] using this
theorem d_tree {l : List Oper} {a : Act} {w : World} {listed : Array Bool} (n : Nat) (t : HT) (S : World → Prop) {fuel g : Nat}
    (hB : (Region.noSelect l.toArray && closedB .any l.toArray listed && tailB l.toArray n listed && firstB .any l.toArray n listed && headT .any l.toArray n (preL t.path listed) true t listed && decide (fuel = t.depth + g)) = true)
    (hQ : ∀ c a d v w, Q (.panic c) (Act.put a d v) w → Q (.panic c) a w) (hS : S w)
    (h : wpHT P l.toArray Q S (fun a' w' => wpAny P .any l.toArray Q g (preL t.path listed) a' w') t a w) : wpAny P .any l.toArray Q fuel listed a w := by
  simp only [Bool.and_eq_true, decide_eq_true_eq] at hB
  obtain ⟨⟨⟨⟨⟨hsel, hc⟩, ht⟩, hf⟩, hh⟩, rfl⟩ := hB
  have H := (wpHT_hd (md := .any) hsel (headFirst_of hf) hQ t true listed a w (inv_of hc ht) (fun _ h => h) hh hS h).1 rfl
  exact wpAny_of_hd (md := .any) (g := g) (fun listed' a' w' hL => by rw [hL.1.1]; exact hL.2) _ _ _ _ H
end
theorem Holds.mono {E : World} {K' K : HP} {w : World} (h : Holds E K' w) (k : ∀ (E : World) (A : HP) (w : World), Sat E (K' * A) w → Sat E (K * A) w) : Holds E K w := by
  obtain ⟨R, h⟩ := h
  exact ⟨R, (k E R w h.swap).swap⟩
/-- The parts of an assertion in another order. -/
inductive Perm : HP → HP → Prop
  | refl (H : HP) : Perm H H
  | step {H B R T : HP} : Cut H B R → Perm R T → Perm H (T * B)
theorem Perm.eq {H T : HP} (h : Perm H T) : H = T := by
  induction h with
  | refl => rfl
  | step c _ ih => rw [c.eq, ih]
theorem Sat.perm {E : World} {H T : HP} {w : World} (h : Sat E H w) (p : Perm H T := by (repeat (first | exact Perm.refl _ | (apply Perm.step; (repeat (first | exact Cut.head _ _ | apply Cut.tail))))); done) : Sat E T w := h.eq p.eq
/-- .. and what else there is is let go. -/
inductive PermK : HP → HP → Prop
  | keep {H T : HP} (k : Keeps H T) : PermK H T
  | step {H B R T : HP} (c : Cut H B R) (p : PermK R T) : PermK H (T * B)
theorem PermK.keeps {H T : HP} (p : PermK H T) : Keeps H T := by
  induction p with
  | keep k => exact k
  | step c _ ih => rw [c.eq]; exact ih.tail
theorem Sat.permK {E : World} {H T : HP} {w : World} (h : Sat E H w) (p : PermK H T := by (repeat (apply PermK.step; (repeat (first | exact Cut.head _ _ | apply Cut.tail)))); exact PermK.keep (by repeat (first | exact Keeps.refl _ | apply Keeps.tail | apply Keeps.drop))) : Sat E T w := fin0 h p.keeps
section
variable {P : Program} {Q : Exit → Act → World → Prop} {l : List Value} {w : World}
/-- A piece of code whose ways meet again. -/
theorem c_meet {c1 c2 : Code} (ws : List Nat) (R : List Value → World → Prop)
    (h1 : ∀ K : Act → World → Prop, (∀ l1 xs w', getM l1 ws = some xs → putM l ws xs = some l1 → R xs w' → K (Fr l1) w') → c1.wp P (Exit.then K Q) (Fr l) w)
    (h2 : ∀ xs w', R xs w' → ∃ l1, putM l ws xs = some l1 ∧ c2.wp P Q (Fr l1) w') : (Code.seq c1 c2).wp P Q (Fr l) w :=
  wp_seq (h1 _ fun l1 xs w' hg hp hR => by
    obtain ⟨l2, h3, h4⟩ := h2 xs w' hR
    obtain rfl : l2 = l1 := Option.some.inj (h3.symm.trans hp)
    exact h4)
end
end Go.Proofs.Ytoeaamohchpjdaa
