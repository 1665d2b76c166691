/-
  Separation logic over blocks of memory, for the walks of this seat: assertions on owned and on read-only blocks, and how they change where memory is laid, read and written. It speaks of no program.
-/
import Derived.WalkKit
import Derived.WalkSpells
import Derived.WalkLawsBesides
namespace Go.Proofs.Ytoeaamohchpjdaa
open Go Go.RowKit
set_option linter.unusedVariables false

/-- A part of memory: some blocks, by their numbers. -/
abbrev Hl := Nat → Option Obj

def Hl.le (a b : Hl) : Prop := ∀ k x, a k = some x → b k = some x
theorem Hl.le_refl (a : Hl) : Hl.le a a := fun _ _ h => h
theorem Hl.le_trans {a b c : Hl} (h : Hl.le a b) (h' : Hl.le b c) : Hl.le a c := fun k x e => h' k x (h k x e)
theorem Hl.none_le (a : Hl) : Hl.le (fun _ => none) a := fun _ _ e => by cases e
def Hl.apart (a b : Hl) : Prop := ∀ k, a k = none ∨ b k = none
theorem Hl.apart_symm {a b : Hl} (h : Hl.apart a b) : Hl.apart b a := fun k => (h k).symm
theorem Hl.apart_le {a a' b b' : Hl} (h : Hl.apart a b) (ha : Hl.le a' a) (hb : Hl.le b' b) : Hl.apart a' b' := by
  intro k
  rcases h k with h | h
  · left
    cases e : a' k with
    | none => rfl
    | some x => have := ha k x e; rw [h] at this; cases this
  · right
    cases e : b' k with
    | none => rfl
    | some x => have := hb k x e; rw [h] at this; cases this
def Hl.join (a b : Hl) : Hl := fun k => match a k with | some x => some x | none => b k
theorem Hl.le_join_left (a b : Hl) : Hl.le a (Hl.join a b) := fun k x h => by simp [Hl.join, h]
theorem Hl.le_join_right {a b : Hl} (h : Hl.apart a b) : Hl.le b (Hl.join a b) := by
  intro k x e
  rcases h k with h | h
  · simp [Hl.join, h, e]
  · rw [h] at e; cases e
theorem Hl.join_le {a b c : Hl} (ha : Hl.le a c) (hb : Hl.le b c) : Hl.le (Hl.join a b) c := by
  intro k x e
  unfold Hl.join at e
  split at e
  · rename_i y h; cases e; exact ha k _ h
  · exact hb k x e
theorem Hl.apart_join {a b c : Hl} (ha : Hl.apart a c) (hb : Hl.apart b c) : Hl.apart (Hl.join a b) c := by
  intro k
  rcases ha k with h | h
  · rcases hb k with h' | h'
    · left; simp [Hl.join, h, h']
    · right; exact h'
  · right; exact h

/-- An assertion: of the blocks that are owned, and of those that nobody writes any more. -/
structure HP where
  f : Hl → Hl → Prop
  mono : ∀ {o o' r r' : Hl}, Hl.le o o' → Hl.le r r' → f o r → f o' r'

theorem HP.eq_of {P Q : HP} (h : ∀ o r, P.f o r ↔ Q.f o r) : P = Q := by
  cases P with | mk f hf => cases Q with | mk g hg =>
  have : f = g := by funext o r; exact propext (h o r)
  subst this; rfl

def HP.star (P Q : HP) : HP where
  f o r := ∃ a b : Hl, Hl.apart a b ∧ Hl.le a o ∧ Hl.le b o ∧ P.f a r ∧ Q.f b r
  mono := fun ho hr ⟨a, b, h, ha, hb, p, q⟩ => ⟨a, b, h, Hl.le_trans ha ho, Hl.le_trans hb ho, P.mono (Hl.le_refl _) hr p, Q.mono (Hl.le_refl _) hr q⟩
instance : Mul HP := ⟨HP.star⟩

def emp : HP := ⟨fun _ _ => True, fun _ _ _ => trivial⟩
/-- A fact on numbers and the like. -/
def fact (p : Prop) : HP := ⟨fun _ _ => p, fun _ _ h => h⟩
/-- A block of one's own. -/
def own (b : Nat) (x : Obj) : HP := ⟨fun o _ => o b = some x, fun ho _ h => ho _ _ h⟩
/-- A block that nobody writes any more. -/
def fix (b : Nat) (x : Obj) : HP := ⟨fun _ r => r b = some x, fun _ hr h => hr _ _ h⟩
def some' {α : Sort _} (F : α → HP) : HP := ⟨fun o r => ∃ a, (F a).f o r, fun ho hr ⟨a, h⟩ => ⟨a, (F a).mono ho hr h⟩⟩

theorem star_def (P Q : HP) : P * Q = HP.star P Q := rfl
theorem star_comm (P Q : HP) : P * Q = Q * P :=
  HP.eq_of fun _ _ => ⟨fun ⟨a, b, h, ha, hb, p, q⟩ => ⟨b, a, Hl.apart_symm h, hb, ha, q, p⟩, fun ⟨a, b, h, ha, hb, p, q⟩ => ⟨b, a, Hl.apart_symm h, hb, ha, q, p⟩⟩
theorem star_assoc (P Q R : HP) : P * Q * R = P * (Q * R) := by
  refine HP.eq_of fun o r => ⟨?_, ?_⟩
  · rintro ⟨a, b, h, ha, hb, ⟨c, d, h', hc, hd, p, q⟩, z⟩
    refine ⟨c, Hl.join d b, ?_, Hl.le_trans hc ha, Hl.join_le (Hl.le_trans hd ha) hb, p, d, b, Hl.apart_le h hd (Hl.le_refl _), Hl.le_join_left _ _, Hl.le_join_right (Hl.apart_le h hd (Hl.le_refl _)), q, z⟩
    exact Hl.apart_symm (Hl.apart_join (Hl.apart_symm h') (Hl.apart_symm (Hl.apart_le h hc (Hl.le_refl _))))
  · rintro ⟨a, b, h, ha, hb, p, c, d, h', hc, hd, q, z⟩
    refine ⟨Hl.join a c, d, ?_, Hl.join_le ha (Hl.le_trans hc hb), Hl.le_trans hd hb, ⟨a, c, Hl.apart_le h (Hl.le_refl _) hc, Hl.le_join_left _ _, Hl.le_join_right (Hl.apart_le h (Hl.le_refl _) hc), p, q⟩, z⟩
    exact Hl.apart_join (Hl.apart_le h (Hl.le_refl _) hd) h'
theorem star_left_comm (P Q R : HP) : P * (Q * R) = Q * (P * R) := by rw [← star_assoc, star_comm P Q, star_assoc]
theorem star_right_comm (P Q R : HP) : P * Q * R = P * R * Q := by rw [star_assoc, star_comm Q R, ← star_assoc]
theorem star_emp (P : HP) : P * emp = P :=
  HP.eq_of fun o r => ⟨fun ⟨_, _, _, ha, _, p, _⟩ => P.mono ha (Hl.le_refl _) p,
    fun p => ⟨o, fun _ => none, fun _ => .inr rfl, Hl.le_refl _, Hl.none_le _, p, trivial⟩⟩
theorem emp_star (P : HP) : emp * P = P := by rw [star_comm, star_emp]
instance : Std.Associative (α := HP) (· * ·) := ⟨star_assoc⟩
instance : Std.Commutative (α := HP) (· * ·) := ⟨star_comm⟩

/-- One assertion gives another one. -/
def Ent (P Q : HP) : Prop := ∀ o r, P.f o r → Q.f o r
theorem Ent.refl (P : HP) : Ent P P := fun _ _ h => h
theorem Ent.trans {P Q R : HP} (h : Ent P Q) (h' : Ent Q R) : Ent P R := fun o r p => h' o r (h o r p)
theorem Ent.of_eq {P Q : HP} (h : P = Q) : Ent P Q := by rw [h]; exact Ent.refl Q
theorem Ent.star {P P' Q Q' : HP} (h : Ent P P') (h' : Ent Q Q') : Ent (P * Q) (P' * Q') :=
  fun _ _ ⟨a, b, e, ha, hb, p, q⟩ => ⟨a, b, e, ha, hb, h _ _ p, h' _ _ q⟩
theorem Ent.left {P P' : HP} (h : Ent P P') (Q : HP) : Ent (P * Q) (P' * Q) := Ent.star h (Ent.refl Q)
theorem Ent.right {P P' : HP} (h : Ent P P') (Q : HP) : Ent (Q * P) (Q * P') := Ent.star (Ent.refl Q) h
theorem Ent.drop (P Q : HP) : Ent (P * Q) P := fun _ _ ⟨_, _, _, ha, _, p, _⟩ => P.mono ha (Hl.le_refl _) p
theorem fact_star (p : Prop) (P : HP) (o r : Hl) : (P * fact p).f o r ↔ P.f o r ∧ p :=
  ⟨fun ⟨_, _, _, ha, _, h, hp⟩ => ⟨P.mono ha (Hl.le_refl _) h, hp⟩, fun ⟨h, hp⟩ => ⟨o, fun _ => none, fun _ => .inr rfl, Hl.le_refl _, Hl.none_le _, h, hp⟩⟩
theorem star_some {α : Sort _} (P : HP) (F : α → HP) : P * some' F = some' fun a => P * F a :=
  HP.eq_of fun _ _ => ⟨fun ⟨a, b, h, ha, hb, p, x, q⟩ => ⟨x, a, b, h, ha, hb, p, q⟩, fun ⟨x, a, b, h, ha, hb, p, q⟩ => ⟨a, b, h, ha, hb, p, x, q⟩⟩
theorem fix_dup (b : Nat) (x : Obj) : fix b x * fix b x = fix b x :=
  HP.eq_of fun o r => ⟨fun ⟨_, _, _, _, _, _, h⟩ => h, fun h => ⟨o, fun _ => none, fun _ => .inr rfl, Hl.le_refl _, Hl.none_le _, h, h⟩⟩

/-- What is fixed may be had twice. -/
def Lasts (P : HP) : Prop := ∀ o r, P.f o r → P.f (fun _ => none) r
theorem Lasts.dup {P : HP} (h : Lasts P) : P * P = P :=
  HP.eq_of fun o r => ⟨fun ⟨_, _, _, ha, _, p, _⟩ => P.mono ha (Hl.le_refl _) p, fun p => ⟨o, fun _ => none, fun _ => .inr rfl, Hl.le_refl _, Hl.none_le _, p, h _ _ p⟩⟩
theorem Lasts.ofFix (b : Nat) (x : Obj) : Lasts (fix b x) := fun _ _ h => h
theorem Lasts.ofFact (p : Prop) : Lasts (fact p) := fun _ _ h => h
theorem Lasts.ofEmp : Lasts emp := fun _ _ _ => trivial
theorem Lasts.star {P Q : HP} (h : Lasts P) (h' : Lasts Q) : Lasts (P * Q) :=
  fun _ _ ⟨_, _, _, _, _, p, q⟩ => ⟨fun _ => none, fun _ => none, fun _ => .inr rfl, Hl.le_refl _, Hl.le_refl _, h _ _ p, h' _ _ q⟩
theorem Lasts.ofSome {α : Sort _} {F : α → HP} (h : ∀ a, Lasts (F a)) : Lasts (some' F) := fun o r ⟨a, p⟩ => ⟨a, h a o r p⟩

/-- The world is one in which the assertion holds (E: what was printed, and the outside, as they were). -/
def Sat (E : World) (H : HP) (w : World) : Prop :=
  (w.os = E.os ∧ w.output = E.output ∧ w.tape = E.tape) ∧
  ∃ o r : Hl, (∀ (k : Nat) (x : Obj), o k = some x → w.heap[k]? = some x) ∧ (∀ (k : Nat) (x : Obj), r k = some x → w.heap[k]? = some x) ∧ Hl.apart o r ∧ H.f o r

theorem Sat.ent {E : World} {H H' : HP} {w : World} (h : Sat E H w) (e : Ent H H') : Sat E H' w := by
  obtain ⟨env, o, r, ho, hr, a, p⟩ := h
  exact ⟨env, o, r, ho, hr, a, e _ _ p⟩
theorem Sat.eq {E : World} {H H' : HP} {w : World} (h : Sat E H w) (e : H = H') : Sat E H' w := e ▸ h
theorem Sat.drop {E : World} {P Q : HP} {w : World} (h : Sat E (P * Q) w) : Sat E P w := h.ent (Ent.drop P Q)
theorem Sat.swap {E : World} {P Q : HP} {w : World} (h : Sat E (P * Q) w) : Sat E (Q * P) w := h.eq (star_comm P Q)
theorem Sat.getOwn {E : World} {R : HP} {b : Nat} {x : Obj} {w : World} (h : Sat E (R * own b x) w) : w.heap[b]? = some x := by
  obtain ⟨_, o, r, ho, _, _, c, d, _, _, hd, _, q⟩ := h
  exact ho _ _ (hd _ _ q)
theorem Sat.getFix {E : World} {R : HP} {b : Nat} {x : Obj} {w : World} (h : Sat E (R * fix b x) w) : w.heap[b]? = some x := by
  obtain ⟨_, o, r, _, hr, _, c, d, _, _, _, _, q⟩ := h
  exact hr _ _ q
theorem Sat.getFact {E : World} {R : HP} {p : Prop} {w : World} (h : Sat E (R * fact p) w) : Sat E R w ∧ p := by
  obtain ⟨env, o, r, ho, hr, a, q⟩ := h
  rw [fact_star] at q
  exact ⟨⟨env, o, r, ho, hr, a, q.1⟩, q.2⟩
theorem Sat.mkFact {E : World} {R : HP} {p : Prop} {w : World} (h : Sat E R w) (hp : p) : Sat E (R * fact p) w := by
  obtain ⟨env, o, r, ho, hr, a, q⟩ := h
  exact ⟨env, o, r, ho, hr, a, (fact_star p R o r).2 ⟨q, hp⟩⟩
theorem Sat.getSome {E : World} {R : HP} {α : Sort _} {F : α → HP} {w : World} (h : Sat E (R * some' F) w) : ∃ a, Sat E (R * F a) w := by
  rw [star_some] at h
  obtain ⟨env, o, r, ho, hr, a, x, q⟩ := h
  exact ⟨x, env, o, r, ho, hr, a, q⟩
theorem Sat.mkSome {E : World} {R : HP} {α : Sort _} {F : α → HP} {w : World} (x : α) (h : Sat E (R * F x) w) : Sat E (R * some' F) w := by
  rw [star_some]
  obtain ⟨env, o, r, ho, hr, a, q⟩ := h
  exact ⟨env, o, r, ho, hr, a, x, q⟩
theorem Sat.mkEmp {E : World} {R : HP} {w : World} (h : Sat E R w) : Sat E (R * emp) w := h.eq (star_emp R).symm
theorem Sat.dup {E : World} {R P : HP} {w : World} (h : Sat E (R * P) w) (l : Lasts P) : Sat E (R * P * P) w := h.eq (by rw [star_assoc, l.dup])

/-- Another world with the same blocks. -/
theorem Sat.same {E : World} {H : HP} {w w' : World} (h : Sat E H w) (hh : ∀ (k : Nat) (x : Obj), w.heap[k]? = some x → w'.heap[k]? = some x) (h1 : w'.os = w.os) (h2 : w'.output = w.output) (h3 : w'.tape = w.tape) : Sat E H w' := by
  obtain ⟨⟨e1, e2, e3⟩, o, r, ho, hr, a, p⟩ := h
  exact ⟨⟨h1.trans e1, h2.trans e2, h3.trans e3⟩, o, r, fun k x e => hh k x (ho k x e), fun k x e => hh k x (hr k x e), a, p⟩
theorem Sat.drew {E : World} {H : HP} {w : World} (h : Sat E H w) : Sat E H w.drew := h.same (fun _ _ e => e) rfl rfl rfl

/-- A block is another one behind a write. -/
theorem Sat.turn {E : World} {R : HP} {b : Nat} {x y : Obj} {w w' : World} (h : Sat E (R * own b x) w) (hb : w'.heap[b]? = some y)
    (hh : ∀ (k : Nat), k ≠ b → w'.heap[k]? = w.heap[k]?) (h1 : w'.os = w.os) (h2 : w'.output = w.output) (h3 : w'.tape = w.tape) : Sat E (R * own b y) w' := by
  obtain ⟨⟨e1, e2, e3⟩, o, r, ho, hr, a, c, d, ap, hc, hd, p, q⟩ := h
  have q' : d b = some x := q
  have hcb : c b = none := by
    rcases ap b with e | e
    · exact e
    · rw [q'] at e; cases e
  have hob : o b = some x := hd _ _ q'
  have hrb : r b = none := by
    rcases a b with e | e
    · rw [hob] at e; cases e
    · exact e
  refine ⟨⟨h1.trans e1, h2.trans e2, h3.trans e3⟩, fun k => if k = b then some y else o k, r, ?_, ?_, ?_, c, fun k => if k = b then some y else none, ?_, ?_, ?_, p, ?_⟩
  · intro k z e
    by_cases hk : k = b
    · subst hk; simp at e; subst e; exact hb
    · simp [hk] at e; rw [hh k hk]; exact ho _ _ e
  · intro k z e
    by_cases hk : k = b
    · subst hk; rw [hrb] at e; cases e
    · rw [hh k hk]; exact hr _ _ e
  · intro k
    by_cases hk : k = b
    · subst hk; exact .inr hrb
    · simpa [hk] using a k
  · intro k
    by_cases hk : k = b
    · subst hk; exact .inl hcb
    · right; simp [hk]
  · intro k z e
    by_cases hk : k = b
    · subst hk; rw [hcb] at e; cases e
    · simp [hk]; exact hc _ _ e
  · intro k z e
    by_cases hk : k = b
    · subst hk; simpa using e
    · simp [hk] at e
  · show (if b = b then some y else none) = some y
    simp

theorem old_alloc (w : World) (x : Obj) {k : Nat} (h : k < w.heap.size) : (w.alloc x).heap[k]? = w.heap[k]? := Below.heap_alloc w x k h

/-- A new block. -/
theorem Sat.alloc {E : World} {H : HP} {w : World} (h : Sat E H w) (x : Obj) : Sat E (H * own w.heap.size x) (w.alloc x) := by
  obtain ⟨⟨e1, e2, e3⟩, o, r, ho, hr, a, p⟩ := h
  have hlt : ∀ {k : Nat} {z : Obj}, w.heap[k]? = some z → k < w.heap.size := fun h => (Array.getElem?_eq_some_iff.1 h).1
  have hn : ∀ (c : Hl), (∀ k z, c k = some z → w.heap[k]? = some z) → c w.heap.size = none := by
    intro c hc
    cases e : c w.heap.size with
    | none => rfl
    | some z => have := hlt (hc _ _ e); omega
  refine ⟨⟨e1, e2, e3⟩, fun k => if k = w.heap.size then some x else o k, r, ?_, ?_, ?_, o, fun k => if k = w.heap.size then some x else none, ?_, ?_, ?_, p, ?_⟩
  · intro k z e
    by_cases hk : k = w.heap.size
    · subst hk; simp at e; subst e; exact heap_alloc_new w _
    · simp [hk] at e; rw [old_alloc w x (hlt (ho _ _ e))]; exact ho _ _ e
  · intro k z e
    rw [old_alloc w x (hlt (hr _ _ e))]; exact hr _ _ e
  · intro k
    by_cases hk : k = w.heap.size
    · subst hk; exact .inr (hn r hr)
    · simpa [hk] using a k
  · intro k
    by_cases hk : k = w.heap.size
    · subst hk; exact .inl (hn o ho)
    · right; simp [hk]
  · intro k z e
    by_cases hk : k = w.heap.size
    · subst hk; rw [hn o ho] at e; cases e
    · simp [hk]; exact e
  · intro k z e
    by_cases hk : k = w.heap.size
    · subst hk; simpa using e
    · simp [hk] at e
  · show (if w.heap.size = w.heap.size then some x else none) = some x
    simp

/-- A block of one's own is let go: nobody writes it any more. -/
theorem Sat.toFix {E : World} {R : HP} {b : Nat} {x : Obj} {w : World} (h : Sat E (R * own b x) w) : Sat E (R * fix b x) w := by
  obtain ⟨env, o, r, ho, hr, a, c, d, ap, hc, hd, p, q⟩ := h
  have q' : d b = some x := q
  have hob : o b = some x := hd _ _ q'
  have hrb : r b = none := by
    rcases a b with e | e
    · rw [hob] at e; cases e
    · exact e
  have hcb : c b = none := by
    rcases ap b with e | e
    · exact e
    · rw [q'] at e; cases e
  have hle : Hl.le r (fun k => if k = b then some x else r k) := by
    intro k z e
    by_cases hk : k = b
    · subst hk; rw [hrb] at e; cases e
    · simp [hk]; exact e
  refine ⟨env, c, fun k => if k = b then some x else r k, fun k z e => ho _ _ (hc _ _ e), ?_, ?_, c, fun _ => none, fun _ => .inr rfl, Hl.le_refl _, Hl.none_le _, R.mono (Hl.le_refl _) hle p, ?_⟩
  · intro k z e
    by_cases hk : k = b
    · subst hk; simp at e; subst e; exact ho _ _ hob
    · simp [hk] at e; exact hr _ _ e
  · intro k
    by_cases hk : k = b
    · subst hk; exact .inl hcb
    · rcases a k with e | e
      · left
        cases e' : c k with
        | none => rfl
        | some z => have := hc _ _ e'; rw [e] at this; cases this
      · right; simp [hk, e]
  · simp [fix]

/-- An assertion with one part taken out. -/
inductive Cut : HP → HP → HP → Prop
  | head (R A : HP) : Cut (R * A) A R
  | tail {H A R : HP} (B : HP) : Cut H A R → Cut (H * B) A (R * B)
  | pair {H A B R R' : HP} : Cut H B R → Cut R A R' → Cut H (A * B) R'
  | nothing (H : HP) : Cut H emp H
theorem Cut.eq {H A R : HP} (h : Cut H A R) : H = R * A := by
  induction h with
  | head => rfl
  | tail B _ ih => rw [ih, star_right_comm]
  | pair _ _ ih ih' => rw [ih, ih', star_assoc]
  | nothing => rw [star_emp]
theorem Sat.cut {E : World} {H A R : HP} {w : World} (h : Sat E H w) (c : Cut H A R) : Sat E (R * A) w := h.eq c.eq

/-- What a call does: under an assertion it returns, and another one holds; whatever else holds, holds still. -/
def Spec (P : Program) (k : Nat) (args : Array Value) (pre : HP) (post : Value → HP) : Prop :=
  ∀ (E : World) (F : HP) (w : World), Sat E (F * pre) w → Calls P k args w fun e w' => ∃ v, e = .returned v ∧ Sat E (F * post v) w'

theorem Spec.use {P : Program} {k : Nat} {args : Array Value} {pre : HP} {post : Value → HP} (s : Spec P k args pre post) {E : World} {H F : HP} {w : World} (h : Sat E H w) (c : Cut H pre F)
    {R : Ending → World → Prop} (g : ∀ v w', Sat E (F * post v) w' → R (.returned v) w') : Calls P k args w R := by
  refine Calls.mono (s E F w (h.cut c)) ?_
  rintro e w' ⟨v, rfl, hv⟩
  exact g v w' hv

/-- The same where the answer is known ahead. -/
def SpecV (P : Program) (k : Nat) (args : Array Value) (pre : HP) (val : Value) (post : HP) : Prop :=
  ∀ (E : World) (F : HP) (w : World), Sat E (F * pre) w → Calls P k args w fun e w' => e = .returned val ∧ Sat E (F * post) w'
theorem SpecV.use {P : Program} {k : Nat} {args : Array Value} {pre post : HP} {val : Value} (s : SpecV P k args pre val post) {E : World} {H F : HP} {w : World} (h : Sat E H w) (c : Cut H pre F)
    {R : Ending → World → Prop} (g : ∀ w', Sat E (F * post) w' → R (.returned val) w') : Calls P k args w R := by
  refine Calls.mono (s E F w (h.cut c)) ?_
  rintro e w' ⟨rfl, hv⟩
  exact g w' hv
theorem Sat.post {E : World} {F A : HP} {w : World} {p : Prop} (h : Sat E (F * A) w) (hp : p) : Sat E (F * (A * fact p)) w := (h.mkFact hp).eq (star_assoc _ _ _)

end Go.Proofs.Ytoeaamohchpjdaa
