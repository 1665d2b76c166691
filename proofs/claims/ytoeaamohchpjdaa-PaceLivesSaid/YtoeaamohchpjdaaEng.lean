/-
  The walk's steps by laws alone, with frames as lists: every operation of a Go function by one law whose side conditions are closed by computation. It speaks of no program.
-/
import Derived.Test.YtoeaamohchpjdaaSlice
import Derived.Orders
import Derived.OrdersHeld
import Derived.StillTail
namespace Go.Proofs.Ytoeaamohchpjdaa
open Go Go.RowKit
set_option linter.unusedVariables false
set_option linter.unusedSimpArgs false

/-- A frame, as the list of its slots. -/
abbrev Fr (l : List Value) : Act := ⟨l.toArray, []⟩
def nthL : List Value → Nat → Option Value
  | [], _ => none
  | v :: _, 0 => some v
  | _ :: r, n + 1 => nthL r n
theorem nthL_eq : ∀ (l : List Value) (n : Nat), nthL l n = l[n]?
  | [], n => by simp [nthL]
  | v :: r, 0 => by simp [nthL]
  | v :: r, n + 1 => by simp [nthL, nthL_eq r n]
/-- The list with v at a place. -/
def putL : List Value → Nat → Value → Option (List Value)
  | [], _, _ => none
  | _ :: r, 0, v => some (v :: r)
  | u :: r, n + 1, v => match putL r n v with
    | some r' => some (u :: r')
    | none => none
theorem putL_eq : ∀ (l : List Value) (n : Nat) (v : Value) (l' : List Value), putL l n v = some l' → l' = l.set n v
  | [], n, v, l', h => by simp [putL] at h
  | u :: r, 0, v, l', h => by simp [putL] at h; subst h; rfl
  | u :: r, n + 1, v, l', h => by
    simp only [putL] at h
    split at h
    · rename_i r' hr
      cases h
      rw [putL_eq r n v r' hr]; rfl
    · cases h
theorem put_frame {l l' : List Value} {d : Nat} {v : Value} (h : putL l d v = some l') : (Fr l).put (some d) v = Fr l' := by
  have := putL_eq l d v l' h
  subst this
  simp [Act.put]
/-- What an operand holds. -/
def lookL (l : List Value) : Operand → Option Value
  | .tmp t => nthL l t
  | .const v => some v
  | .global g => some (.pointer (some ⟨g, 0, none⟩))
  | .func f => some (.func (.func f) #[] #[])
theorem lookL_eval {l : List Value} {x : Operand} {v : Value} (h : lookL l x = some v) : (Fr l).eval x = v := by
  cases x with
  | tmp t => simp only [lookL, nthL_eq] at h; simp [Act.eval, h]
  | const u => cases h; rfl
  | global g => cases h; rfl
  | func f => cases h; rfl
def looksL (l : List Value) : List Operand → Option (List Value)
  | [] => some []
  | x :: r => match lookL l x, looksL l r with
    | some v, some vs => some (v :: vs)
    | _, _ => none
theorem looksL_eval {l : List Value} : ∀ (xs : List Operand) (vs : List Value), looksL l xs = some vs → xs.map (Fr l).eval = vs
  | [], vs, h => by simp [looksL] at h; subst h; rfl
  | x :: r, vs, h => by
    simp only [looksL] at h
    split at h
    · rename_i v vs' hv hvs
      cases h
      simp [lookL_eval hv, looksL_eval r vs' hvs]
    · cases h
/-- Some cells of a row, one behind the other. -/
def sliceL : List Value → Nat → Nat → Option (List Value)
  | _, _, 0 => some []
  | [], _, _ + 1 => none
  | v :: r, 0, n + 1 => match sliceL r 0 n with
    | some r' => some (v :: r')
    | none => none
  | _ :: r, k + 1, n + 1 => sliceL r k (n + 1)
theorem sliceL_eq : ∀ (l : List Value) (k n : Nat) (vs : List Value), sliceL l k n = some vs → vs.length = n ∧ k + n ≤ l.length + (if n = 0 then k else 0) ∧ vs = (l.drop k).take n
  | l, k, 0, vs, h => by
    simp [sliceL] at h; subst h; simp
  | [], k, n + 1, vs, h => by simp [sliceL] at h
  | v :: r, 0, n + 1, vs, h => by
    simp only [sliceL] at h
    split at h
    · rename_i r' hr
      cases h
      obtain ⟨h1, h2, h3⟩ := sliceL_eq r 0 n r' hr
      refine ⟨by simp [h1], ?_, by simp [h3]⟩
      by_cases hn : n = 0
      · subst hn; simp
      · simp [hn] at h2 ⊢; omega
    · cases h
  | v :: r, k + 1, n + 1, vs, h => by
    simp only [sliceL] at h
    obtain ⟨h1, h2, h3⟩ := sliceL_eq r k (n + 1) vs h
    refine ⟨h1, ?_, by simpa using h3⟩
    simp at h2 ⊢; omega
/-- A row with some cells written over. -/
def wrL : List Value → Nat → List Value → Option (List Value)
  | l, _, [] => some l
  | [], _, _ :: _ => none
  | _ :: r, 0, v :: vs => match wrL r 0 vs with
    | some r' => some (v :: r')
    | none => none
  | u :: r, k + 1, v :: vs => match wrL r k (v :: vs) with
    | some r' => some (u :: r')
    | none => none
theorem wrL_eq : ∀ (l : List Value) (k : Nat) (vs l' : List Value), wrL l k vs = some l' → vs ≠ [] → k + vs.length ≤ l.length ∧ l' = l.take k ++ vs ++ l.drop (k + vs.length)
  | l, k, [], l', h, hn => absurd rfl hn
  | [], k, _ :: _, l', h, _ => by simp [wrL] at h
  | u :: r, 0, v :: vs, l', h, _ => by
    simp only [wrL] at h
    split at h
    · rename_i r' hr
      cases h
      by_cases hv : vs = []
      · subst hv; simp [wrL] at hr; subst hr; simp
      · obtain ⟨h1, h2⟩ := wrL_eq r 0 vs r' hr hv
        refine ⟨by simp at h1 ⊢; omega, by simpa using h2⟩
    · cases h
  | u :: r, k + 1, v :: vs, l', h, _ => by
    simp only [wrL] at h
    split at h
    · rename_i r' hr
      cases h
      obtain ⟨h1, h2⟩ := wrL_eq r k (v :: vs) r' hr (by simp)
      refine ⟨by simp at h1 ⊢; omega, ?_⟩
      rw [h2]
      simp [show k + 1 + (vs.length + 1) = k + (vs.length + 1) + 1 by omega]
    · cases h

/-! ### What an operation comes to -/
section
variable {P : Program} {w : World} {l : List Value} {o : Oper}

theorem r_move {x : Operand} {v : Value} (ho : o.op = .move x) (hx : lookL l x = some v) : (execOp (Fr l).eval o).run P w = .ok (.value v) w := by
  simp [execOp, ho, lookL_eval hx]
theorem r_assign {x : Operand} {v : Value} (ho : o.op = .assign x) (hx : lookL l x = some v) : (execOp (Fr l).eval o).run P w = .ok (.value v) w := by
  simp [execOp, ho, lookL_eval hx]
theorem r_pickT {c x y : Operand} {v : Value} (ho : o.op = .pick c x y) (hc : lookL l c = some (.bool true)) (hx : lookL l x = some v) : (execOp (Fr l).eval o).run P w = .ok (.value v) w := by
  simp [execOp, ho, lookL_eval hc, lookL_eval hx, asBool]
theorem r_pickF {c x y : Operand} {v : Value} (ho : o.op = .pick c x y) (hc : lookL l c = some (.bool false)) (hy : lookL l y = some v) : (execOp (Fr l).eval o).run P w = .ok (.value v) w := by
  simp [execOp, ho, lookL_eval hc, lookL_eval hy, asBool]
theorem r_nil {x : Operand} {ad : Addr} (ho : o.op = .nilCheck x) (hx : lookL l x = some (.pointer (some ad))) : (execOp (Fr l).eval o).run P w = .ok (.value (.pointer (some ad))) w := by
  simp [execOp, ho, lookL_eval hx]
/-- Where a field lies. -/
def offOf (P : Program) (t : TypeId) (f : Nat) : Option Nat := match P.underlying t with
  | some (.struct fs) => (match fs[f]? with
    | some fd => (match P.info? fd.type with
      | some i => if i.size = 0 then none else some fd.offset
      | none => none)
    | none => none)
  | _ => none
theorem r_field {s : TypeId} {x : Operand} {f b off k : Nat} (ho : o.op = .fieldAddr s x f) (hx : lookL l x = some (.pointer (some ⟨b, off, none⟩))) (hf : offOf P s f = some k) :
    (execOp (Fr l).eval o).run P w = .ok (.value (.pointer (some ⟨b, off + k, none⟩))) w := by
  unfold offOf at hf
  split at hf
  · rename_i fs hu
    split at hf
    · rename_i fd hfd
      split at hf
      · rename_i i hi
        split at hf
        · cases hf
        · rename_i hz
          cases hf
          simp [execOp, ho, lookL_eval hx, Instr.fieldAt, run_underlying hu, hfd, Instr.sureAddr, fieldPlace, sizeOf, typeInfo, hi, hz, add_mk]
      · cases hf
    · cases hf
  · cases hf
theorem r_load {t : TypeId} {x : Operand} {b off : Nat} {cs : List Value} {T : TypeId} {fr : Nat × Nat} {v : Value} (ho : o.op = .load t x) (hx : lookL l x = some (.pointer (some ⟨b, off, none⟩)))
    (hi : (isAgg t).run P w = .ok false w) (hb : w.heap[b]? = some (.cells cs.toArray T fr)) (hv : nthL cs off = some v) : (execOp (Fr l).eval o).run P w = .ok (.value v) w := by
  rw [nthL_eq] at hv
  have hc : w.cell? ⟨b, off, none⟩ = some v := by simpa [World.cell?, hb] using hv
  simp [execOp, ho, lookL_eval hx, Instr.loadAt, Instr.sureAddr, loadVar, hi, hc]
theorem run_loadL {t b off n : Nat} {cs vs : List Value} {T : TypeId} {fr : Nat × Nat} (hb : w.heap[b]? = some (.cells cs.toArray T fr))
    (hi : (isAgg t).run P w = .ok true w) (hn : (P.info? t).isSome = true) (hsz : szOf P t = n) (hv : sliceL cs off n = some vs) : (loadVar t ⟨b, off, none⟩).run P w = .ok (.agg vs.toArray) w := by
  obtain ⟨h1, h2, h3⟩ := sliceL_eq cs off n vs hv
  have hs := run_szOf (P := P) hn w
  rw [hsz, ← h1] at hs
  have hl := run_loadCells_list (P := P) w ⟨b, off, none⟩ vs (fun j u hu => by
    rw [add_mk, cell_of_row w b (off + j) _ T fr hb]
    rw [h3, List.getElem?_take] at hu
    split at hu
    · simpa [List.getElem?_drop] using hu
    · cases hu)
  simp [loadVar, hi, hs, hl]
theorem r_loadA {t : TypeId} {x : Operand} {b off n : Nat} {cs vs : List Value} {T : TypeId} {fr : Nat × Nat} (ho : o.op = .load t x) (hx : lookL l x = some (.pointer (some ⟨b, off, none⟩)))
    (hi : (isAgg t).run P w = .ok true w) (hb : w.heap[b]? = some (.cells cs.toArray T fr)) (hn : (P.info? t).isSome = true) (hsz : szOf P t = n) (hv : sliceL cs off n = some vs) : (execOp (Fr l).eval o).run P w = .ok (.value (.agg vs.toArray)) w := by
  simp [execOp, ho, lookL_eval hx, Instr.loadAt, Instr.sureAddr, run_loadL hb hi hn hsz hv]

def cmpI : BinOp → Int → Int → Option Bool
  | .eql, x, y => some (x == y)
  | .neq, x, y => some (x != y)
  | .lss, x, y => some (decide (x < y))
  | .leq, x, y => some (decide (x ≤ y))
  | .gtr, x, y => some (decide (x > y))
  | .geq, x, y => some (decide (x ≥ y))
  | _, _, _ => none
theorem r_cmp {p : BinOp} {t t' : TypeId} {x y : Operand} {k : IntKind} {a b : Int} {c : Bool} (ho : o.op = .binOp p t x y t') (hx : lookL l x = some (.int k a)) (hy : lookL l y = some (.int k b)) (hc : cmpI p a b = some c) :
    (execOp (Fr l).eval o).run P w = .ok (.value (.bool c)) w := by
  cases p <;> simp [cmpI] at hc <;> subst hc <;> simp [execOp, ho, lookL_eval hx, lookL_eval hy, eqGuard, binOp, Op.intCmp]
def cmpS : BinOp → ByteArray → ByteArray → Option Bool
  | .eql, x, y => some (x.toList == y.toList)
  | .neq, x, y => some (!(x.toList == y.toList))
  | _, _, _ => none
theorem r_cmpS {p : BinOp} {t t' : TypeId} {x y : Operand} {a b : ByteArray} {c : Bool} (ho : o.op = .binOp p t x y t') (hx : lookL l x = some (.string a)) (hy : lookL l y = some (.string b)) (hc : cmpS p a b = some c) :
    (execOp (Fr l).eval o).run P w = .ok (.value (.bool c)) w := by
  cases p <;> simp only [cmpS, Option.some.injEq, reduceCtorEq] at hc <;> subst hc <;> simp [execOp, ho, lookL_eval hx, lookL_eval hy, eqGuard, binOp, Op.stringOp]
def cmpB : BinOp → Bool → Bool → Option Bool
  | .eql, x, y => some (x == y)
  | .neq, x, y => some (!(x == y))
  | _, _, _ => none
/-- A pointer beside nil. -/
def cmpP : BinOp → Option Addr → Option Bool
  | .eql, p => some p.isNone
  | .neq, p => some (!p.isNone)
  | _, _ => none
theorem r_bin {p : BinOp} {t t' : TypeId} {x y : Operand} {u v r : Value} {w' : World} (ho : o.op = .binOp p t x y t') (hx : lookL l x = some u) (hy : lookL l y = some v) (hg : (eqGuard p t x y u v).run P w = .ok () w) (hb : (binOp p t u v).run P w = .ok r w') :
    (execOp (Fr l).eval o).run P w = .ok (.value r) w' := by
  have hx' := lookL_eval hx
  have hy' := lookL_eval hy
  simp only [execOp, ho, hx', hy', Sem.run_bind, hg, hb, Result.andThen_ok, Sem.run_pure]
theorem run_equalIn_bool {t : TypeId} (d : Nat) (a b : Bool) (hu : P.underlying t = some .bool) : (Op.equalIn (d + 1) t (.bool a) (.bool b)).run P w = .ok (a == b) w := by
  simp [Op.equalIn, run_underlying hu]
theorem run_equal_bool {t : TypeId} (a b : Bool) (hu : P.underlying t = some .bool) : (Op.equal t (.bool a) (.bool b)).run P w = .ok (a == b) w := run_equalIn_bool 9999 a b hu
theorem r_cmpB {p : BinOp} {t t' : TypeId} {x y : Operand} {a b : Bool} {c : Bool} (ho : o.op = .binOp p t x y t') (hx : lookL l x = some (.bool a)) (hy : lookL l y = some (.bool b)) (hu : P.underlying t = some .bool) (hc : cmpB p a b = some c) :
    (execOp (Fr l).eval o).run P w = .ok (.value (.bool c)) w := by
  cases p <;> simp only [cmpB, Option.some.injEq, reduceCtorEq] at hc <;> subst hc
  · exact r_bin ho hx hy (by simp [eqGuard]) (by simp only [binOp]; simp [run_equal_bool a b hu])
  · exact r_bin ho hx hy (by simp [eqGuard]) (by simp only [binOp]; simp [run_equal_bool a b hu])
theorem r_cmpP {p : BinOp} {t t' : TypeId} {x y : Operand} {a : Option Addr} {c : Bool} (ho : o.op = .binOp p t x y t') (hx : lookL l x = some (.pointer a)) (hy : lookL l y = some (.pointer none)) (hu : P.underlying t = some (.pointer (P.pointee t))) (hc : cmpP p a = some c) :
    (execOp (Fr l).eval o).run P w = .ok (.value (.bool c)) w := by
  cases p <;> simp only [cmpP, Option.some.injEq, reduceCtorEq] at hc <;> subst hc
  · exact r_bin ho hx hy (by simp [eqGuard]) (run_eql_pointer_nil w t a hu)
  · exact r_bin ho hx hy (by simp [eqGuard]) (run_neq_pointer_nil w t a hu)
def ariI : BinOp → IntKind → Int → Int → Option Int
  | .add, k, x, y => some (k.wrap (x + y))
  | .sub, k, x, y => some (k.wrap (x - y))
  | .mul, k, x, y => some (k.wrap (x * y))
  | _, _, _, _ => none
theorem r_ari {p : BinOp} {t t' : TypeId} {x y : Operand} {k : IntKind} {a b c d : Int} (ho : o.op = .binOp p t x y t') (hx : lookL l x = some (.int k a)) (hy : lookL l y = some (.int k b)) (hc : ariI p k a b = some c) (hd : c = d) :
    (execOp (Fr l).eval o).run P w = .ok (.value (.int k d)) w := by
  subst hd
  cases p <;> simp [ariI] at hc <;> subst hc <;> simp [execOp, ho, lookL_eval hx, lookL_eval hy, eqGuard, binOp, Op.intArith]
def divI : BinOp → IntKind → Int → Int → Option Int
  | .quo, k, x, y => some (k.wrap (x.tdiv y))
  | .rem, k, x, y => some (x.tmod y)
  | _, _, _, _ => none
theorem r_div {p : BinOp} {t t' : TypeId} {x y : Operand} {k : IntKind} {a b c d : Int} (ho : o.op = .binOp p t x y t') (hx : lookL l x = some (.int k a)) (hy : lookL l y = some (.int k b)) (h0 : ¬ b = 0) (hc : divI p k a b = some c) (hd : c = d) :
    (execOp (Fr l).eval o).run P w = .ok (.value (.int k d)) w := by
  subst hd
  cases p <;> simp [divI] at hc <;> subst hc <;> simp [execOp, ho, lookL_eval hx, lookL_eval hy, eqGuard, binOp, Op.intDiv, h0]
theorem r_bits {p : BinOp} {t t' : TypeId} {x y : Operand} {k : IntKind} {a b d : Int} (ho : o.op = .binOp p t x y t') (hp : p = .and ∨ p = .or ∨ p = .xor ∨ p = .andNot) (hx : lookL l x = some (.int k a)) (hy : lookL l y = some (.int k b)) (hd : bits p k a b = d) :
    (execOp (Fr l).eval o).run P w = .ok (.value (.int k d)) w := by
  subst hd
  rcases hp with rfl | rfl | rfl | rfl <;> exact r_bin ho hx hy (by simp [eqGuard]) (by simp [binOp, go_sem])
theorem r_not {t : TypeId} {x : Operand} {b : Bool} (ho : o.op = .unOp .not t x) (hx : lookL l x = some (.bool b)) : (execOp (Fr l).eval o).run P w = .ok (.value (.bool (!b))) w := by
  simp [execOp, ho, lookL_eval hx, Op.unary]
theorem r_extract {x : Operand} {n : Nat} {vs : List Value} {v : Value} (ho : o.op = .extract x n) (hx : lookL l x = some (.tuple vs.toArray)) (hv : nthL vs n = some v) : (execOp (Fr l).eval o).run P w = .ok (.value v) w := by
  rw [nthL_eq] at hv
  have hv' : vs.toArray[n]? = some v := by simpa using hv
  simp only [execOp, ho, lookL_eval hx, Instr.extract, hv', Sem.run_bind, Sem.run_pure, Result.andThen_ok]
theorem r_makeFunc {f : FuncId} {cap : List Operand} {vs : List Value} (ho : o.op = .makeFunc (.func f) #[] cap.toArray) (hx : looksL l cap = some vs) : (execOp (Fr l).eval o).run P w = .ok (.value (.func (.func f) #[] vs.toArray)) w := by
  have := looksL_eval _ _ hx
  simp [execOp, ho, Instr.makeFunc, this]
theorem r_conv {s d : TypeId} {x : Operand} {k k' : IntKind} {n m : Int} (ho : o.op = .convert s d x) (hx : lookL l x = some (.int k' n)) {ks : IntKind} (hs : P.underlying s = some (.int ks)) (hd : P.underlying d = some (.int k)) (hm : k.wrap n = m) :
    (execOp (Fr l).eval o).run P w = .ok (.value (.int k m)) w := by
  subst hm
  simp [execOp, ho, lookL_eval hx, convert, run_underlying hs, run_underlying hd, Conv.intToInt]
theorem r_convStr {s d : TypeId} {x : Operand} {b : ByteArray} (ho : o.op = .convert s d x) (hx : lookL l x = some (.string b)) (hs : P.underlying s = some .string) (hd : P.underlying d = some .string) :
    (execOp (Fr l).eval o).run P w = .ok (.value (.string b)) w := by
  simp [execOp, ho, lookL_eval hx, convert, run_underlying hs, run_underlying hd]
theorem r_fieldV {t : TypeId} {x : Operand} {f off : Nat} {cs : List Value} {v : Value} {ft : TypeId} (ho : o.op = .field t x f) (hx : lookL l x = some (.agg cs.toArray)) {fs : Array Field} (hu : P.underlying t = some (.struct fs)) (hf : (fs[f]?).map (fun d => (d.type, d.offset)) = some (ft, off))
    (hi : (isAgg ft).run P w = .ok false w) (hv : nthL cs off = some v) : (execOp (Fr l).eval o).run P w = .ok (.value v) w := by
  rw [nthL_eq] at hv
  cases hfd : fs[f]? with
  | none => simp [hfd] at hf
  | some fd =>
    simp only [hfd, Option.map_some, Option.some.injEq, Prod.mk.injEq] at hf
    obtain ⟨rfl, rfl⟩ := hf
    have hv' : cs.toArray[fd.offset]? = some v := by simpa using hv
    simp [execOp, ho, lookL_eval hx, Instr.field, run_underlying hu, hfd, part, hi, asAgg, hv]
theorem r_len {x : Operand} {t e : TypeId} {p : Option Addr} {n c : Nat} (ho : o.op = .call { callee := .builtin .len, args := #[x], argTypes := #[t] }) (hx : lookL l x = some (.slice p n c)) (ht : P.underlying t = some (.slice e)) :
    (execOp (Fr l).eval o).run P w = .ok (.value (.int .i64 n)) w := by
  have hx' := lookL_eval hx
  simp [execOp, ho, resolve, invoke, builtin, hx', Builtin.len_, run_underlying ht, goInt]
theorem r_lenS {x : Operand} {t : TypeId} {s : ByteArray} (ho : o.op = .call { callee := .builtin .len, args := #[x], argTypes := #[t] }) (hx : lookL l x = some (.string s)) (ht : P.underlying t = some .string) :
    (execOp (Fr l).eval o).run P w = .ok (.value (.int .i64 s.size)) w := by
  have hx' := lookL_eval hx
  simp [execOp, ho, resolve, invoke, builtin, hx', Builtin.len_, run_underlying ht, goInt]
theorem r_min {x y : Operand} {ats : Array TypeId} {k k' : IntKind} {m n : Int} (ho : o.op = .call { callee := .builtin .min, args := #[x, y], argTypes := ats }) (hx : lookL l x = some (.int k m)) (hy : lookL l y = some (.int k' n)) :
    (execOp (Fr l).eval o).run P w = .ok (.value (.int k (min m n))) w := by
  simp [execOp, ho, resolve, invoke, builtin, lookL_eval hx, lookL_eval hy, run_min]
theorem r_max {x y : Operand} {ats : Array TypeId} {k k' : IntKind} {m n : Int} (ho : o.op = .call { callee := .builtin .max, args := #[x, y], argTypes := ats }) (hx : lookL l x = some (.int k m)) (hy : lookL l y = some (.int k' n)) :
    (execOp (Fr l).eval o).run P w = .ok (.value (.int k (max m n))) w := by
  simp [execOp, ho, resolve, invoke, builtin, lookL_eval hx, lookL_eval hy, run_max]
theorem r_max3 {x y z : Operand} {ats : Array TypeId} {k k' k'' : IntKind} {m n q : Int} (ho : o.op = .call { callee := .builtin .max, args := #[x, y, z], argTypes := ats }) (hx : lookL l x = some (.int k m)) (hy : lookL l y = some (.int k' n)) (hz : lookL l z = some (.int k'' q)) :
    (execOp (Fr l).eval o).run P w = .ok (.value (.int k (max (max m n) q))) w := by
  simp [execOp, ho, resolve, invoke, builtin, lookL_eval hx, lookL_eval hy, lookL_eval hz, run_max3]

end

/-! ### Operations that make or change memory: what they do to an assertion -/
section
variable {P : Program} {w : World} {l : List Value} {o : Oper} {E : World} {H R : HP}

theorem r_box {t : TypeId} {x : Operand} {v : Value} {cs : List Value} (ho : o.op = .box t x) (hx : lookL l x = some v) (hc : cellsL v = some cs) (hs : Sat E H w) :
    ∃ b w', (execOp (Fr l).eval o).run P w = .ok (.value (.pointer (some ⟨b, 0, none⟩))) w' ∧ Sat E (H * own b (.cells cs.toArray t (0, 0))) w' := by
  refine ⟨w.heap.size, w.alloc (.cells cs.toArray t), ?_, hs.alloc _⟩
  have hx' := lookL_eval hx
  simp only [execOp, ho, hx', Instr.box, newVar, newRow, Sem.run_bind, Sem.run_pure, Result.andThen_ok, run_newObj, World.alloc_eq, cellsL_eq hc]
theorem r_alloc {t : TypeId} {cs : List Value} (ho : o.op = .alloc t) (hz : ((P.info? t).bind (·.zero)).bind cellsL = some cs) (hs : Sat E H w) :
    ∃ b w', (execOp (Fr l).eval o).run P w = .ok (.value (.pointer (some ⟨b, 0, none⟩))) w' ∧ Sat E (H * own b (.cells cs.toArray t (0, 0))) w' := by
  refine ⟨w.heap.size, w.alloc (.cells cs.toArray t), ?_, hs.alloc _⟩
  cases hi : P.info? t with
  | none => simp [hi] at hz
  | some i =>
    cases hzz : i.zero with
    | none => simp [hi, hzz] at hz
    | some z =>
      simp only [hi, hzz, Option.bind_some] at hz
      have hc := cellsL_eq hz
      simp [execOp, ho, Instr.alloc, newVar, newRow, zeroValue, typeInfo, hi, hzz, hc]
theorem r_store {t : TypeId} {x y : Operand} {b off : Nat} {cs cs' : List Value} {T : TypeId} {v : Value} (ho : o.op = .store t x y) (hx : lookL l x = some (.pointer (some ⟨b, off, none⟩))) (hy : lookL l y = some v)
    (hs : Sat E H w) (c : Cut H (own b (.cells cs.toArray T (0, 0))) R) (hn : (P.info? t).isSome = true) (hsz : szOf P t = 1) (h1 : v.oneCell' = true) (hw : wrL cs off [v] = some cs') :
    ∃ w', (execOp (Fr l).eval o).run P w = .ok .skip w' ∧ Sat E (R * own b (.cells cs'.toArray T (0, 0))) w' := by
  have hx' := lookL_eval hx
  have hy' := lookL_eval hy
  have hs' := hs.cut c
  obtain ⟨k1, k2⟩ := wrL_eq _ _ _ _ hw (by simp)
  have hc := cells_one h1
  refine ⟨w.setRow b (splice cs.toArray off [v]), ?_, ?_⟩
  · simp only [execOp, ho, hx', hy', Sem.run_bind, Sem.run_pure, Result.andThen_ok, run_storeAt hs'.getOwn (run_szOf hn w) (v := v) (by rw [hc, hsz]; rfl) (by rw [hc]; simp [h1]) (by rw [hsz]; simpa using k1)]
    rw [hc]
  · have : splice cs.toArray off [v] = cs'.toArray := by rw [k2]; rfl
    rw [this]; exact hs'.setRow
theorem r_storeA {t : TypeId} {x y : Operand} {b off n : Nat} {cs cs' vs : List Value} {T : TypeId} (ho : o.op = .store t x y) (hx : lookL l x = some (.pointer (some ⟨b, off, none⟩))) (hy : lookL l y = some (.agg vs.toArray))
    (hs : Sat E H w) (c : Cut H (own b (.cells cs.toArray T (0, 0))) R) (hn : (P.info? t).isSome = true) (hsz : szOf P t = n) (hl : vs.length = n) (h0 : vs ≠ []) (h1 : vs.all (·.oneCell') = true) (hw : wrL cs off vs = some cs') :
    ∃ w', (execOp (Fr l).eval o).run P w = .ok .skip w' ∧ Sat E (R * own b (.cells cs'.toArray T (0, 0))) w' := by
  have hx' := lookL_eval hx
  have hy' := lookL_eval hy
  have hs' := hs.cut c
  obtain ⟨k1, k2⟩ := wrL_eq _ _ _ _ hw h0
  refine ⟨w.setRow b (splice cs.toArray off vs), ?_, ?_⟩
  · simp only [execOp, ho, hx', hy', Sem.run_bind, Sem.run_pure, Result.andThen_ok, run_storeAt hs'.getOwn (run_szOf hn w) (v := .agg vs.toArray) (by simp [Value.cells, hl, hsz]) (by simpa [Value.cells] using h1) (by rw [hsz, ← hl]; simpa using k1)]
    simp [Value.cells]
  · have : splice cs.toArray off vs = cs'.toArray := by rw [k2]; rfl
    rw [this]; exact hs'.setRow

/-- Cells written one by one. -/
def setsL : List Value → Nat → List Value → Option (List Value)
  | cs, _, [] => some cs
  | cs, k, v :: r => match putL cs k v with
    | some cs' => setsL cs' (k + 1) r
    | none => none
theorem putL_size {l : List Value} {n : Nat} {v : Value} {l' : List Value} (h : putL l n v = some l') : l'.length = l.length ∧ n < l.length := by
  have e := putL_eq l n v l' h
  refine ⟨by rw [e]; simp, ?_⟩
  clear e
  induction l generalizing n l' with
  | nil => simp [putL] at h
  | cons u r ih =>
    cases n with
    | zero => simp
    | succ n =>
      simp only [putL] at h
      split at h
      · rename_i r' hr; have := ih hr; simp; omega
      · cases h
theorem setsL_foldl : ∀ (vs cs : List Value) (off k : Nat) (cs' : List Value), setsL cs (off + k) vs = some cs' →
    (vs.zipIdx k).foldl (fun (a : Array Value) (x : Value × Nat) => a.setIfInBounds (off + x.2) x.1) cs.toArray = cs'.toArray ∧ cs'.length = cs.length ∧ (vs ≠ [] → off + k + vs.length ≤ cs.length)
  | [], cs, off, k, cs', h => by
    simp only [setsL, Option.some.injEq] at h
    subst h; simp
  | v :: r, cs, off, k, cs', h => by
    simp only [setsL] at h
    split at h
    · rename_i c2 hc
      have e := putL_eq _ _ _ _ hc
      obtain ⟨z1, z2⟩ := putL_size hc
      obtain ⟨h1, h2, h3⟩ := setsL_foldl r c2 off (k + 1) cs' (by rw [← Nat.add_assoc]; exact h)
      refine ⟨?_, by omega, fun _ => ?_⟩
      · simp only [List.zipIdx_cons, List.foldl_cons, List.setIfInBounds_toArray]
        rw [← e]; exact h1
      · by_cases hr : r = []
        · subst hr; simp; omega
        · have := h3 hr; simp at *; omega
    · cases h
/-- A struct that is written out. -/
def fillL (places : List (Nat × Nat)) : List Value → List (Nat × Value) → Option (List Value)
  | cs, [] => some cs
  | cs, (i, v) :: r => match places[i]?, cellsL v with
    | some (off, size), some vs => (match Nat.beq vs.length size && Nat.ble (off + vs.length) cs.length, setsL cs off vs with
      | true, some cs' => fillL places cs' r
      | _, _ => none)
    | _, _ => none
theorem fillL_eq {places : List (Nat × Nat)} : ∀ (ps : List (Nat × Value)) (cs cs' : List Value), fillL places cs ps = some cs' → Instr.fill (places.toArray[·]?) cs.toArray ps = some cs'.toArray
  | [], cs, cs', h => by simp [fillL] at h; subst h; rfl
  | (i, v) :: r, cs, cs', h => by
    simp only [fillL] at h
    split at h
    · rename_i off size vs hp hv
      split at h
      · rename_i c2 hb hw
        simp only [Bool.and_eq_true, Nat.beq_eq, Nat.ble_eq] at hb
        have ih := fillL_eq r c2 cs' h
        obtain ⟨h1, h2, h3⟩ := setsL_foldl vs cs off 0 c2 hw
        have hc := cellsL_eq hv
        simp only [Instr.fill]
        have hp' : places.toArray[i]? = some (off, size) := by simpa using hp
        rw [hp']
        simp only [hc, List.size_toArray]
        rw [if_neg (by simp; omega)]
        have : vs.toArray.zipIdx.foldl (fun (cs : Array Value) (x : Value × Nat) => cs.setIfInBounds (off + x.2) x.1) cs.toArray = c2.toArray := by
          rw [← h1, ← Array.foldl_toList]; simp
        rw [this]; exact ih
      · cases h
    · cases h
def partsL (l : List Value) : List (Nat × Operand) → Option (List (Nat × Value))
  | [] => some []
  | (i, x) :: r => match lookL l x, partsL l r with
    | some v, some vs => some ((i, v) :: vs)
    | _, _ => none
theorem partsL_eval {l : List Value} : ∀ (xs : List (Nat × Operand)) (vs : List (Nat × Value)), partsL l xs = some vs → (xs.map fun (x : Nat × Operand) => (x.1, (Fr l).eval x.2)) = vs
  | [], vs, h => by simp [partsL] at h; subst h; rfl
  | (i, x) :: r, vs, h => by
    simp only [partsL] at h
    split at h
    · rename_i v vs' hv hvs
      cases h
      simp [lookL_eval hv, partsL_eval r vs' hvs]
    · cases h
/-- Where a struct's fields lie. -/
def placesOf (P : Program) (t : TypeId) : Option (List (Nat × Nat)) := match P.underlying t with
  | some (.struct fs) => go fs.toList
  | _ => none
where go : List Field → Option (List (Nat × Nat))
  | [] => some []
  | f :: r => match P.info? f.type, go r with
    | some i, some ps => some ((f.offset, i.size) :: ps)
    | _, _ => none
theorem places_run {w : World} : ∀ (fs : List Field) (ps : List (Nat × Nat)), placesOf.go P fs = some ps → (fs.mapM (m := Sem) fun f => do pure (f.offset, ← sizeOf f.type)).run P w = .ok ps w
  | [], ps, h => by simp [placesOf.go] at h; subst h; rfl
  | f :: r, ps, h => by
    simp only [placesOf.go] at h
    split at h
    · rename_i i ps' hi hg
      cases h
      have ih := places_run (w := w) r ps' hg
      have h1 : (sizeOf f.type).run P w = .ok i.size w := by simp [sizeOf, typeInfo, hi]
      simp only [List.mapM_cons, Sem.run_bind, h1, Sem.run_pure, Result.andThen_ok, ih]
    · cases h
theorem r_build {t : TypeId} {parts : List (Nat × Operand)} {vs : List (Nat × Value)} {ps : List (Nat × Nat)} {zs cs : List Value} (ho : o.op = .build t parts.toArray) (hp : partsL l parts = some vs) (hpl : placesOf P t = some ps)
    (hz : ((P.info? t).bind (·.zero)).bind cellsL = some zs) (hf : fillL ps zs vs = some cs) : (execOp (Fr l).eval o).run P w = .ok (.value (.agg cs.toArray)) w := by
  have hpv := partsL_eval _ _ hp
  unfold placesOf at hpl
  split at hpl
  · rename_i fs hu
    have hrun := places_run (w := w) _ _ hpl
    have hm : (fs.mapM (m := Sem) fun f => do pure (f.offset, ← sizeOf f.type)).run P w = .ok ps.toArray w := by
      rw [← Array.toArray_toList (xs := fs), List.mapM_toArray]
      simp only [Sem.run_map, hrun]; rfl
    cases hi : P.info? t with
    | none => simp [hi] at hz
    | some i =>
      cases hzz : i.zero with
      | none => simp [hi, hzz] at hz
      | some z =>
        simp only [hi, hzz, Option.bind_some] at hz
        have hc := cellsL_eq hz
        have hfill := fillL_eq vs zs cs hf
        have hpa : (parts.toArray.map fun (x : Nat × Operand) => (x.1, (Fr l).eval x.2)).toList = vs := by simpa using hpv
        simp only [execOp, ho, Instr.build, zeroValue, typeInfo, Sem.run_bind, run_program, hi, hzz, Sem.run_pure, Result.andThen_ok, run_underlying hu, hm, hc]
        rw [show (parts.toArray.map fun (x : Nat × Operand) => match x with | (i, x) => (i, (Fr l).eval x)) = parts.toArray.map fun (x : Nat × Operand) => (x.1, (Fr l).eval x.2) from rfl, hpa, hfill]
        rfl
  · cases hpl
end
end Go.Proofs.Ytoeaamohchpjdaa
