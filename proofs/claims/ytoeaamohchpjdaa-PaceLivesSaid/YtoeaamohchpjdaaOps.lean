/-
  The walk's steps over assertions on blocks: a load, a store, a new block. They speak of no program.
-/
import Derived.Test.YtoeaamohchpjdaaSl
namespace Go.Proofs.Ytoeaamohchpjdaa
open Go Go.RowKit
set_option linter.unusedVariables false

/-- A row of cells with some of them written over. -/
def splice (C : Array Value) (off : Nat) (vs : List Value) : Array Value := (C.toList.take off ++ vs ++ C.toList.drop (off + vs.length)).toArray
/-- What a load of n cells yields. -/
def rd (C : Array Value) (off n : Nat) : Bool → Option Value
  | false => C.toList[off]?
  | true => if off + n ≤ C.size then some (.agg ((C.toList.drop off).take n).toArray) else none

/-- What an operand holds. -/
def look (a : Act) : Operand → Option Value
  | .tmp t => a.tmps.toList[t]?
  | .const v => some v
  | .global g => some (.pointer (some ⟨g, 0, none⟩))
  | .func f => some (.func (.func f) #[] #[])
theorem look_eval {a : Act} {x : Operand} {v : Value} (h : look a x = some v) : a.eval x = v := by
  cases x with
  | tmp t => simp only [look, Array.getElem?_toList] at h; simp [Act.eval, h]
  | const u => cases h; rfl
  | global g => cases h; rfl
  | func f => cases h; rfl

theorem add_mk (b o j : Nat) : (⟨b, o, none⟩ : Addr).add j = ⟨b, o + j, none⟩ := by unfold Addr.add; split <;> simp_all

section
variable {P : Program} {w : World}

theorem run_loadAt {t b off n : Nat} {ag : Bool} {C : Array Value} {T : TypeId} {fr : Nat × Nat} {v : Value} (hb : w.heap[b]? = some (.cells C T fr))
    (hi : (isAgg t).run P w = .ok ag w) (hn : (sizeOf t).run P w = .ok n w) (hv : rd C off n ag = some v) :
    (Instr.loadAt t (.pointer (some ⟨b, off, none⟩))).run P w = .ok v w := by
  cases ag with
  | false =>
    have hc : w.cell? ⟨b, off, none⟩ = some v := by simpa [World.cell?, hb, rd] using hv
    simp [Instr.loadAt, Instr.sureAddr, loadVar, hi, hc]
  | true =>
    simp only [rd] at hv
    split at hv
    · rename_i hle
      cases hv
      have hl : (loadCells ⟨b, off, none⟩ ((C.toList.drop off).take n).length).run P w = .ok ((C.toList.drop off).take n).toArray w :=
        run_loadCells_list (P := P) w ⟨b, off, none⟩ _ (fun j u hu => by
          rw [add_mk, cell_of_row w b (off + j) C T fr hb]
          simp only [List.getElem?_take, List.getElem?_drop] at hu
          split at hu
          · simpa using hu
          · cases hu)
      have hlen : ((C.toList.drop off).take n).length = n := by simp; omega
      rw [hlen] at hl
      simp [Instr.loadAt, Instr.sureAddr, loadVar, hi, hn, hl]
    · cases hv

theorem run_storeAt {t b off n : Nat} {C : Array Value} {T : TypeId} {v : Value} (hb : w.heap[b]? = some (.cells C T (0, 0)))
    (hn : (sizeOf t).run P w = .ok n w) (hv : v.cells.size = n) (h1 : v.cells.toList.all (·.oneCell') = true) (hf : off + n ≤ C.size) :
    (Instr.storeAt t (.pointer (some ⟨b, off, none⟩)) v).run P w = .ok () (w.setRow b (splice C off v.cells.toList)) := by
  have hst := run_storeCells_at P b off T v.cells.toList 0 C w hb (by simp [hv]; omega) (fun u hu => by
    rw [List.all_eq_true] at h1
    exact h1 u hu)
  simp only [Nat.add_zero] at hst
  simp [Instr.storeAt, Instr.sureAddr, storeVar, hn, hv, hst, splice]

theorem Sat.setRow {E : World} {R : HP} {b : Nat} {C C' : Array Value} {T : TypeId} (h : Sat E (R * own b (.cells C T (0, 0))) w) :
    Sat E (R * own b (.cells C' T (0, 0))) (w.setRow b C') :=
  h.turn (setRow_heap w b C _ T _ h.getOwn) (fun k hk => setRow_other w b k _ hk) rfl rfl rfl
theorem Sat.setCell {E : World} {R : HP} {b off : Nat} {C : Array Value} {T : TypeId} {v : Value} (h : Sat E (R * own b (.cells C T (0, 0))) w) :
    Sat E (R * own b (.cells (C.setIfInBounds off v) T (0, 0))) (w.setCell ⟨b, off, none⟩ v) :=
  h.turn (heap_setCell_same w b off C T v h.getOwn) (fun k hk => heap_setCell_other w _ k v hk) rfl rfl rfl
end

/-- The lowest n bits of a number. -/
theorem mask_i64 (x : Int) (n : Nat) (hn : n ≤ 62) : bits .and .i64 x ((2 ^ n - 1 : Nat) : Int) = x % ((2 ^ n : Nat) : Int) := by
  have hp : 2 ^ n ≤ 2 ^ 62 := Nat.pow_le_pow_right (by decide) hn
  have h2 : 0 < 2 ^ n := Nat.two_pow_pos n
  have hb : (BitVec.ofInt 64 ((2 ^ n - 1 : Nat) : Int)).toNat = 2 ^ n - 1 := by
    rw [BitVec.toNat_ofInt]
    omega
  have ha : ((BitVec.ofInt 64 x).toNat : Int) = x % (2 ^ 64 : Nat) := by
    rw [BitVec.toNat_ofInt]
    have : 0 ≤ x % ((2 ^ 64 : Nat) : Int) := Int.emod_nonneg _ (by decide)
    omega
  have hk : IntKind.i64.bits = 64 := rfl
  have e : bits .and .i64 x ((2 ^ n - 1 : Nat) : Int) = IntKind.i64.wrap (((BitVec.ofInt 64 x) &&& (BitVec.ofInt 64 ((2 ^ n - 1 : Nat) : Int))).toNat : Int) := rfl
  rw [e, BitVec.toNat_and, hb, Nat.and_two_pow_sub_one_eq_mod]
  have hd : ((BitVec.ofInt 64 x).toNat % 2 ^ n : Nat) = (x % ((2 ^ n : Nat) : Int)) := by
    rw [Int.natCast_emod, ha]
    refine Int.emod_emod_of_dvd _ ?_
    exact Int.natCast_dvd_natCast.2 (Nat.pow_dvd_pow 2 (by omega))
  have hlt : x % ((2 ^ n : Nat) : Int) < ((2 ^ n : Nat) : Int) := Int.emod_lt_of_pos _ (by omega)
  have hge : 0 ≤ x % ((2 ^ n : Nat) : Int) := Int.emod_nonneg _ (by omega)
  rw [hd]
  exact IntWalk.i64_in _ (by omega)

section
variable {P : Program} {ops : Array Oper} {rest : List Oper} {o : Oper} {a : Act} {w : World} {Q : Exit → Act → World → Prop}

/-- A guard: the goal is a list of operations that is not at its end. -/
theorem wpL_id (h : wpList P ops Q (o :: rest) a w) : wpList P ops Q (o :: rest) a w := h
theorem wpL_value (hg : Region.wanted o (yielded ops a.tmps) = true) {v : Value} {w' : World} (hr : (execOp a.eval o).run P w = .ok (.value v) w')
    (hk : wpList P ops Q rest (a.put o.dst v) w') : wpList P ops Q (o :: rest) a w := by
  unfold wpList; rw [if_pos hg]; left; unfold Oper.wp; rw [hr]; exact hk
theorem wpL_skip (hg : Region.wanted o (yielded ops a.tmps) = true) {w' : World} (hr : (execOp a.eval o).run P w = .ok .skip w')
    (hk : wpList P ops Q rest (a.put o.dst undef) w') : wpList P ops Q (o :: rest) a w := by
  unfold wpList; rw [if_pos hg]; left; unfold Oper.wp; rw [hr]; exact hk

theorem wpL_load (t : TypeId) (x : Operand) (ho : o.op = .load t x) (hg : Region.wanted o (yielded ops a.tmps) = true) {b off : Nat} {C : Array Value} {T : TypeId} {fr : Nat × Nat} {v : Value}
    (hx0 : look a x = some (.pointer (some ⟨b, off, none⟩))) (hb : w.heap[b]? = some (.cells C T fr)) (hi : (isAgg t).run P w = .ok false w) (hv : C.toList[off]? = some v)
    (hk : wpList P ops Q rest (a.put o.dst v) w) : wpList P ops Q (o :: rest) a w := by
  have hx := look_eval hx0
  refine wpL_value hg ?_ hk
  unfold execOp
  have hc : w.cell? ⟨b, off, none⟩ = some v := by simpa [World.cell?, hb] using hv
  simp [ho, hx, Instr.loadAt, Instr.sureAddr, loadVar, hi, hc]

/-- How many cells a variable of a type takes. -/
def szOf (P : Program) (t : TypeId) : Nat := match P.info? t with | some i => i.size | none => 0
theorem run_szOf {P : Program} {t : TypeId} (h : (P.info? t).isSome = true) (w : World) : (sizeOf t).run P w = .ok (szOf P t) w := by
  cases hq : P.info? t with
  | none => simp [hq] at h
  | some i => simp [sizeOf, typeInfo, szOf, hq]

theorem wpL_loadA (t : TypeId) (x : Operand) (ho : o.op = .load t x) (hg : Region.wanted o (yielded ops a.tmps) = true) {b off : Nat} {C : Array Value} {T : TypeId} {fr : Nat × Nat} {v : Value}
    (hx0 : look a x = some (.pointer (some ⟨b, off, none⟩))) (hb : w.heap[b]? = some (.cells C T fr)) (hi : (isAgg t).run P w = .ok true w) (hn : (P.info? t).isSome = true) (hv : rd C off (szOf P t) true = some v)
    (hk : wpList P ops Q rest (a.put o.dst v) w) : wpList P ops Q (o :: rest) a w := by
  have hx := look_eval hx0
  refine wpL_value hg ?_ hk
  unfold execOp
  simp only [ho, hx, Sem.run_bind, Sem.run_pure, Result.andThen_ok, run_loadAt hb hi (run_szOf hn w) hv]

theorem wpL_storeG (t : TypeId) (x y : Operand) (ho : o.op = .store t x y) (hd : o.dst = none) (hg : Region.wanted o (yielded ops a.tmps) = true) {b off : Nat} {C : Array Value} {T : TypeId} {v : Value} {E : World} {H R : HP}
    (hx0 : look a x = some (.pointer (some ⟨b, off, none⟩))) (hy0 : look a y = some v) (hs : Sat E H w) (c : Cut H (own b (.cells C T (0, 0))) R)
    (hn : (P.info? t).isSome = true) (hv : v.cells.size = szOf P t) (h1 : v.cells.toList.all (·.oneCell') = true) (hf : off + v.cells.size ≤ C.size)
    (hk : ∀ w', Sat E (R * own b (.cells (splice C off v.cells.toList) T (0, 0))) w' → wpList P ops Q rest a w') : wpList P ops Q (o :: rest) a w := by
  have hx := look_eval hx0
  have hy := look_eval hy0
  have hs' := hs.cut c
  refine wpL_skip (w' := w.setRow b (splice C off v.cells.toList)) hg ?_ (by rw [hd]; exact hk _ hs'.setRow)
  unfold execOp
  simp only [ho, hx, hy, Sem.run_bind, Sem.run_pure, Result.andThen_ok, run_storeAt hs'.getOwn (run_szOf hn w) hv h1 (hv ▸ hf)]

theorem cells_one {v : Value} (h : v.oneCell' = true) : v.cells = #[v] := by cases v <;> first | rfl | (simp [Value.oneCell'] at h)

theorem wpL_store (t : TypeId) (x y : Operand) (ho : o.op = .store t x y) (hd : o.dst = none) (hg : Region.wanted o (yielded ops a.tmps) = true) {b off : Nat} {C : Array Value} {T : TypeId} {v : Value} {E : World} {H R : HP}
    (hx0 : look a x = some (.pointer (some ⟨b, off, none⟩))) (hy0 : look a y = some v) (h1 : v.oneCell' = true) (hs : Sat E H w) (c : Cut H (own b (.cells C T (0, 0))) R)
    (hn : (P.info? t).isSome = true) (hv : szOf P t = 1) (hf : off < C.size)
    (hk : ∀ w', Sat E (R * own b (.cells (splice C off [v]) T (0, 0))) w' → wpList P ops Q rest a w') : wpList P ops Q (o :: rest) a w := by
  have hc := cells_one h1
  refine wpL_storeG t x y ho hd hg hx0 hy0 hs c hn (by rw [hc, hv]; rfl) (by rw [hc]; simp [h1]) (by rw [hc]; simp; omega) ?_
  rw [hc]; exact hk

theorem wpL_storeA (t : TypeId) (x y : Operand) (ho : o.op = .store t x y) (hd : o.dst = none) (hg : Region.wanted o (yielded ops a.tmps) = true) {b off : Nat} {C : Array Value} {T : TypeId} {cs : List Value} {E : World} {H R : HP}
    (hx0 : look a x = some (.pointer (some ⟨b, off, none⟩))) (hy0 : look a y = some (.agg cs.toArray)) (hs : Sat E H w) (c : Cut H (own b (.cells C T (0, 0))) R)
    (hn : (P.info? t).isSome = true) (hv : szOf P t = cs.length) (h1 : cs.all (·.oneCell') = true) (hf : off + cs.length ≤ C.size)
    (hk : ∀ w', Sat E (R * own b (.cells (splice C off cs) T (0, 0))) w' → wpList P ops Q rest a w') : wpList P ops Q (o :: rest) a w :=
  wpL_storeG t x y ho hd hg hx0 hy0 hs c hn (by simp [Value.cells, hv]) (by simpa [Value.cells] using h1) (by simpa [Value.cells] using hf) (by simpa [Value.cells] using hk)

theorem wpL_box (t : TypeId) (x : Operand) (ho : o.op = .box t x) (hg : Region.wanted o (yielded ops a.tmps) = true) {v : Value} {E : World} {H : HP}
    (hx0 : look a x = some (v)) (hs : Sat E H w)
    (hk : ∀ b w', Sat E (H * own b (.cells v.cells t (0, 0))) w' → wpList P ops Q rest (a.put o.dst (.pointer (some ⟨b, 0, none⟩))) w') : wpList P ops Q (o :: rest) a w := by
  have hx := look_eval hx0
  refine wpL_value (w' := w.alloc (.cells v.cells t)) hg ?_ (hk _ _ (hs.alloc _))
  unfold execOp
  simp only [ho, hx, Instr.box, newVar, newRow, Sem.run_bind, Sem.run_pure, Result.andThen_ok, run_newObj, World.alloc_eq]

/-- A value's cells, as a list that is written out. -/
def cellsL : Value → Option (List Value)
  | .agg ⟨l⟩ => some l
  | .tuple _ => none
  | v => some [v]
theorem cellsL_eq {v : Value} {l : List Value} (h : cellsL v = some l) : v.cells = l.toArray := by
  cases v <;> simp [cellsL, Value.cells] at h ⊢ <;> first | exact h | (subst h; rfl)

theorem wpL_alloc (t : TypeId) (ho : o.op = .alloc t) (hg : Region.wanted o (yielded ops a.tmps) = true) {cs : List Value} {E : World} {H : HP}
    (hz : ((P.info? t).bind (·.zero)).bind cellsL = some cs) (hs : Sat E H w)
    (hk : ∀ b w', Sat E (H * own b (.cells cs.toArray t (0, 0))) w' → wpList P ops Q rest (a.put o.dst (.pointer (some ⟨b, 0, none⟩))) w') : wpList P ops Q (o :: rest) a w := by
  cases hi : P.info? t with
  | none => simp [hi] at hz
  | some i =>
    cases hzz : i.zero with
    | none => simp [hi, hzz] at hz
    | some z =>
      simp only [hi, hzz, Option.bind_some] at hz
      have hc := cellsL_eq hz
      refine wpL_value (w' := w.alloc (.cells cs.toArray t)) hg ?_ (hk _ _ (hs.alloc _))
      unfold execOp
      simp [ho, Instr.alloc, newVar, newRow, zeroValue, typeInfo, hi, hzz, hc]

theorem wpL_box' (t : TypeId) (x : Operand) (ho : o.op = .box t x) (hg : Region.wanted o (yielded ops a.tmps) = true) {v : Value} {cs : List Value} {E : World} {H : HP}
    (hx0 : look a x = some v) (hc : cellsL v = some cs) (hs : Sat E H w)
    (hk : ∀ b w', Sat E (H * own b (.cells cs.toArray t (0, 0))) w' → wpList P ops Q rest (a.put o.dst (.pointer (some ⟨b, 0, none⟩))) w') : wpList P ops Q (o :: rest) a w :=
  wpL_box t x ho hg hx0 hs (by rw [cellsL_eq hc]; exact hk)

theorem wpL_index (t : TypeId) (x y : Operand) (ho : o.op = .index t x y) (hg : Region.wanted o (yielded ops a.tmps) = true) {cs : Array Value} {k : IntKind} {i : Int} {n e : Nat} {v : Value}
    (hx0 : look a x = some (.agg cs)) (hy0 : look a y = some (.int k i)) (hu : P.underlying t = some (.array n e)) (h0 : 0 ≤ i) (h1 : i < n)
    (he : (isAgg e).run P w = .ok false w) (hn : (P.info? e).isSome = true) (h1z : szOf P e = 1) (hv : cs.toList[i.toNat]? = some v)
    (hk : wpList P ops Q rest (a.put o.dst v) w) : wpList P ops Q (o :: rest) a w := by
  have hx := look_eval hx0
  have hy := look_eval hy0
  refine wpL_value hg ?_ hk
  unfold execOp
  have hs := run_szOf (P := P) hn w
  rw [h1z] at hs
  have hv' : cs[i.toNat]? = some v := by simpa using hv
  simp [ho, hx, hy, Instr.index, asIntOf, run_underlying hu, h0, h1, hs, part, he, hv']

theorem wpL_indexStr (t : TypeId) (x y : Operand) (ho : o.op = .index t x y) (hg : Region.wanted o (yielded ops a.tmps) = true) {s : ByteArray} {k : IntKind} {i : Int} {c : UInt8}
    (hx0 : look a x = some (.string s)) (hy0 : look a y = some (.int k i)) (hu : P.underlying t = some .string) (h0 : 0 ≤ i) (hv : s.data.toList[i.toNat]? = some c)
    (hk : wpList P ops Q rest (a.put o.dst (.int .u8 c.toNat)) w) : wpList P ops Q (o :: rest) a w := by
  have hx := look_eval hx0
  have hy := look_eval hy0
  refine wpL_value hg ?_ hk
  unfold execOp
  have hv' : s[i.toNat]? = some c := by
    have hl : i.toNat < s.data.toList.length := (List.getElem?_eq_some_iff.1 hv).1
    have hl' : i.toNat < s.size := by show i.toNat < s.data.size; rw [← Array.length_toList]; exact hl
    have e := (List.getElem?_eq_some_iff.1 hv).2
    rw [getElem?_pos s i.toNat hl']
    congr 1
  simp [ho, hx, hy, Instr.index, asIntOf, run_underlying hu, h0, hv']

def byteAt (s : ByteArray) (i : Int) : Option Int := (s.data.toList[i.toNat]?).map fun c => ((c.toNat : Nat) : Int)
theorem wpL_indexStrN (t : TypeId) (x y : Operand) (ho : o.op = .index t x y) (hg : Region.wanted o (yielded ops a.tmps) = true) {s : ByteArray} {k : IntKind} {i n : Int}
    (hx0 : look a x = some (.string s)) (hy0 : look a y = some (.int k i)) (hu : P.underlying t = some .string) (h0 : 0 ≤ i) (hv : byteAt s i = some n)
    (hk : wpList P ops Q rest (a.put o.dst (.int .u8 n)) w) : wpList P ops Q (o :: rest) a w := by
  unfold byteAt at hv
  cases hc : s.data.toList[i.toNat]? with
  | none => rw [hc] at hv; cases hv
  | some c =>
    rw [hc] at hv
    simp only [Option.map_some, Option.some.injEq] at hv
    subst hv
    exact wpL_indexStr t x y ho hg hx0 hy0 hu h0 hc hk

theorem wpL_mask (n N c : Nat) (t t' : TypeId) (x : Operand) (ho : o.op = .binOp .and t x (.const (.int .i64 c)) t') (hg : Region.wanted o (yielded ops a.tmps) = true) (hn : n ≤ 62) (hN : 2 ^ n = N) (hc : N - 1 = c) {m : Int}
    (hx0 : look a x = some (.int .i64 m)) (hk : wpList P ops Q rest (a.put o.dst (.int .i64 (m % (N : Int)))) w) : wpList P ops Q (o :: rest) a w := by
  have hx := look_eval hx0
  refine wpL_value hg ?_ hk
  unfold execOp
  subst hc hN
  have hm := mask_i64 m n hn
  simp only [ho, hx, BigFrame.eval_const, eqGuard_and, binOp_and, intBits_and, Sem.run_bind, Sem.run_pure, Result.andThen_ok, hm]

theorem run_min (ats : Array TypeId) (ty : TypeId) (k k' : IntKind) (x y : Int) : (Builtin.min_ ats ty #[.int k x, .int k' y]).run P w = .ok (.int k (min x y)) w := by
  have e : (if y < x then y else x) = min x y := by omega
  simp [Builtin.min_, Builtin.min2, e]
theorem run_max (ats : Array TypeId) (ty : TypeId) (k k' : IntKind) (x y : Int) : (Builtin.max_ ats ty #[.int k x, .int k' y]).run P w = .ok (.int k (max x y)) w := by
  have e : (if y > x then y else x) = max x y := by omega
  simp [Builtin.max_, Builtin.max2, e]
theorem run_max3 (ats : Array TypeId) (ty : TypeId) (k k' k'' : IntKind) (x y z : Int) : (Builtin.max_ ats ty #[.int k x, .int k' y, .int k'' z]).run P w = .ok (.int k (max (max x y) z)) w := by
  have e : (if y > x then y else x) = max x y := by omega
  have e' : (if z > max x y then z else max x y) = max (max x y) z := by omega
  simp only [Builtin.max_, Builtin.max2, List.foldlM_cons, List.foldlM_nil, Sem.run_bind, Sem.run_pure, Result.andThen_ok, e, e']
theorem wpL_min {ats : Array TypeId} (x y : Operand) (ho : o.op = .call { callee := .builtin .min, args := #[x, y], argTypes := ats }) (hg : Region.wanted o (yielded ops a.tmps) = true)
    {k k' : IntKind} {m n : Int} (hx0 : look a x = some (.int k m)) (hy0 : look a y = some (.int k' n)) (hk : wpList P ops Q rest (a.put o.dst (.int k (min m n))) w) : wpList P ops Q (o :: rest) a w := by
  have hx := look_eval hx0
  have hy := look_eval hy0
  refine wpL_value hg ?_ hk
  unfold execOp
  simp only [ho, resolve, invoke, builtin, Sem.run_bind, Sem.run_pure, Result.andThen_ok, List.map_toArray, List.map_cons, List.map_nil, hx, hy, run_min]
theorem wpL_max {ats : Array TypeId} (x y : Operand) (ho : o.op = .call { callee := .builtin .max, args := #[x, y], argTypes := ats }) (hg : Region.wanted o (yielded ops a.tmps) = true)
    {k k' : IntKind} {m n : Int} (hx0 : look a x = some (.int k m)) (hy0 : look a y = some (.int k' n)) (hk : wpList P ops Q rest (a.put o.dst (.int k (max m n))) w) : wpList P ops Q (o :: rest) a w := by
  have hx := look_eval hx0
  have hy := look_eval hy0
  refine wpL_value hg ?_ hk
  unfold execOp
  simp only [ho, resolve, invoke, builtin, Sem.run_bind, Sem.run_pure, Result.andThen_ok, List.map_toArray, List.map_cons, List.map_nil, hx, hy, run_max]
theorem wpL_max3 {ats : Array TypeId} (x y z : Operand) (ho : o.op = .call { callee := .builtin .max, args := #[x, y, z], argTypes := ats }) (hg : Region.wanted o (yielded ops a.tmps) = true)
    {k k' k'' : IntKind} {m n q : Int} (hx0 : look a x = some (.int k m)) (hy0 : look a y = some (.int k' n)) (hz0 : look a z = some (.int k'' q)) (hk : wpList P ops Q rest (a.put o.dst (.int k (max (max m n) q))) w) : wpList P ops Q (o :: rest) a w := by
  have hx := look_eval hx0
  have hy := look_eval hy0
  have hz := look_eval hz0
  refine wpL_value hg ?_ hk
  unfold execOp
  simp only [ho, resolve, invoke, builtin, Sem.run_bind, Sem.run_pure, Result.andThen_ok, List.map_toArray, List.map_cons, List.map_nil, hx, hy, hz, run_max3]
end
end Go.Proofs.Ytoeaamohchpjdaa
