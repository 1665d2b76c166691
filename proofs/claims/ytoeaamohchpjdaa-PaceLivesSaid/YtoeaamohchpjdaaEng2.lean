/-
  The walk's steps by laws alone: lists of operations, regions that draw their order, calls, loops, a function's beginning and end. It speaks of no program.
-/
import Derived.Test.YtoeaamohchpjdaaEng
namespace Go.Proofs.Ytoeaamohchpjdaa
open Go Go.RowKit
set_option linter.unusedVariables false
set_option linter.unusedSimpArgs false

section
variable {P : Program} {ops : Array Oper} {rest : List Oper} {o : Oper} {w w' : World} {Q : Exit → Act → World → Prop} {l l' : List Value} {d : Nat} {v : Value}

/-- An operation that yields a value. -/
theorem s_val (hr : (execOp (Fr l).eval o).run P w = .ok (.value v) w') (hd : o.dst = some d) (hg : Region.wanted o (yielded ops (Fr l).tmps) = true) (hp : putL l d v = some l')
    (hk : wpList P ops Q rest (Fr l') w') : wpList P ops Q (o :: rest) (Fr l) w := by
  unfold wpList; rw [if_pos hg]; left; unfold Oper.wp; rw [hr]
  show wpList P ops Q rest ((Fr l).put o.dst v) w'
  rw [hd, put_frame hp]; exact hk
/-- .. a test: its answer gets a name. -/
theorem s_bool {c : Bool} {l' : Bool → List Value} (hr : (execOp (Fr l).eval o).run P w = .ok (.value (.bool c)) w') (hd : o.dst = some d) (hg : Region.wanted o (yielded ops (Fr l).tmps) = true) (hp : ∀ c, putL l d (.bool c) = some (l' c))
    (hk : ∀ c' : Bool, c' = c → wpList P ops Q rest (Fr (l' c')) w') : wpList P ops Q (o :: rest) (Fr l) w :=
  s_val hr hd hg (hp c) (hk c rfl)
/-- .. one that only writes. -/
theorem s_skip (hr : (execOp (Fr l).eval o).run P w = .ok .skip w') (hd : o.dst = none) (hg : Region.wanted o (yielded ops (Fr l).tmps) = true)
    (hk : wpList P ops Q rest (Fr l) w') : wpList P ops Q (o :: rest) (Fr l) w := by
  unfold wpList; rw [if_pos hg]; left; unfold Oper.wp; rw [hr]
  show wpList P ops Q rest ((Fr l).put o.dst undef) w'
  rw [hd]; exact hk
/-- .. one that isn't wanted. -/
theorem s_pass (hd : o.dst = some d) (hg : Region.wanted o (yielded ops (Fr l).tmps) = false) (hp : putL l d undef = some l')
    (hk : wpList P ops Q rest (Fr l') w) : wpList P ops Q (o :: rest) (Fr l) w := by
  unfold wpList; rw [if_neg (by rw [hg]; decide), hd]
  rw [put_frame hp]; exact hk
theorem s_pass0 (hd : o.dst = none) (hg : Region.wanted o (yielded ops (Fr l).tmps) = false) (hk : wpList P ops Q rest (Fr l) w) : wpList P ops Q (o :: rest) (Fr l) w := by
  unfold wpList; rw [if_neg (by rw [hg]; decide), hd]; exact hk
theorem s_nil (h : Q .normal (Fr l) w) : wpList P ops Q [] (Fr l) w := h

/-- A Go function that can be entered. -/
def Enters (P : Program) (f : FuncId) : Prop := ∃ fn, P.funcs[f]? = some fn ∧ fn.body.isSome = true ∧ (fn.name == "runtime.NumGoroutine") = false
theorem run_enter {f : FuncId} (h : Enters P f) (args : Array Value) : (callFunc f args).run P w = .ok (.enter f args) w := by
  obtain ⟨fn, hf, hb, hn⟩ := h
  have hn' : ¬ fn.name = "runtime.NumGoroutine" := by simpa using hn
  obtain ⟨c, hc⟩ := Option.isSome_iff_exists.1 hb
  simp [callFunc, hf, hn', hc]
theorem r_call {f : FuncId} {xs : List Operand} {vs : List Value} {ats : Array TypeId} (ho : o.op = .call { callee := .value (.func f), args := xs.toArray, argTypes := ats }) (he : Enters P f) (hx : looksL l xs = some vs) :
    (execOp (Fr l).eval o).run P w = .ok (.enter f vs.toArray) w := by
  have h := looksL_eval _ _ hx
  have : execOp (Fr l).eval o = callFunc f (#[] ++ xs.toArray.map (Fr l).eval ++ #[]) := by
    obtain ⟨dst, op, ty, pos, af, g⟩ := o
    simp only at ho
    subst ho
    rfl
  rw [this, List.map_toArray, h]
  simp only [Array.empty_append, Array.append_empty]
  exact run_enter he _
/-- .. through a function value with what it captured. -/
theorem r_callV {f : FuncId} {x : Operand} {xs : List Operand} {vs cap : List Value} {ats : Array TypeId} (ho : o.op = .call { callee := .value x, args := xs.toArray, argTypes := ats }) (hf : lookL l x = some (.func (.func f) #[] cap.toArray)) (he : Enters P f) (hx : looksL l xs = some vs) :
    (execOp (Fr l).eval o).run P w = .ok (.enter f (vs ++ cap).toArray) w := by
  have h := looksL_eval _ _ hx
  have hf' := lookL_eval hf
  have : execOp (Fr l).eval o = callFunc f (#[] ++ xs.toArray.map (Fr l).eval ++ cap.toArray) := by
    obtain ⟨dst, op, ty, pos, af, g⟩ := o
    simp only at ho
    subst ho
    simp only [execOp, resolve, hf']
    rfl
  rw [this, List.map_toArray, h]
  simp only [Array.empty_append, List.append_toArray]
  exact run_enter he _
/-- What stands behind a call. -/
def After (P : Program) (ops : Array Oper) (Q : Exit → Act → World → Prop) (rest : List Oper) (l : List Value) (d : Option Nat) (v : Value) (w : World) : Prop := wpList P ops Q rest ((Fr l).put d v) w
theorem s_enter {f : FuncId} {args : Array Value} (hr : (execOp (Fr l).eval o).run P w = .ok (.enter f args) w) (hg : Region.wanted o (yielded ops (Fr l).tmps) = true)
    (hc : Calls P f args w fun e w' => ∃ v, e = .returned v ∧ After P ops Q rest l o.dst v w') : wpList P ops Q (o :: rest) (Fr l) w := by
  unfold wpList; rw [if_pos hg]; left; unfold Oper.wp; rw [hr]
  exact hc.mono fun e w' h => by obtain ⟨v, rfl, h⟩ := h; exact h
theorem a_put (hp : putL l d v = some l') (hk : wpList P ops Q rest (Fr l') w) : After P ops Q rest l (some d) v w := by
  unfold After; rw [put_frame hp]; exact hk
theorem a_bool {c : Bool} {l' : Bool → List Value} (hp : ∀ c, putL l d (.bool c) = some (l' c)) (hk : ∀ c' : Bool, c' = c → wpList P ops Q rest (Fr (l' c')) w) : After P ops Q rest l (some d) (.bool c) w :=
  a_put (hp c) (hk c rfl)
theorem a_none (hk : wpList P ops Q rest (Fr l) w) : After P ops Q rest l none v w := hk

/-! ### Code -/
theorem c_region {id : Nat} {lo : List Oper} (h : wpList P lo.toArray Q lo (Fr l) w) : (Code.region id lo.toArray false).wp P Q (Fr l) w := wp_region_lit h
theorem c_cond {x : Operand} {c1 c2 : Code} {b : Bool} (hx : lookL l x = some (.bool b)) (h : (if b then c1 else c2).wp P Q (Fr l) w) : (Code.cond x c1 c2).wp P Q (Fr l) w := wp_cond (lookL_eval hx) h
theorem c_condT {x : Operand} {c1 c2 : Code} (hx : lookL l x = some (.bool true)) (h : c1.wp P Q (Fr l) w) : (Code.cond x c1 c2).wp P Q (Fr l) w := wp_cond (lookL_eval hx) h
theorem c_condF {x : Operand} {c1 c2 : Code} (hx : lookL l x = some (.bool false)) (h : c2.wp P Q (Fr l) w) : (Code.cond x c1 c2).wp P Q (Fr l) w := wp_cond (lookL_eval hx) h

/-- Some slots of a frame: what they hold; written anew. -/
def getM (l : List Value) : List Nat → Option (List Value)
  | [] => some []
  | d :: r => match nthL l d, getM l r with
    | some v, some vs => some (v :: vs)
    | _, _ => none
def putM : List Value → List Nat → List Value → Option (List Value)
  | l, [], [] => some l
  | l, d :: r, v :: vs => match putL l d v with
    | some l' => putM l' r vs
    | none => none
  | _, _, _ => none
/-- A frame whose written slots hold some values. -/
def At (l : List Value) (ws : List Nat) (xs : List Value) (a : Act) : Prop := ∃ l1, a = Fr l1 ∧ putM l ws xs = some l1 ∧ getM l1 ws = some xs
/-- What lies at a place of a list. -/
def xAt (xs : List Value) (i : Nat) : Value := (xs[i]?).getD undef
/-- A loop: R holds of the slots that it writes, at each round's head. -/
theorem c_loop {c : Code} (ws : List Nat) (R : List Value → World → Prop) (m : List Value → World → Nat) {xs : List Value} (hg : getM l ws = some xs) (hp0 : putM l ws xs = some l) (h0 : R xs w)
    (hround : ∀ xs w, R xs w → ∃ l1, putM l ws xs = some l1 ∧ ∀ K : Act → World → Prop, (∀ l2 xs' w', getM l2 ws = some xs' → putM l ws xs' = some l2 → R xs' w' → m xs' w' < m xs w → K (Fr l2) w') → c.wp P (Exit.then K Q) (Fr l1) w) : (Code.loop c).wp P Q (Fr l) w := by
  refine wp_loop (fun a w => ∃ xs, At l ws xs a ∧ R xs w) (fun a w => match getM a.tmps.toList ws with | some xs => m xs w | none => 0) ⟨xs, ⟨l, rfl, hp0, hg⟩, h0⟩ ?_
  rintro a w1 ⟨xs1, ⟨l1, rfl, hp1, hg1⟩, hR⟩
  obtain ⟨l2, hl2, hwp⟩ := hround xs1 w1 hR
  obtain rfl : l1 = l2 := Option.some.inj (hp1.symm.trans hl2)
  refine hwp _ ?_
  intro l3 xs' w' hg2 hp2 hR2 hm
  refine ⟨⟨xs', ⟨l3, rfl, hp2, hg2⟩, hR2⟩, ?_⟩
  simpa [hg1, hg2] using hm
/-- A piece of code whose ways meet again: R holds of the slots that it writes, behind it. -/
theorem c_cut {c1 c2 : Code} (ws : List Nat) (R : List Value → World → Prop)
    (h1 : ∀ K : Act → World → Prop, (∀ l1 xs w', putM l ws xs = some l1 → getM l1 ws = some xs → R xs w' → K (Fr l1) w') → c1.wp P (Exit.then K Q) (Fr l) w)
    (h2 : ∀ xs w', R xs w' → ∀ l1, putM l ws xs = some l1 → c2.wp P Q (Fr l1) w') : (Code.seq c1 c2).wp P Q (Fr l) w :=
  wp_seq (h1 _ fun l1 xs w' hp _ hR => h2 xs w' hR l1 hp)

/-! ### A function's beginning and end -/
/-- The arguments, and empty slots behind them. -/
def padL : List Value → Nat → Option (List Value)
  | [], 0 => some []
  | _ :: _, 0 => none
  | [], n + 1 => match padL [] n with
    | some r => some (undef :: r)
    | none => none
  | v :: vs, n + 1 => match padL vs n with
    | some r => some (v :: r)
    | none => none
theorem padL_eq : ∀ (args : List Value) (n : Nat) (l : List Value), padL args n = some l → args ++ List.replicate (n - args.length) undef = l
  | [], 0, l, h => by simp [padL] at h; simp [h]
  | _ :: _, 0, l, h => by simp [padL] at h
  | [], n + 1, l, h => by
    simp only [padL] at h
    split at h
    · rename_i r hr; cases h
      have := padL_eq [] n r hr
      simp only [List.nil_append, List.length_nil, Nat.sub_zero] at this ⊢
      rw [List.replicate_succ, this]
    · cases h
  | v :: vs, n + 1, l, h => by
    simp only [padL] at h
    split at h
    · rename_i r hr; cases h
      have := padL_eq vs n r hr
      simp only [List.cons_append, List.length_cons, Nat.add_sub_add_right, this]
    · cases h
theorem f_enter {f : FuncId} {fn : Func} {c : Code} {args : List Value} {R : Ending → World → Prop} {l : List Value} (hf : P.funcs[f]? = some fn) (hb : fn.body = some c) (hl0 : padL args fn.ntmps = some l)
    (h : c.wp P (bodyPost P fn R) (Fr l) w) : Calls P f args.toArray w R := by
  refine calls_of_wp hf hb ?_
  have hl := padL_eq _ _ _ hl0
  subst hl
  have e : args.toArray ++ Array.replicate (fn.ntmps - args.toArray.size) undef = (args ++ List.replicate (fn.ntmps - args.length) undef).toArray := by
    apply Array.toList_inj.1; simp
  rw [e]; exact h
/-- What a function's results are, read off its frame. -/
inductive ResIs (P : Program) (w : World) (l : List Value) : List ResultVar → List Value → Prop
  | nil : ResIs P w l [] []
  | tmp {t : Nat} {v : Value} {rs : List ResultVar} {vs : List Value} (h : nthL l t = some v) (r : ResIs P w l rs vs) : ResIs P w l (.tmp t :: rs) (v :: vs)
  | cell {t ty : Nat} {ad : Addr} {v : Value} {rs : List ResultVar} {vs : List Value} (h : nthL l t = some (.pointer (some ad))) (hl : (loadVar ty ad).run P w = .ok v w) (r : ResIs P w l rs vs) : ResIs P w l (.cell t ty :: rs) (v :: vs)
def resG (l : List Value) : ResultVar → Sem Value
  | .tmp t => pure (l.toArray.getD t undef)
  | .cell a t => do loadVar t (← asAddr (l.toArray.getD a undef))
theorem res_list {rs : List ResultVar} {vs : List Value} (h : ResIs P w l rs vs) : (rs.mapM (m := Sem) (resG l)).run P w = .ok vs w := by
  induction h with
  | nil => rfl
  | @tmp t v rs vs h r ih =>
    rw [nthL_eq] at h
    have h1 : (resG l (.tmp t)).run P w = .ok v w := by simp [resG, h]
    simp only [List.mapM_cons, Sem.run_bind, h1, Sem.run_pure, Result.andThen_ok, ih]
  | @cell t ty ad v rs vs h hl r ih =>
    rw [nthL_eq] at h
    have h' : l.toArray.getD t undef = .pointer (some ad) := by simp [h]
    have h1 : (resG l (.cell t ty)).run P w = .ok v w := by
      show (do loadVar ty (← asAddr (l.toArray.getD t undef))).run P w = _
      rw [h']; exact hl
    simp only [List.mapM_cons, Sem.run_bind, h1, Sem.run_pure, Result.andThen_ok, ih]
def resV : List Value → Value
  | [v] => v
  | vs => .tuple vs.toArray
theorem res_run {fn : Func} {rs : List ResultVar} {vs : List Value} (hr : fn.results = rs.toArray) (h : ResIs P w l rs vs) : (results fn (Fr l).tmps).run P w = .ok (resV vs) w := by
  have hl := res_list h
  have e : results fn (Fr l).tmps = (do let vs ← rs.toArray.mapM (m := Sem) (resG l); pure (if h : vs.size = 1 then vs[0] else .tuple vs)) := by
    unfold results; rw [hr]; rfl
  rw [e]
  simp only [List.mapM_toArray, Sem.run_bind, Sem.run_map, hl, Result.andThen_ok, Sem.run_pure]
  match vs with
  | [] => rfl
  | [v] => rfl
  | v :: u :: r => simp [resV]
theorem f_end {fn : Func} {R : Ending → World → Prop} {rs : List ResultVar} {vs : List Value} {v : Value} (hr : fn.results = rs.toArray) (h : ResIs P w l rs vs) (hv : resV vs = v) (hR : R (.returned v) w) : bodyPost P fn R .normal (Fr l) w :=
  ⟨rfl, v, hv ▸ res_run hr h, hR⟩
theorem f_ret {fn : Func} {R : Ending → World → Prop} {rs : List ResultVar} {vs : List Value} {v : Value} (hr : fn.results = rs.toArray) (h : ResIs P w l rs vs) (hv : resV vs = v) (hR : R (.returned v) w) : bodyPost P fn R .ret (Fr l) w :=
  ⟨rfl, v, hv ▸ res_run hr h, hR⟩
theorem run_load1 {t b off : Nat} {cs : List Value} {T : TypeId} {fr : Nat × Nat} (hb : w.heap[b]? = some (.cells cs.toArray T fr))
    (hi : (isAgg t).run P w = .ok false w) (hv : nthL cs off = some v) : (loadVar t ⟨b, off, none⟩).run P w = .ok v w := by
  rw [nthL_eq] at hv
  have hc : w.cell? ⟨b, off, none⟩ = some v := by simpa [World.cell?, hb] using hv
  simp [loadVar, hi, hc]
end
end Go.Proofs.Ytoeaamohchpjdaa
