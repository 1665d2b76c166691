/-
  From a walk that starts with all old memory left alone to a row's step: a law that returns true.
-/
import Derived.Test.YtoeaamohchpjdaaSlice
import Derived.ProofKit
import Derived.OpenShut
namespace Go.Proofs.Ytoeaamohchpjdaa
open Go.ChangeShapes Go.WideShapes Go.ChangeAt Go.RowKit
set_option linter.unusedVariables false

/-- All that lies in a world, left alone. -/
def whole (W : World) : HP := ⟨fun _ r => ∀ (k : Nat) (x : Obj), W.heap[k]? = some x → r k = some x, fun _ hr h k x e => hr _ _ (h k x e)⟩
theorem Lasts.ofWhole (W : World) : Lasts (whole W) := fun _ _ h => h
theorem sat_whole (W : World) : Sat W (whole W) W :=
  ⟨⟨rfl, rfl, rfl⟩, fun _ => none, fun k => W.heap[k]?, Hl.none_le _, fun _ _ e => e, fun _ => .inl rfl, fun _ _ e => e⟩
theorem sat_start (W : World) : Sat W (whole W * emp) W := (sat_whole W).mkEmp
/-- What an argument reads as, it reads as for good. -/
theorem sat_arg {W : World} {H : HP} {sz n : Nat} {v : Value} {xs : List Value} (h : Sat W (whole W * H) W) (hr : Reads W sz v n xs) : Sat W (whole W * (H * rsl sz v n xs)) W := by
  obtain ⟨env, o, r, ho, hr', a, c, d, ap, hc, hd, hw, q⟩ := h
  refine ⟨env, o, r, ho, hr', a, c, d, ap, hc, hd, hw, d, fun _ => none, fun _ => .inr rfl, Hl.le_refl _, Hl.none_le _, q, ?_⟩
  exact ⟨hr.1, hr.2.imp id fun ⟨a, cc, e, hcell⟩ => ⟨a, cc, e, fun j u hu => Hl.cell_of hw (hcell j u hu)⟩⟩
theorem below_of_sat {W w' : World} {H : HP} (h : Sat W (whole W * H) w') : Below W.heap.size W w' := by
  obtain ⟨⟨e1, e2, e3⟩, o, r, _, hr, _, c, d, _, _, _, hw, _⟩ := h
  have hb : ∀ (k : Nat), k < W.heap.size → w'.heap[k]? = W.heap[k]? := fun k hk => by
    have e : W.heap[k]? = some W.heap[k] := Array.getElem?_eq_getElem hk
    rw [e]; exact hr _ _ (hw k _ e)
  refine ⟨e1, e3, e2, ?_, hb⟩
  rcases Nat.lt_or_ge w'.heap.size W.heap.size with hl | hl
  · exfalso
    have h1 := hb w'.heap.size hl
    rw [Array.getElem?_eq_getElem hl] at h1
    simp at h1
  · exact hl

section
variable {H : Type} {enc : TypeId × Value → H} {P : Program}
theorem trodAll_stays (hl : laidOutB P = true) {W W' : World} (hb : Below W.heap.size W W') {sp : Nat → Bool} : ∀ (ts : List TypeId) (vs : List Value) (ds : List (DataW H)) (ps : List MemPlace),
    (∀ t ∈ ts, P.readableRec t = true ∧ t < P.types.size) → DataW.TrodAll enc P W 0 (fun _ => true) true ts vs ds ps → (∀ x ∈ ps, x.block < W.heap.size) → (∀ x ∈ ps, sp x.block = true) → DataW.TrodAll enc P W' 0 sp true ts vs ds ps
  | [], vs, ds, ps, _, h, _, _ => by
    obtain ⟨rfl, rfl, rfl⟩ := trodAll_nil h
    exact trodAll_mk0
  | t :: ts, vs, ds, ps, ht, h, hlt, hsp => by
    obtain ⟨v, vs', d, ds', p, q, rfl, rfl, rfl, h0, h1⟩ := trodAll_cons h
    refine trodAll_cons_mk (WideElems.Trod_stays hl (ht t List.mem_cons_self).1 (ht t List.mem_cons_self).2 h0 (fun x hx => hb.same (hlt x (List.mem_append_left _ hx))) (fun x hx => hsp x (List.mem_append_left _ hx))) ?_
    exact trodAll_stays hl hb ts vs' ds' q (fun t' h' => ht t' (List.mem_cons_of_mem _ h')) h1 (fun x hx => hlt x (List.mem_append_right _ hx)) (fun x hx => hsp x (List.mem_append_right _ hx))

/-- A slice of ints that came in. -/
theorem ints_reads {W : World} {r : Reach} {b base : Nat} {t e : TypeId} {v : Value} {d : DataW H} {p : List MemPlace} (ht : P.underlying t = some (.slice e)) (he : P.underlying e = some (.int .i64)) (hc : P.cellsOf e = 1)
    (hv : Value.okWide P W r b t v) (h : DataW.Trod enc P W base (fun _ => true) true t v d p) :
    ∃ zs : List Int, Reads W 1 v zs.length (zs.map (Value.int .i64)) ∧ ∀ z ∈ zs, (Lit.int .i64 z).wf = true := by
  obtain ⟨a0, len0, cap0, rfl⟩ := okWide_slice ht hv
  obtain ⟨fuel, hf⟩ := h
  rcases open_ints ht he hc hf with ⟨hcs, hx⟩ | ⟨a, len, cap, zs, hcs, _, hl, hm, hz, hx, hcell, hwz⟩
  · simp only [Value.cells, List.cons.injEq, Value.slice.injEq, and_true] at hcs
    obtain ⟨rfl, rfl, rfl⟩ := hcs
    exact ⟨[], ⟨by simp, .inl ⟨rfl, rfl⟩⟩, by simp⟩
  · simp only [Value.cells, List.cons.injEq, Value.slice.injEq, and_true] at hcs
    obtain ⟨rfl, rfl, rfl⟩ := hcs
    simp only [if_true] at hz
    have hlen : (zs.take len0).length = len0 := by rw [List.length_take]; omega
    refine ⟨zs.take len0, ⟨by simp, .inr ⟨a, cap0, by rw [hlen], fun j u hu => ?_⟩⟩, fun z hzm => hwz z (List.mem_of_mem_take hzm)⟩
    rw [List.getElem?_map, List.getElem?_take] at hu
    split at hu
    · rename_i hj
      have hjz : j < zs.length := by omega
      rw [hcell j hjz]
      simp only [List.getElem?_eq_getElem hjz, Option.map_some] at hu
      rw [← hu]; simp [hjz]
    · cases hu

/-- A law that returned true, all old memory left alone. -/
theorem law_post {f : Func} {s : ChangeSpec} {apart : Bool} {W W' : World} {args : Array Value} {ds gs : List (DataW H)} {before : List MemPlace} (tb : TypeId)
    (hW : DataW.Whole enc P f.params.toList s.vars apart W args.toList ds gs before) (hv : s.vars = [])
    (hf : (s.fn H (ds ++ gs)).results = [.lit (.bool true)]) (ha : (s.fn H (ds ++ gs)).args = ds) (hvv : (s.fn H (ds ++ gs)).vars = [])
    (hr : f.resultTypes = #[tb]) (hu : P.underlying tb = some .bool)
    (hl : laidOutB P = true) (ht0 : f.params.toList.all (fun t => P.readableRec t && decide (t < P.types.size)) = true) (hb : Below W.heap.size W W') :
    s.post enc P f apart true false false W args (.bool true) W' := by
  obtain ⟨p, q, hA, hV, hpq, hfz, hnd⟩ := id hW
  have ht : ∀ t ∈ f.params.toList, P.readableRec t = true ∧ t < P.types.size := fun t h => by
    rw [List.all_eq_true] at ht0
    simpa using ht0 t h
  rw [hv] at hV
  obtain ⟨rfl, rfl⟩ := trodVars_none hV
  have hlt : ∀ x ∈ p, x.block < W.heap.size := fun x hx => hW.lt x (by rw [hpq]; simpa using hx)
  have hps : before = p ++ [] := hpq
  have hargs : ∀ sp : Nat → Bool, (∀ x ∈ before, sp x.block = true) → DataW.TrodAll enc P W' 0 sp true f.params.toList args.toList ds p := fun sp hsp =>
    trodAll_stays hl hb _ _ _ _ ht hA hlt (fun x hx => hsp x (by rw [hps]; simpa using hx))
  refine ⟨ds, [], before, [], p, [], hW, ?_, ?_, ?_, World.keptBut_mono (fun x hx => ⟨hx, .inr (.inl (by rw [hps] at hx; simpa using hx))⟩) (hb.frame (· ∈ before)), fun e => by cases e⟩
  · rw [hf, hr]
    exact trodAll_mk1 (shut_bool hu true)
  · rw [ha]
    exact hargs _ (fun x hx => by simpa using hlt x (by rw [hps] at hx; simpa using hx))
  · rw [hvv, hv]
    rfl
end
end Go.Proofs.Ytoeaamohchpjdaa
