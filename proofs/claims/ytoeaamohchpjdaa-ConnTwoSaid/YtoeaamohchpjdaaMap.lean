/-
  Maps in the logic of blocks: a map is a function of its keys. It speaks of no program.
-/
import Derived.Test.YtoeaamohchpjdaaSlice
import Derived.WideKeyPair
import Derived.WideKeyEntry
namespace Go.Proofs.Ytoeaamohchpjdaa
open Go Go.RowKit Go.ChangeShapes Go.WideShapes
open Go.WideMaps (KeyLaw)
open Classical
set_option linter.unusedVariables false

structure MapOk (P : Program) (k : TypeId) (es : Array MapEntry) (f : Value → Option Value) : Prop where
  keys : ∀ x ∈ es.toList, ∃ l, keyOf P k x.key = some l
  nodup : (es.toList.map (·.key)).Nodup
  val : ∀ x ∈ es.toList, f x.key = some x.val
  none' : ∀ key, (∀ x ∈ es.toList, x.key ≠ key) → f key = none

noncomputable def upd (f : Value → Option Value) (key val : Value) : Value → Option Value := fun x => if x = key then some val else f x

section
variable {P : Program} {k : TypeId} {es : Array MapEntry} {f : Value → Option Value}
theorem MapOk.empty : MapOk P k #[] (fun _ => none) := ⟨by simp, by simp, by simp, by simp⟩
theorem MapOk.push (h : MapOk P k es f) {key val : Value} {kl : Lit} {c : Nat} (hk : keyOf P k key = some kl) (hn : ∀ x ∈ es.toList, x.key ≠ key) : MapOk P k (es.push ⟨key, val, c⟩) (upd f key val) := by
  refine ⟨fun x hx => ?_, ?_, fun x hx => ?_, fun key' hx => ?_⟩
  · simp only [Array.toList_push, List.mem_append, List.mem_singleton] at hx
    rcases hx with hx | rfl
    · exact h.keys x hx
    · exact ⟨kl, hk⟩
  · simp only [Array.toList_push, List.map_append, List.map_cons, List.map_nil]
    refine List.nodup_append.2 ⟨h.nodup, by simp, fun a ha c hc e1 => ?_⟩
    simp only [List.mem_singleton] at hc
    obtain ⟨x, hx, rfl⟩ := List.mem_map.1 ha
    exact hn x hx (e1.trans hc)
  · simp only [Array.toList_push, List.mem_append, List.mem_singleton] at hx
    rcases hx with hx | rfl
    · unfold upd; rw [if_neg (hn x hx)]; exact h.val x hx
    · simp [upd]
  · simp only [Array.toList_push, List.mem_append, List.mem_singleton] at hx
    have : key' ≠ key := fun e => hx _ (.inr rfl) e.symm
    unfold upd; rw [if_neg this]
    exact h.none' key' (fun x hxm => hx x (.inl hxm))

theorem modify_list {α : Type} (es : Array α) (j : Nat) (g : α → α) (e0 : α) (h : es.toList[j]? = some e0) : (es.modify j g).toList = es.toList.set j (g e0) := by
  rw [Array.toList_modify, Go.ChangeMaps.modify_eq_set _ _ _ _ h]

theorem MapOk.turn (h : MapOk P k es f) {key val : Value} {j : Nat} {e0 : MapEntry} (hj : es.toList[j]? = some e0) (he : e0.key = key) : MapOk P k (es.modify j fun e => { e with key := key, val := val }) (upd f key val) := by
  have hl := modify_list es j (fun e => { e with key := key, val := val }) e0 hj
  have hjl : j < es.toList.length := (List.getElem?_eq_some_iff.1 hj).1
  have hkeys : (es.toList.set j { e0 with key := key, val := val }).map (·.key) = es.toList.map (·.key) := by
    rw [List.map_set]
    refine WideElems.set_self _ _ _ ?_
    rw [List.getElem?_map, hj]; simp [he]
  have hmem : ∀ x ∈ es.toList.set j { e0 with key := key, val := val }, x = { e0 with key := key, val := val } ∨ (x ∈ es.toList ∧ x.key ≠ key) := fun x hx => by
    obtain ⟨i, hi⟩ := List.getElem?_of_mem hx
    by_cases hij : j = i
    · subst hij
      rw [List.getElem?_set_self hjl] at hi
      exact .inl (Option.some.inj hi).symm
    · rw [List.getElem?_set_ne hij] at hi
      refine .inr ⟨List.mem_of_getElem? hi, fun e => hij ?_⟩
      have h1 : (es.toList.map (·.key))[i]? = some key := by rw [List.getElem?_map, hi]; simp [e]
      have h2 : (es.toList.map (·.key))[j]? = some key := by rw [List.getElem?_map, hj]; simp [he]
      exact (List.getElem?_inj (by simpa using hjl) h.nodup).1 (h2.trans h1.symm)
  refine ⟨fun x hx => ?_, by rw [hl, hkeys]; exact h.nodup, fun x hx => ?_, fun key' hx => ?_⟩
  · rw [hl] at hx
    rcases hmem x hx with rfl | ⟨hx, _⟩
    · obtain ⟨l, hl'⟩ := h.keys e0 (List.mem_of_getElem? hj)
      exact ⟨l, by rw [← hl', he]⟩
    · exact h.keys x hx
  · rw [hl] at hx
    rcases hmem x hx with rfl | ⟨hx, hne⟩
    · simp [upd]
    · unfold upd; rw [if_neg hne]; exact h.val x hx
  · rw [hl] at hx
    have hk : ∀ y ∈ es.toList.map (·.key), y ≠ key' := fun y hy => by
      rw [← hkeys] at hy
      obtain ⟨x, hxm, rfl⟩ := List.mem_map.1 hy
      exact hx x hxm
    have hkk : key' ≠ key := fun e => hk key (List.mem_map.2 ⟨e0, List.mem_of_getElem? hj, he⟩) e.symm
    unfold upd; rw [if_neg hkk]
    exact h.none' key' (fun x hxm => hk _ (List.mem_map.2 ⟨x, hxm, rfl⟩))
end

/-- A map of one's own. -/
def mp (P : Program) (k : TypeId) (b : Nat) (f : Value → Option Value) : HP where
  f o _ := ∃ es clock, o b = some (.map es clock) ∧ MapOk P k es f
  mono := fun ho _ ⟨es, c, h, hm⟩ => ⟨es, c, ho _ _ h, hm⟩

section
variable {P : Program} {k : TypeId} {b : Nat} {f : Value → Option Value} {w : World} {E : World} {R : HP}
theorem Sat.getMap (h : Sat E (R * mp P k b f) w) : ∃ es clock, Sat E (R * own b (.map es clock)) w ∧ MapOk P k es f := by
  obtain ⟨env, o, r, ho, hr, a, c, d, ap, hc, hd, p, es, cl, q, hm⟩ := h
  exact ⟨es, cl, ⟨env, o, r, ho, hr, a, c, d, ap, hc, hd, p, q⟩, hm⟩
theorem Sat.mkMap {es : Array MapEntry} {clock : Nat} (h : Sat E (R * own b (.map es clock)) w) (hm : MapOk P k es f) : Sat E (R * mp P k b f) w :=
  h.ent (Ent.right (show Ent (own b (.map es clock)) (mp P k b f) from fun _ _ q => ⟨es, clock, q, hm⟩) R)
end

section
variable {P : Program} {ops : Array Oper} {rest : List Oper} {o : Oper} {a : Act} {w : World} {Q : Exit → Act → World → Prop}

theorem wpL_makeMap (k e t : TypeId) (ho : o.op = .makeMap t none) (hg : Region.wanted o (yielded ops a.tmps) = true) {E : World} {H : HP} (ht : P.underlying t = some (.map k e)) (hs : Sat E H w)
    (hk : ∀ b w', Sat E (H * mp P k b (fun _ => none)) w' → wpList P ops Q rest (a.put o.dst (.map (some b))) w') : wpList P ops Q (o :: rest) a w := by
  refine wpL_value (w' := w.alloc (.map #[] 0)) hg ?_ (hk _ _ ((hs.alloc _).mkMap MapOk.empty))
  unfold execOp
  simp only [ho, Option.map_none, show (Instr.makeMap t none).run P w = .ok (.map (some w.heap.size)) (w.alloc (.map #[] 0)) from rfl, Sem.run_bind, Sem.run_pure, Result.andThen_ok]

theorem wpL_mapUpdate (k e t : TypeId) (m x y : Operand) (ho : o.op = .mapUpdate t m x y) (hd : o.dst = none) (hg : Region.wanted o (yielded ops a.tmps) = true) {E : World} {H R : HP} {b : Nat} {f : Value → Option Value} {key val : Value} {kl : Lit}
    (ht : P.underlying t = some (.map k e)) (K : KeyLaw P k) (hm0 : look a m = some (.map (some b))) (hx0 : look a x = some key) (hy0 : look a y = some val) (hkey : keyOf P k key = some kl)
    (hs : Sat E H w) (c : Cut H (mp P k b f) R)
    (hk : ∀ w', Sat E (R * mp P k b (upd f key val)) w' → wpList P ops Q rest a w') : wpList P ops Q (o :: rest) a w := by
  have hm := look_eval hm0
  have hx := look_eval hx0
  have hy := look_eval hy0
  obtain ⟨es, clock, hs', hM⟩ := (hs.cut c).getMap
  have hb := hs'.getOwn
  rcases K.find w hkey es.toList hM.keys with ⟨h1, h2⟩ | ⟨j, e0, h1, h2, h3⟩
  · refine wpL_skip (w' := Go.ChangeMaps.setBlock w b (.map (es.push ⟨key, val, clock⟩) (clock + 1))) hg ?_ ?_
    · unfold execOp
      simp only [ho, hm, hx, hy]
      simp [Instr.mapUpdate, run_underlying ht, MapKept.run_getObj_map hb, K.check w false hkey, h1, MapKept.run_setObj_map _ hb, Result.andThen, Go.ChangeMaps.setBlock]
    · rw [hd]
      refine hk _ (Sat.mkMap (hs'.turn (Go.ChangeMaps.heap_setBlock_same hb _) (fun k hk => Go.ChangeMaps.heap_setBlock_other hb _ hk) rfl rfl rfl) (hM.push hkey h2))
  · have hj : es[j]? = some e0 := by simpa using h2
    refine wpL_skip (w' := Go.ChangeMaps.setBlock w b (.map (es.modify j fun e' => { e' with key := key, val := val }) clock)) hg ?_ ?_
    · unfold execOp
      simp only [ho, hm, hx, hy]
      simp [Instr.mapUpdate, run_underlying ht, MapKept.run_getObj_map hb, K.check w false hkey, h1, hj, h3, K.stays w hkey, MapKept.run_setObj_map _ hb, Result.andThen, Go.ChangeMaps.setBlock]
    · rw [hd]
      refine hk _ (Sat.mkMap (hs'.turn (Go.ChangeMaps.heap_setBlock_same hb _) (fun k hk => Go.ChangeMaps.heap_setBlock_other hb _ hk) rfl rfl rfl) (hM.turn h2 h3))

theorem wpL_lookup (k e t : TypeId) (m x : Operand) (ho : o.op = .lookup t m x false) (hg : Region.wanted o (yielded ops a.tmps) = true) {E : World} {H R : HP} {b : Nat} {f : Value → Option Value} {key z : Value} {kl : Lit} {i : TypeInfo}
    (ht : P.underlying t = some (.map k e)) (K : KeyLaw P k) (hi : P.info? e = some i) (hz : i.zero = some z) (hm0 : look a m = some (.map (some b))) (hx0 : look a x = some key) (hkey : keyOf P k key = some kl)
    (hs : Sat E H w) (c : Cut H (mp P k b f) R)
    (hk : wpList P ops Q rest (a.put o.dst ((f key).getD z)) w) : wpList P ops Q (o :: rest) a w := by
  have hm := look_eval hm0
  have hx := look_eval hx0
  obtain ⟨es, clock, hs', hM⟩ := (hs.cut c).getMap
  have hb := hs'.getOwn
  have hzv : (zeroValue e).run P w = .ok z w := by simp [zeroValue, typeInfo, hi, hz]
  rcases K.find w hkey es.toList hM.keys with ⟨h1, h2⟩ | ⟨j, e0, h1, h2, h3⟩
  · rw [hM.none' key h2] at hk
    refine wpL_value hg ?_ hk
    unfold execOp
    simp only [ho, hm, hx]
    simp [Instr.lookup, run_underlying ht, MapKept.run_getObj_map hb, K.check w _ hkey, h1, hzv, Result.andThen]
  · have hv := hM.val e0 (List.mem_of_getElem? h2)
    rw [h3] at hv
    rw [hv] at hk
    refine wpL_value hg ?_ hk
    unfold execOp
    simp only [ho, hm, hx]
    simp [Instr.lookup, run_underlying ht, MapKept.run_getObj_map hb, K.check w _ hkey, h1, Result.andThen]
end

/-- A map of pairs of ints to ints: a function of two numbers, 0 where there is nothing. -/
def pairK (a b : Int) : Value := .agg #[.int .i64 a, .int .i64 b]
theorem pairK_inj {a b a' b' : Int} (h : pairK a b = pairK a' b') : a = a' ∧ b = b' := by
  unfold pairK at h
  simp at h
  exact h
def updM (m : Int → Int → Int) (s k v : Int) : Int → Int → Int := fun a b => if a = s ∧ b = k then v else m a b
def mpI (P : Program) (k : TypeId) (b : Nat) (m : Int → Int → Int) : HP where
  f o _ := ∃ es clock f, o b = some (.map es clock) ∧ MapOk P k es f ∧ ∀ x y, (f (pairK x y)).getD (.int .i64 0) = .int .i64 (m x y)
  mono := fun ho _ ⟨es, c, f, h, hm⟩ => ⟨es, c, f, ho _ _ h, hm⟩
section
variable {P : Program} {k : TypeId} {b : Nat} {m : Int → Int → Int} {w : World} {E : World} {R : HP}
theorem Sat.getMapI (h : Sat E (R * mpI P k b m) w) : ∃ f, Sat E (R * mp P k b f) w ∧ ∀ x y, (f (pairK x y)).getD (.int .i64 0) = .int .i64 (m x y) := by
  obtain ⟨env, o, r, ho, hr, a, c, d, ap, hc, hd, p, es, cl, f, q, hm, hf⟩ := h
  exact ⟨f, ⟨env, o, r, ho, hr, a, c, d, ap, hc, hd, p, es, cl, q, hm⟩, hf⟩
theorem Sat.mkMapI {f : Value → Option Value} (h : Sat E (R * mp P k b f) w) (hf : ∀ x y, (f (pairK x y)).getD (.int .i64 0) = .int .i64 (m x y)) : Sat E (R * mpI P k b m) w :=
  h.ent (Ent.right (show Ent (mp P k b f) (mpI P k b m) from fun _ _ ⟨es, clock, q, hm⟩ => ⟨es, clock, f, q, hm, hf⟩) R)
theorem upd_pair {f : Value → Option Value} {s q v : Int} (hf : ∀ x y, (f (pairK x y)).getD (.int .i64 0) = .int .i64 (m x y)) (x y : Int) :
    ((upd f (pairK s q) (.int .i64 v)) (pairK x y)).getD (.int .i64 0) = .int .i64 (updM m s q v x y) := by
  unfold upd updM
  by_cases h : x = s ∧ y = q
  · obtain ⟨rfl, rfl⟩ := h; simp
  · rw [if_neg (fun e => h (pairK_inj e)), if_neg h]; exact hf x y
end
section
variable {P : Program} {ops : Array Oper} {rest : List Oper} {o : Oper} {a : Act} {w : World} {Q : Exit → Act → World → Prop}
theorem wpL_makeMapI (k e t : TypeId) (ho : o.op = .makeMap t none) (hg : Region.wanted o (yielded ops a.tmps) = true) {E : World} {H : HP} (ht : P.underlying t = some (.map k e)) (hs : Sat E H w)
    (hk : ∀ b w', Sat E (H * mpI P k b (fun _ _ => 0)) w' → wpList P ops Q rest (a.put o.dst (.map (some b))) w') : wpList P ops Q (o :: rest) a w :=
  wpL_makeMap k e t ho hg ht hs (fun b w' h => hk b w' (h.mkMapI (fun _ _ => rfl)))
theorem wpL_mapUpdateI (k e t : TypeId) (m x y : Operand) (ho : o.op = .mapUpdate t m x y) (hd : o.dst = none) (hg : Region.wanted o (yielded ops a.tmps) = true) {E : World} {H R : HP} {b : Nat} {f : Int → Int → Int} {s q v : Int} {kl : Lit}
    (ht : P.underlying t = some (.map k e)) (K : KeyLaw P k) (hm0 : look a m = some (.map (some b))) (hx0 : look a x = some (pairK s q)) (hy0 : look a y = some (.int .i64 v)) (hkey : keyOf P k (pairK s q) = some kl)
    (hs : Sat E H w) (c : Cut H (mpI P k b f) R)
    (hk : ∀ w', Sat E (R * mpI P k b (updM f s q v)) w' → wpList P ops Q rest a w') : wpList P ops Q (o :: rest) a w := by
  obtain ⟨g, hs', hg'⟩ := (hs.cut c).getMapI
  exact wpL_mapUpdate k e t m x y ho hd hg ht K hm0 hx0 hy0 hkey hs' (Cut.head _ _) (fun w' h => hk w' (h.mkMapI (upd_pair hg')))
theorem wpL_lookupI (k e t : TypeId) (m x : Operand) (ho : o.op = .lookup t m x false) (hg : Region.wanted o (yielded ops a.tmps) = true) {E : World} {H R : HP} {b : Nat} {f : Int → Int → Int} {s q : Int} {kl : Lit} {i : TypeInfo}
    (ht : P.underlying t = some (.map k e)) (K : KeyLaw P k) (hi : P.info? e = some i) (hz : i.zero = some (.int .i64 0)) (hm0 : look a m = some (.map (some b))) (hx0 : look a x = some (pairK s q)) (hkey : keyOf P k (pairK s q) = some kl)
    (hs : Sat E H w) (c : Cut H (mpI P k b f) R)
    (hk : wpList P ops Q rest (a.put o.dst (.int .i64 (f s q))) w) : wpList P ops Q (o :: rest) a w := by
  obtain ⟨g, hs', hg'⟩ := (hs.cut c).getMapI
  refine wpL_lookup k e t m x ho hg ht K hi hz hm0 hx0 hkey hs' (Cut.head _ _) ?_
  rw [hg' s q]; exact hk
end
end Go.Proofs.Ytoeaamohchpjdaa
