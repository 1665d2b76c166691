/-
  Slices of one's own, and what append does to them. It speaks of no program.
-/
import Derived.Test.YtoeaamohchpjdaaOps
import Derived.Great.BuildSlice
namespace Go.Proofs.Ytoeaamohchpjdaa
open Go Go.RowKit
set_option linter.unusedVariables false

/-- A slice of one's own: n elements of sz cells each, which hold xs. -/
def osl (T : TypeId) (sz : Nat) (v : Value) (n : Nat) (xs : List Value) : HP where
  f o _ := xs.length = n * sz ∧ ((v = .slice none 0 0 ∧ n = 0) ∨
    ∃ g off cap cur, v = .slice (some ⟨g, off, none⟩) n cap ∧ o g = some (.cells cur T (0, 0)) ∧ n ≤ cap ∧ cap ≤ maxLen ∧ off + cap * sz ≤ cur.size ∧ (cur.toList.drop off).take (n * sz) = xs)
  mono := fun ho _ ⟨h, h'⟩ => ⟨h, h'.imp id fun ⟨g, off, cap, cur, e, hg, r⟩ => ⟨g, off, cap, cur, e, ho _ _ hg, r⟩⟩
/-- A slice that nobody writes any more. -/
def fsl (T : TypeId) (sz : Nat) (v : Value) (n : Nat) (xs : List Value) : HP where
  f _ r := xs.length = n * sz ∧ ((v = .slice none 0 0 ∧ n = 0) ∨
    ∃ g off cap cur fr, v = .slice (some ⟨g, off, none⟩) n cap ∧ r g = some (.cells cur T fr) ∧ off + n * sz ≤ cur.size ∧ (cur.toList.drop off).take (n * sz) = xs)
  mono := fun _ hr ⟨h, h'⟩ => ⟨h, h'.imp id fun ⟨g, off, cap, cur, fr, e, hg, q⟩ => ⟨g, off, cap, cur, fr, e, hr _ _ hg, q⟩⟩
theorem Lasts.ofFsl (T : TypeId) (sz : Nat) (v : Value) (n : Nat) (xs : List Value) : Lasts (fsl T sz v n xs) := fun _ _ h => h

/-- What a value reads as, as a slice, in a world. -/
def Reads (w : World) (sz : Nat) (x : Value) (m : Nat) (news : List Value) : Prop :=
  news.length = m * sz ∧ ((x = .slice none 0 0 ∧ m = 0) ∨ ∃ a c, x = .slice (some a) m c ∧ ∀ (j : Nat) (u : Value), news[j]? = some u → w.cell? (a.add j) = some u)

theorem osl_nil (T : TypeId) (sz : Nat) : osl T sz (.slice none 0 0) 0 [] = emp :=
  HP.eq_of fun o r => ⟨fun _ => trivial, fun _ => ⟨by simp, .inl ⟨rfl, rfl⟩⟩⟩

theorem cells_read {w : World} {g off n : Nat} {cur : Array Value} {T : TypeId} {fr : Nat × Nat} {xs : List Value} (hg : w.heap[g]? = some (.cells cur T fr)) (ht : (cur.toList.drop off).take n = xs) :
    ∀ (j : Nat) (u : Value), xs[j]? = some u → w.cell? ((⟨g, off, none⟩ : Addr).add j) = some u := by
  intro j u hu
  rw [add_mk, cell_of_row w g (off + j) cur T fr hg]
  rw [← ht, List.getElem?_take] at hu
  split at hu
  · simpa using hu
  · cases hu

theorem Sat.reads {E : World} {R : HP} {w : World} {T : TypeId} {sz n : Nat} {v : Value} {xs : List Value} (h : Sat E (R * osl T sz v n xs) w) : Reads w sz v n xs := by
  obtain ⟨_, o, r, ho, _, _, c, d, _, _, hd, _, hl, q⟩ := h
  refine ⟨hl, q.imp id ?_⟩
  rintro ⟨g, off, cap, cur, e, hg, _, _, _, ht⟩
  exact ⟨_, _, e, cells_read (ho _ _ (hd _ _ hg)) ht⟩
theorem Sat.readsF {E : World} {R : HP} {w : World} {T : TypeId} {sz n : Nat} {v : Value} {xs : List Value} (h : Sat E (R * fsl T sz v n xs) w) : Reads w sz v n xs := by
  obtain ⟨_, o, r, _, hr, _, c, d, _, _, _, _, hl, q⟩ := h
  refine ⟨hl, q.imp id ?_⟩
  rintro ⟨g, off, cap, cur, fr, e, hg, _, ht⟩
  exact ⟨_, _, e, cells_read (hr _ _ hg) ht⟩

/-- A slice of one's own has its block: nil, or one. -/
theorem Sat.ofOsl {E : World} {R : HP} {w : World} {T : TypeId} {sz n : Nat} {v : Value} {xs : List Value} (h : Sat E (R * osl T sz v n xs) w) :
    xs.length = n * sz ∧ ((v = .slice none 0 0 ∧ n = 0 ∧ xs = [] ∧ Sat E R w) ∨
    ∃ g off cap cur, v = .slice (some ⟨g, off, none⟩) n cap ∧ Sat E (R * own g (.cells cur T (0, 0))) w ∧ n ≤ cap ∧ cap ≤ maxLen ∧ off + cap * sz ≤ cur.size ∧ (cur.toList.drop off).take (n * sz) = xs) := by
  have h0 := h
  obtain ⟨env, o, r, ho, hr, a, c, d, ap, hc, hd, p, hl, q⟩ := h
  refine ⟨hl, ?_⟩
  rcases q with ⟨rfl, rfl⟩ | ⟨g, off, cap, cur, e, hg, q⟩
  · exact .inl ⟨rfl, rfl, List.eq_nil_of_length_eq_zero (by simpa using hl), h0.drop⟩
  · exact .inr ⟨g, off, cap, cur, e, ⟨env, o, r, ho, hr, a, c, d, ap, hc, hd, p, hg⟩, q⟩
theorem Sat.mkOsl {E : World} {R : HP} {w : World} {T : TypeId} {sz n g off cap : Nat} {cur : Array Value} {xs : List Value} (h : Sat E (R * own g (.cells cur T (0, 0))) w)
    (hl : xs.length = n * sz) (h1 : n ≤ cap) (h2 : cap ≤ maxLen) (h3 : off + cap * sz ≤ cur.size) (h4 : (cur.toList.drop off).take (n * sz) = xs) :
    Sat E (R * osl T sz (.slice (some ⟨g, off, none⟩) n cap) n xs) w := by
  refine h.ent (Ent.right ?_ R)
  intro o r hg
  exact ⟨hl, .inr ⟨g, off, cap, cur, rfl, hg, h1, h2, h3, h4⟩⟩
theorem Sat.mkNil {E : World} {R : HP} {w : World} (T : TypeId) (sz : Nat) (h : Sat E R w) : Sat E (R * osl T sz (.slice none 0 0) 0 []) w := by
  rw [osl_nil]; exact h.mkEmp
/-- A slice of one's own is let go. -/
theorem Sat.oslFix {E : World} {R : HP} {w : World} {T : TypeId} {sz n : Nat} {v : Value} {xs : List Value} (h : Sat E (R * osl T sz v n xs) w) : Sat E (R * fsl T sz v n xs) w := by
  obtain ⟨hl, ⟨rfl, rfl, rfl, hs⟩ | ⟨g, off, cap, cur, rfl, hs, h1, h2, h3, h4⟩⟩ := h.ofOsl
  · have e : fsl T sz (.slice none 0 0) 0 [] = emp := HP.eq_of fun o r => ⟨fun _ => trivial, fun _ => ⟨by simp, .inl ⟨rfl, rfl⟩⟩⟩
    rw [e]; exact hs.mkEmp
  · refine hs.toFix.ent (Ent.right ?_ R)
    intro o r hg
    refine ⟨hl, .inr ⟨g, off, cap, cur, _, rfl, hg, ?_, h4⟩⟩
    have := Nat.mul_le_mul_right sz h1
    omega

/-- A cell in a part of memory. -/
def Hl.cell (r : Hl) (a : Addr) : Option Value := match r a.block with
  | some (.cells c _ _) => if a.spot.isSome then none else c[a.off]?
  | _ => none
theorem Hl.cell_le {r r' : Hl} (h : Hl.le r r') {a : Addr} {v : Value} (e : r.cell a = some v) : r'.cell a = some v := by
  unfold Hl.cell at e ⊢
  cases hb : r a.block with
  | none => rw [hb] at e; cases e
  | some x => rw [hb] at e; rw [h _ _ hb]; exact e
theorem Hl.cell_world {r : Hl} {w : World} (h : ∀ (k : Nat) (x : Obj), r k = some x → w.heap[k]? = some x) {a : Addr} {v : Value} (e : r.cell a = some v) : w.cell? a = some v := by
  unfold Hl.cell at e
  cases hb : r a.block with
  | none => rw [hb] at e; cases e
  | some x => rw [hb] at e; unfold World.cell?; rw [h _ _ hb]; exact e
theorem Hl.cell_of {r : Hl} {w : World} (h : ∀ (k : Nat) (x : Obj), w.heap[k]? = some x → r k = some x) {a : Addr} {v : Value} (e : w.cell? a = some v) : r.cell a = some v := by
  unfold World.cell? at e
  cases hb : w.heap[a.block]? with
  | none => rw [hb] at e; cases e
  | some x => rw [hb] at e; unfold Hl.cell; rw [h _ _ hb]; exact e

/-- A slice that reads so, in memory that nobody writes any more. -/
def rsl (sz : Nat) (v : Value) (n : Nat) (xs : List Value) : HP where
  f _ r := xs.length = n * sz ∧ ((v = .slice none 0 0 ∧ n = 0) ∨ ∃ a c, v = .slice (some a) n c ∧ ∀ (j : Nat) (u : Value), xs[j]? = some u → r.cell (a.add j) = some u)
  mono := fun _ hr ⟨h, h'⟩ => ⟨h, h'.imp id fun ⟨a, c, e, hc⟩ => ⟨a, c, e, fun j u hu => Hl.cell_le hr (hc j u hu)⟩⟩
theorem Lasts.ofRsl (sz : Nat) (v : Value) (n : Nat) (xs : List Value) : Lasts (rsl sz v n xs) := fun _ _ h => h
theorem Sat.readsS {E : World} {R : HP} {w : World} {sz n : Nat} {v : Value} {xs : List Value} (h : Sat E (R * rsl sz v n xs) w) : Reads w sz v n xs := by
  obtain ⟨_, o, r, _, hr, _, c, d, _, _, _, _, hl, q⟩ := h
  exact ⟨hl, q.imp id fun ⟨a, c, e, hc⟩ => ⟨a, c, e, fun j u hu => Hl.cell_world hr (hc j u hu)⟩⟩
theorem fsl_rsl (T : TypeId) (sz : Nat) (v : Value) (n : Nat) (xs : List Value) : Ent (fsl T sz v n xs) (rsl sz v n xs) := by
  rintro o r ⟨hl, h⟩
  refine ⟨hl, h.imp id ?_⟩
  rintro ⟨g, off, cap, cur, fr, rfl, hg, _, ht⟩
  refine ⟨_, _, rfl, fun j u hu => ?_⟩
  rw [add_mk]
  unfold Hl.cell
  simp only [hg]
  rw [← ht, List.getElem?_take] at hu
  split at hu
  · simpa using hu
  · cases hu
theorem Sat.oslRsl {E : World} {R : HP} {w : World} {T : TypeId} {sz n : Nat} {v : Value} {xs : List Value} (h : Sat E (R * osl T sz v n xs) w) : Sat E (R * rsl sz v n xs) w :=
  h.oslFix.ent (Ent.right (fsl_rsl _ _ _ _ _) R)

theorem flat_at {α β : Type} (f : α → List β) (s : Nat) (hf : ∀ x, (f x).length = s) : ∀ (l : List α) (k : Nat) (h : k < l.length) (j : Nat) (u : β), (f l[k])[j]? = some u → (l.flatMap f)[k * s + j]? = some u
  | [], k, h, _, _, _ => by simp at h
  | x :: r, 0, h, j, u, hu => by
    have hj : j < (f x).length := (List.getElem?_eq_some_iff.1 hu).1
    simp only [List.flatMap_cons, Nat.zero_mul, Nat.zero_add]
    rw [List.getElem?_append_left hj]
    exact hu
  | x :: r, k + 1, h, j, u, hu => by
    have ih := flat_at f s hf r k (by simpa using h) j u (by simpa using hu)
    simp only [List.flatMap_cons]
    rw [List.getElem?_append_right (by rw [hf, Nat.add_mul]; omega), hf]
    rw [show (k + 1) * s + j - s = k * s + j by rw [Nat.add_mul]; omega]
    exact ih
theorem flat_length {α β : Type} (f : α → List β) (s : Nat) (hf : ∀ x, (f x).length = s) : ∀ (l : List α), (l.flatMap f).length = l.length * s
  | [] => by simp
  | x :: r => by rw [List.flatMap_cons, List.length_append, hf, flat_length f s hf r, List.length_cons, Nat.add_mul]; omega

theorem splice_toList (C : Array Value) (off : Nat) (vs : List Value) : (splice C off vs).toList = C.toList.take off ++ vs ++ C.toList.drop (off + vs.length) := by simp [splice]
theorem size_splice (C : Array Value) (off : Nat) (vs : List Value) (h : off + vs.length ≤ C.size) : (splice C off vs).size = C.size := by
  simp [splice]; omega

theorem room_list (l xs news : List Value) (off k : Nat) (h : (l.drop off).take k = xs) (hk : xs.length = k) (hf : off + k + news.length ≤ l.length) :
    (((l.take (off + k) ++ news ++ l.drop (off + k + news.length))).drop off).take (k + news.length) = xs ++ news := by
  have e : l.take (off + k) = l.take off ++ xs := by rw [List.take_add, h]
  have hlo : (l.take off).length = off := by rw [List.length_take]; omega
  rw [e, List.append_assoc, List.append_assoc, List.drop_left' hlo, ← List.append_assoc]
  exact List.take_left' (by simp [hk])

section
variable {P : Program} {w : World}
theorem run_append_room' (t ty e : TypeId) (i : TypeInfo) (ht : P.underlying t = some (.slice e)) (hi : P.info? e = some i)
    (g off sLen sCap : Nat) (cur : Array Value) (hg : w.heap[g]? = some (.cells cur e (0, 0)))
    (x : Value) (m : Nat) (news : List Value) (hx : Reads w i.size x m news) (h1 : ∀ u ∈ news, u.oneCell' = true)
    (hroom : sLen + m ≤ sCap) (hfit : off + sLen * i.size + news.length ≤ cur.size) :
    (Builtin.append_ #[t, t] ty #[.slice (some ⟨g, off, none⟩) sLen sCap, x]).run P w =
      .ok (.slice (some ⟨g, off, none⟩) (sLen + m) sCap) (w.setRow g (splice cur (off + sLen * i.size) news)) := by
  have hst := run_storeCells_at P g (off + sLen * i.size) e news 0 cur w hg (by simpa using hfit) h1
  simp only [Nat.add_zero] at hst
  obtain ⟨hl, ⟨rfl, rfl⟩ | ⟨a, c, rfl, hn⟩⟩ := hx
  · obtain rfl : news = [] := List.eq_nil_of_length_eq_zero (by simpa using hl)
    have hroom' : sLen ≤ sCap := hroom
    simp [Builtin.append_, run_underlying ht, sizeOf, typeInfo, hi, Builtin.lenOf, hroom', Builtin.firstCells, add_mk, hst, splice]
  · have hf := run_firstCells_some (P := P) w i.size m a m c news hl hn
    simp [Builtin.append_, run_underlying ht, sizeOf, typeInfo, hi, Builtin.lenOf, hroom, hf, add_mk, hst, splice]

theorem append_osl (t ty e : TypeId) (i : TypeInfo) (z : Value) (ht : P.underlying t = some (.slice e)) (hi : P.info? e = some i) (hz : i.zero = some z) (hzs : z.cells.size = i.size) (hsz : 0 < i.size)
    {E : World} {R : HP} {s x : Value} {n m : Nat} {xs news : List Value} (h : Sat E (R * osl e i.size s n xs) w) (hx : Reads w i.size x m news) (h1 : ∀ u ∈ news, u.oneCell' = true)
    (h63 : n + m ≤ 70368744177664) (hbytes : (n + m) * i.bytes ≤ 140737488355328) :
    ∃ v' w', (Builtin.append_ #[t, t] ty #[s, x]).run P w = .ok v' w' ∧ Sat E (R * osl e i.size v' (n + m) (xs ++ news)) w' := by
  have hmax : n + m ≤ maxLen := by unfold maxLen; omega
  obtain ⟨hxl, hxo⟩ := hx
  obtain ⟨hl, ⟨rfl, rfl, rfl, hs⟩ | ⟨g, off, cap, cur, rfl, hs, k1, k2, k3, k4⟩⟩ := h.ofOsl
  · rcases hxo with ⟨rfl, rfl⟩ | ⟨a, c, rfl, hn⟩
    · obtain rfl : news = [] := List.eq_nil_of_length_eq_zero (by simpa using hxl)
      refine ⟨.slice none 0 0, w, ?_, by simpa using h⟩
      simp [Builtin.append_, run_underlying ht, sizeOf, typeInfo, hi, Builtin.lenOf, Builtin.firstCells]
    · by_cases hm : m = 0
      · subst hm
        obtain rfl : news = [] := List.eq_nil_of_length_eq_zero (by simpa using hxl)
        refine ⟨.slice none 0 0, w, ?_, by simpa using h⟩
        have hf := run_firstCells_some (P := P) w i.size 0 a 0 c [] (by simp) (by simp)
        simp [Builtin.append_, run_underlying ht, sizeOf, typeInfo, hi, Builtin.lenOf, hf]
      · simp only [Nat.zero_add] at h63 hbytes hmax
        have hr := run_append_nil (P := P) w t ty e i z ht hi hz a m c news hxl hn (by omega) (by omega) (by omega)
        refine ⟨_, _, hr, ?_⟩
        have hge := grownCap_ge w m 0 e
        have hcm := grownCap_le_maxLen w m 0 e hmax
        have ha := (hs.drew).alloc (.cells (news.toArray ++ Builtin.zeroCells z.cells (grownCap w m 0 e - m)) e)
        simp only [Nat.zero_add, List.nil_append]
        refine ha.mkOsl hxl hge hcm ?_ ?_
        · simp only [Array.size_append, List.size_toArray, size_zeroCells, hzs, hxl, Nat.zero_add]
          rw [← Nat.add_mul]
          exact Nat.mul_le_mul_right _ (by omega)
        · simp only [List.drop_zero, Array.toList_append]
          rw [← hxl]; exact List.take_left
  · by_cases hroom : n + m ≤ cap
    · have hfit : off + n * i.size + news.length ≤ cur.size := by
        have := Nat.mul_le_mul_right i.size hroom
        rw [Nat.add_mul] at this
        omega
      have hr := run_append_room' (P := P) (w := w) t ty e i ht hi g off n cap cur hs.getOwn x m news ⟨hxl, hxo⟩ h1 hroom hfit
      refine ⟨_, _, hr, ?_⟩
      refine (hs.setRow (C' := splice cur (off + n * i.size) news)).mkOsl ?_ hroom k2 ?_ ?_
      · rw [List.length_append, hl, hxl, Nat.add_mul]
      · rw [size_splice _ _ _ hfit]; exact k3
      · rw [splice_toList, Nat.add_mul, ← hxl]
        exact room_list cur.toList xs news off (n * i.size) k4 hl (by simpa using hfit)
    · rcases hxo with ⟨rfl, rfl⟩ | ⟨a, c, rfl, hn⟩
      · omega
      · have holds := cells_read hs.getOwn k4
        have hr := run_append_grow (P := P) w t ty e i z ht hi hz ⟨g, off, none⟩ n cap xs hl holds a m c news hxl hn (by omega) (by omega) (growslice_fits (by omega) hbytes)
        refine ⟨_, _, hr, ?_⟩
        have hge := grownCap_ge w (n + m) cap e
        have hcm := grownCap_le_maxLen w (n + m) cap e hmax
        have ha := (hs.drop.drew).alloc (.cells (xs.toArray ++ news.toArray ++ Builtin.zeroCells z.cells (grownCap w (n + m) cap e - (n + m))) e)
        refine ha.mkOsl (by rw [List.length_append, hl, hxl, Nat.add_mul]) hge hcm ?_ ?_
        · simp only [Array.size_append, List.size_toArray, size_zeroCells, hzs, hxl, hl, Nat.zero_add]
          rw [← Nat.add_mul, ← Nat.add_mul]
          exact Nat.mul_le_mul_right _ (by omega)
        · simp only [List.drop_zero, Array.toList_append]
          rw [show (n + m) * i.size = (xs ++ news).length by rw [List.length_append, hl, hxl, Nat.add_mul]]
          exact List.take_left
end

section
variable {P : Program} {ops : Array Oper} {rest : List Oper} {o : Oper} {a : Act} {w : World} {Q : Exit → Act → World → Prop}
theorem wpL_indexAddrR (sz : Nat) (t : TypeId) (x y : Operand) (ho : o.op = .indexAddr t x y) (hg : Region.wanted o (yielded ops a.tmps) = true) {v : Value} {k : IntKind} {i : Int}
    (hx0 : look a x = some v) (hy0 : look a y = some (.int k i)) {e : TypeId} (ht : P.underlying t = some (.slice e)) (hn : (P.info? e).isSome = true) (hsz : szOf P e = sz)
    {n : Nat} {xs : List Value} (hr : Reads w sz v n xs) (h0 : 0 ≤ i) (h1 : i < n)
    (hk : ∀ ad : Addr, (∀ (j : Nat) (u : Value), xs[i.toNat * sz + j]? = some u → w.cell? (ad.add j) = some u) → wpList P ops Q rest (a.put o.dst (.pointer (some ad))) w) : wpList P ops Q (o :: rest) a w := by
  have hx := look_eval hx0
  have hy := look_eval hy0
  obtain ⟨hl, ⟨rfl, rfl⟩ | ⟨ad, c, rfl, hc⟩⟩ := hr
  · omega
  · refine wpL_value hg ?_ (hk (ad.add (i.toNat * sz)) ?_)
    · unfold execOp
      have hs := run_szOf (P := P) hn w
      rw [hsz] at hs
      simp [ho, hx, hy, Instr.indexAt, asIntOf, run_underlying ht, h0, h1, hs]
    · intro j u hu
      have := hc _ _ hu
      rw [← this]
      congr 1
      unfold Addr.add
      by_cases h2 : i.toNat * sz = 0
      · simp [h2]
      · by_cases h3 : j = 0
        · simp [h3]
        · simp [h2, h3, Nat.add_assoc]

theorem wpL_lenR (t : TypeId) (x : Operand) (ho : o.op = .call { callee := .builtin .len, args := #[x], argTypes := #[t] }) (hg : Region.wanted o (yielded ops a.tmps) = true) {v : Value}
    (hx0 : look a x = some v) {e : TypeId} (ht : P.underlying t = some (.slice e)) {sz n : Nat} {xs : List Value} (hr : Reads w sz v n xs)
    (hk : wpList P ops Q rest (a.put o.dst (.int .i64 n)) w) : wpList P ops Q (o :: rest) a w := by
  have hx := look_eval hx0
  refine wpL_value hg ?_ hk
  unfold execOp
  obtain ⟨hl, ⟨rfl, rfl⟩ | ⟨ad, c, rfl, hc⟩⟩ := hr
  · simp [ho, resolve, invoke, builtin, hx, Builtin.len_, run_underlying ht, goInt]
  · simp [ho, resolve, invoke, builtin, hx, Builtin.len_, run_underlying ht, goInt]

theorem wpL_loadR (t : TypeId) (x : Operand) (ho : o.op = .load t x) (hg : Region.wanted o (yielded ops a.tmps) = true) {ad : Addr} {v : Value}
    (hx0 : look a x = some (.pointer (some ad))) (hi : (isAgg t).run P w = .ok false w) (hc : w.cell? (ad.add 0) = some v)
    (hk : wpList P ops Q rest (a.put o.dst v) w) : wpList P ops Q (o :: rest) a w := by
  have hx := look_eval hx0
  refine wpL_value hg ?_ hk
  unfold execOp
  have hc' : w.cell? ad = some v := by simpa [Addr.add] using hc
  simp [ho, hx, Instr.loadAt, Instr.sureAddr, loadVar, hi, hc']

theorem wpL_loadRA (sz : Nat) (t : TypeId) (x : Operand) (ho : o.op = .load t x) (hg : Region.wanted o (yielded ops a.tmps) = true) {ad : Addr} {vs : List Value}
    (hx0 : look a x = some (.pointer (some ad))) (hi : (isAgg t).run P w = .ok true w) (hn : (P.info? t).isSome = true) (hsz : szOf P t = vs.length) (hc : ∀ (j : Nat) (u : Value), vs[j]? = some u → w.cell? (ad.add j) = some u)
    (hk : wpList P ops Q rest (a.put o.dst (.agg vs.toArray)) w) : wpList P ops Q (o :: rest) a w := by
  have hx := look_eval hx0
  refine wpL_value hg ?_ hk
  unfold execOp
  have hs := run_szOf (P := P) hn w
  rw [hsz] at hs
  have hl := run_loadCells_list (P := P) w ad vs hc
  simp [ho, hx, Instr.loadAt, Instr.sureAddr, loadVar, hi, hs, hl]

/-- A type's zero value takes its room. -/
def zeroOk (P : Program) (e : TypeId) : Bool := match P.info? e with
  | some i => (match i.zero with | some z => z.cells.size == i.size && decide (0 < i.size) | none => false)
  | none => false
def byOf (P : Program) (t : TypeId) : Nat := match P.info? t with | some i => i.bytes | none => 0

theorem wpL_append (sz : Nat) (s x : Operand) (t : TypeId) (ho : o.op = .call { callee := .builtin .append, args := #[s, x], argTypes := #[t, t] }) (hg : Region.wanted o (yielded ops a.tmps) = true)
    {sv xv : Value} (hs0 : look a s = some sv) (hx0 : look a x = some xv)
    {e : TypeId} (ht : P.underlying t = some (.slice e)) (hz : zeroOk P e = true) (hsz : szOf P e = sz) (hby : byOf P e ≤ 4096)
    {E : World} {H R : HP} {n m : Nat} {xs news : List Value} (h : Sat E H w) (c : Cut H (osl e sz sv n xs) R) (hx : Reads w sz xv m news) (h1 : ∀ u ∈ news, u.oneCell' = true)
    (h63 : n + m ≤ 34359738368)
    (hk : ∀ v w', Sat E (R * osl e sz v (n + m) (xs ++ news)) w' → wpList P ops Q rest (a.put o.dst v) w') : wpList P ops Q (o :: rest) a w := by
  have hs := look_eval hs0
  have hx' := look_eval hx0
  unfold zeroOk at hz
  cases hi : P.info? e with
  | none => simp [hi] at hz
  | some i =>
    cases hzz : i.zero with
    | none => simp [hi, hzz] at hz
    | some z =>
      simp only [hi, hzz, Bool.and_eq_true, beq_iff_eq, decide_eq_true_eq] at hz
      simp only [szOf, hi] at hsz
      simp only [byOf, hi] at hby
      subst hsz
      obtain ⟨v', w', hr, hsat⟩ := append_osl (P := P) t o.type e i z ht hi hzz hz.1 hz.2 (h.cut c) hx h1 (by omega) (Nat.le_trans (Nat.mul_le_mul h63 hby) (by decide))
      refine wpL_value hg ?_ (hk v' w' hsat)
      unfold execOp
      simp only [ho, resolve, invoke, builtin, Sem.run_bind, Sem.run_pure, Result.andThen_ok, List.map_toArray, List.map_cons, List.map_nil, hs, hx', hr]

/-- A new slice of one-cell elements, full of zeros. -/
theorem wpL_make1 (n : Nat) (z : Value) (t : TypeId) (x y : Operand) (ho : o.op = .makeSlice t x y) (hg : Region.wanted o (yielded ops a.tmps) = true) {k k' : IntKind}
    (hx0 : look a x = some (.int k (n : Int))) (hy0 : look a y = some (.int k' (n : Int))) {e : TypeId} (ht : P.underlying t = some (.slice e)) (hz : (P.info? e).bind (·.zero) = some z) (hz1 : z.cells.toList = [z]) (hsz : szOf P e = 1) (hby : byOf P e ≤ 4096) (hn : n ≤ 4096)
    {E : World} {H : HP} (h : Sat E H w)
    (hk : ∀ b w', Sat E (H * own b (.cells (List.replicate n z).toArray e (0, 0))) w' → wpList P ops Q rest (a.put o.dst (.slice (some ⟨b, 0, none⟩) n n)) w') : wpList P ops Q (o :: rest) a w := by
  have hx := look_eval hx0
  have hy := look_eval hy0
  cases hi : P.info? e with
  | none => simp [hi] at hz
  | some i =>
    simp only [hi, Option.bind_some] at hz
    simp only [szOf, hi] at hsz
    simp only [byOf, hi] at hby
    have hb : (i.bytes : Int) * (n : Int) ≤ 281474976710656 := by
      have h1 : i.bytes * n ≤ 4096 * 4096 := Nat.mul_le_mul hby hn
      have : ((i.bytes * n : Nat) : Int) ≤ ((4096 * 4096 : Nat) : Int) := Int.ofNat_le.2 h1
      rw [Int.natCast_mul] at this
      omega
    have hr := run_make (P := P) w t e i z ht hi hz k k' n n (by omega) (by omega) hb (by omega)
    simp only [Int.toNat_natCast, hsz, Nat.mul_one] at hr
    have hc : z.cells = #[z] := by rw [← Array.toArray_toList (xs := z.cells), hz1]
    have hm : madeCells z.cells n = (List.replicate n z).toArray := by
      rw [hc]
      rw [← toList_madeCells_one z n, Array.toArray_toList]
    rw [hm] at hr
    refine wpL_value hg ?_ (hk w.heap.size _ (h.alloc _))
    unfold execOp
    simp only [ho, hx, hy, Sem.run_bind, hr, Result.andThen_ok]
    rfl

/-- What is appended lies in a slice of one's own, which is done with. -/
theorem wpL_appendT (sz : Nat) (s x : Operand) (t : TypeId) (ho : o.op = .call { callee := .builtin .append, args := #[s, x], argTypes := #[t, t] }) (hg : Region.wanted o (yielded ops a.tmps) = true)
    {sv xv : Value} (hs0 : look a s = some sv) (hx0 : look a x = some xv)
    {e : TypeId} (ht : P.underlying t = some (.slice e)) (hz : zeroOk P e = true) (hsz : szOf P e = sz) (hby : byOf P e ≤ 4096)
    {E : World} {H R R' : HP} {n m : Nat} {xs news : List Value} (h : Sat E H w) (c : Cut H (osl e sz xv m news) R) (c' : Cut R (osl e sz sv n xs) R') (h1 : ∀ u ∈ news, u.oneCell' = true)
    (h63 : n + m ≤ 34359738368)
    (hk : ∀ v w', Sat E (R' * osl e sz v (n + m) (xs ++ news)) w' → wpList P ops Q rest (a.put o.dst v) w') : wpList P ops Q (o :: rest) a w :=
  wpL_append sz s x t ho hg hs0 hx0 ht hz hsz hby (h.cut c).drop c' (h.cut c).reads h1 h63 hk

/-- The values of a literal's parts, which stand in their order. -/
def lookAll (a : Act) : List (Nat × Operand) → Nat → Option (List Value)
  | [], _ => some []
  | (i, x) :: r, k => if i = k then (match look a x, lookAll a r (k + 1) with | some v, some l => some (v :: l) | _, _ => none) else none
theorem lookAll_eval {a : Act} : ∀ (l : List (Nat × Operand)) (k : Nat) (vs : List Value), lookAll a l k = some vs → (l.map fun (x : Nat × Operand) => (x.1, a.eval x.2)) = (vs.zipIdx k).map fun x => (x.2, x.1)
  | [], k, vs, h => by simp [lookAll] at h; subst h; rfl
  | (i, x) :: r, k, vs, h => by
    unfold lookAll at h
    split at h
    · rename_i hik
      split at h
      · rename_i v l hv hl
        cases h
        have ih := lookAll_eval r (k + 1) l hl
        simp only [List.map_cons, List.zipIdx_cons, ih, look_eval hv, hik]
      · cases h
    · cases h

theorem wpL_buildSlice (sz : Nat) (t : TypeId) (len : Nat) (parts : Array (Nat × Operand)) (ho : o.op = .buildSlice t len parts) (hg : Region.wanted o (yielded ops a.tmps) = true)
    {vs : List Value} (hp : lookAll a parts.toList 0 = some vs) {e : TypeId} (ht : P.underlying t = some (.slice e)) (hz : zeroOk P e = true) (hsz : szOf P e = sz) (hlen : len = vs.length) (hsmall : len * sz ≤ 16777216)
    (hv : vs.all (fun v => v.cells.size == sz) = true) {E : World} {H : HP} (h : Sat E H w)
    (hk : ∀ b w', Sat E (H * osl e sz (.slice (some ⟨b, 0, none⟩) len len) len (vs.flatMap fun v => v.cells.toList)) w' → wpList P ops Q rest (a.put o.dst (.slice (some ⟨b, 0, none⟩) len len)) w') : wpList P ops Q (o :: rest) a w := by
  unfold zeroOk at hz
  cases hi : P.info? e with
  | none => simp [hi] at hz
  | some i =>
    cases hzz : i.zero with
    | none => simp [hi, hzz] at hz
    | some z =>
      simp only [hi, hzz, Bool.and_eq_true, beq_iff_eq, decide_eq_true_eq] at hz
      simp only [szOf, hi] at hsz
      subst hsz
      have hv' : ∀ v ∈ vs, v.cells.size = i.size := fun v hm => by
        rw [List.all_eq_true] at hv
        simpa using hv v hm
      have hparts : (parts.map fun (x : Nat × Operand) => (x.1, a.eval x.2)).toList = (vs.zipIdx 0).map fun x => (x.2, x.1) := by
        rw [Array.toList_map]; exact lookAll_eval _ _ _ hp
      have hfl : (vs.flatMap fun v => v.cells.toList).length = len * i.size := by
        rw [hlen]; clear hp hparts hlen hsmall hk hv
        induction vs with
        | nil => simp
        | cons v r ih =>
          rw [List.flatMap_cons, List.length_append, ih (fun u hu => hv' u (List.mem_cons_of_mem _ hu)), List.length_cons, Nat.add_mul]
          have := hv' v List.mem_cons_self
          simp only [Array.length_toList]; omega
      have hrun : (Instr.buildSlice t len (parts.map fun (x : Nat × Operand) => (x.1, a.eval x.2))).run P w = .ok (.slice (some ⟨w.heap.size, 0, none⟩) len len) (w.alloc (.cells (vs.flatMap fun v => v.cells.toList).toArray e)) := by
        have hs' : ¬ len * i.size > 2 ^ 24 := by omega
        by_cases h0 : len * i.size = 0
        · have hl0 : len = 0 := by
            rcases Nat.mul_eq_zero.1 h0 with h | h
            · exact h
            · omega
          have hvn : vs = [] := List.eq_nil_of_length_eq_zero (by omega)
          subst hvn
          have hpn : (parts.map fun (x : Nat × Operand) => (x.1, a.eval x.2)).toList = [] := by simpa using hparts
          simp only [Instr.buildSlice, Sem.run_bind, run_underlying ht, Result.andThen_ok, sizeOf, typeInfo, run_program, hi, Sem.run_pure, h0]
          rw [Array.toList_map] at hpn
          simp [hpn, Instr.fill, newRow, Array.range_zero']
        · refine run_buildSlice w t e len _ _ i z ht hi hzz hs' h0 ?_
          rw [hparts]
          exact Great.fill_whole hz.2 vs _ hv' (by simp [hlen])
      refine wpL_value (w' := w.alloc (.cells (vs.flatMap fun v => v.cells.toList).toArray e)) hg ?_ (hk w.heap.size _ ?_)
      · unfold execOp
        simp only [ho, Sem.run_bind]
        rw [show (parts.map fun (x : Nat × Operand) => match x with | (i, x) => (i, a.eval x)) = parts.map fun (x : Nat × Operand) => (x.1, a.eval x.2) from rfl, hrun]
        rfl
      · refine (h.alloc _).mkOsl hfl (Nat.le_refl _) ?_ ?_ ?_
        · unfold maxLen
          have : len * 1 ≤ len * i.size := Nat.mul_le_mul_left _ hz.2
          omega
        · simp [hfl]
        · simp only [List.drop_zero]
          rw [← hfl]; exact List.take_length
end
end Go.Proofs.Ytoeaamohchpjdaa
