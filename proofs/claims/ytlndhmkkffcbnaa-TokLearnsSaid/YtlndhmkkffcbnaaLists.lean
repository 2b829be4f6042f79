/-
  Slices that read as lists, and slices that the call made itself, with append onto them.
-/
import Derived.Test.YtlndhmkkffcbnaaKit
import Derived.Test.YtlndhmkkffcbnaaOpen
import Derived.Laws.OwnMore
import Derived.Maps.AppendAt
import Derived.Deep.AppendLies
import Derived.RegionTactic
import Derived.OwnWalk
namespace Go.Proofs.Ytlndhmkkffcbnaa.Kit
open Go.RowKit
set_option linter.unusedVariables false

/-- The block of a slice's address. -/
def ob (a : Option Addr) : Option Nat := a.map (·.block)
theorem ownBlock_ob (a : Option Addr) (n c : Nat) : (Value.slice a n c).ownBlock = ob a := by cases a <;> rfl

/-- The slice of address a, m elements of 'size' cells each, reads as the cells xs. -/
structure Rd (w : World) (size : Nat) (a : Option Addr) (m c : Nat) (xs : List Value) : Prop where
  len : xs.length = m * size
  cap : m ≤ c
  max : c ≤ maxLen
  nil : a = none → c = 0
  at_ : 0 < m → ∃ b off, a = some ⟨b, off, none⟩ ∧ ∀ (j : Nat) (u : Value), xs[j]? = some u → w.cell? ⟨b, off + j, none⟩ = some u

theorem Rd.none_ (w : World) (size : Nat) : Rd w size none 0 0 [] := ⟨by simp, Nat.le_refl _, Nat.zero_le _, fun _ => rfl, fun h => absurd h (by omega)⟩
theorem Rd.zero {w : World} {size : Nat} {a : Option Addr} {c : Nat} {xs : List Value} (h : Rd w size a 0 c xs) : xs = [] := List.eq_nil_of_length_eq_zero (by simpa using h.len)
theorem Rd.lt {w : World} {size : Nat} {a : Option Addr} {m c : Nat} {xs : List Value} (h : Rd w size a m c xs) (hs : 0 < size) (hm : 0 < m) : ∀ k, ob a = some k → k < w.heap.size := by
  intro k hk
  obtain ⟨b, off, rfl, hc⟩ := h.at_ hm
  have hl : 0 < xs.length := by rw [h.len]; exact Nat.mul_pos hm hs
  have := hc 0 _ (List.getElem?_eq_getElem hl)
  have h2 : b < w.heap.size := World.block_lt_of_cell? w _ this
  simp only [ob, Option.map_some, Option.some.injEq] at hk
  omega
theorem Rd.chg {S : Nat → Prop} {w w' : World} {size : Nat} {a : Option Addr} {m c : Nat} {xs : List Value} (h : Rd w size a m c xs) (hc : Chg S w w') (hs : 0 < m → ∀ k, ob a = some k → ¬ S k) : Rd w' size a m c xs := by
  refine ⟨h.len, h.cap, h.max, h.nil, fun hm => ?_⟩
  obtain ⟨b, off, rfl, hcell⟩ := h.at_ hm
  exact ⟨b, off, rfl, fun j u hu => hc.cell (hcell j u hu) (hs hm b rfl)⟩
theorem Rd.below {B : Nat} {w w' : World} {size : Nat} {a : Option Addr} {m c : Nat} {xs : List Value} (h : Rd w size a m c xs) (hb : Below B w w') (hB : 0 < m → ∀ k, ob a = some k → k < B) : Rd w' size a m c xs := by
  refine ⟨h.len, h.cap, h.max, h.nil, fun hm => ?_⟩
  obtain ⟨b, off, rfl, hcell⟩ := h.at_ hm
  exact ⟨b, off, rfl, fun j u hu => (hb.cell (p := ⟨b, off + j, none⟩) (hB hm b rfl)).trans (hcell j u hu)⟩
theorem Rd.drewN {w : World} {size : Nat} {a : Option Addr} {m c : Nat} {xs : List Value} (h : Rd w size a m c xs) (n : Nat) : Rd (w.drewN n) size a m c xs := ⟨h.len, h.cap, h.max, h.nil, h.at_⟩
theorem Rd.drew {w : World} {size : Nat} {a : Option Addr} {m c : Nat} {xs : List Value} (h : Rd w size a m c xs) : Rd w.drew size a m c xs := ⟨h.len, h.cap, h.max, h.nil, h.at_⟩
/-- s[:k]. -/
theorem Rd.take_ {w : World} {size : Nat} {a : Option Addr} {m c : Nat} {xs : List Value} (h : Rd w size a m c xs) (k : Nat) (hk : k ≤ m) : Rd w size a k c (xs.take (k * size)) := by
  refine ⟨by rw [List.length_take, h.len]; exact Nat.min_eq_left (Nat.mul_le_mul_right _ hk), by have := h.cap; omega, h.max, h.nil, fun hm => ?_⟩
  obtain ⟨b, off, rfl, hcell⟩ := h.at_ (by omega)
  refine ⟨b, off, rfl, fun j u hu => hcell j u ?_⟩
  rw [List.getElem?_take] at hu
  split at hu
  · exact hu
  · cases hu
/-- s[k:], at whatever capacity. -/
theorem Rd.drop_ {w : World} {size : Nat} {a : Option Addr} {m c : Nat} {xs : List Value} (h : Rd w size a m c xs) (k : Nat) (hk : k ≤ m) :
    Rd w size (if c = k then a else a.map (·.add (k * size))) (m - k) (c - k) (xs.drop (k * size)) := by
  refine ⟨by rw [List.length_drop, h.len, Nat.sub_mul], by have := h.cap; omega, by have := h.max; omega, fun hn => ?_, fun hm => ?_⟩
  · split at hn
    · omega
    · cases a with
      | none => have := h.nil rfl; omega
      | some ad => simp at hn
  · obtain ⟨b, off, rfl, hcell⟩ := h.at_ (by omega)
    rw [if_neg (by have := h.cap; omega)]
    refine ⟨b, off + k * size, ?_, fun j u hu => ?_⟩
    · simp [Go.WideShapes.add_plain]
    · rw [List.getElem?_drop] at hu
      have := hcell _ u hu
      rwa [← Nat.add_assoc] at this
theorem Rd.get {w : World} {a : Option Addr} {m c : Nat} {xs : List Value} (h : Rd w 1 a m c xs) {k : Nat} (hk : k < m) : ∃ b off u, a = some ⟨b, off, none⟩ ∧ xs[k]? = some u ∧ w.cell? ⟨b, off + k, none⟩ = some u := by
  obtain ⟨b, off, rfl, hcell⟩ := h.at_ (by omega)
  have hl : k < xs.length := by rw [h.len]; omega
  exact ⟨b, off, xs[k], rfl, List.getElem?_eq_getElem hl, hcell k _ (List.getElem?_eq_getElem hl)⟩

theorem flat_len (f : Nat → List Value) (s : Nat) : ∀ n, (∀ i, i < n → (f i).length = s) → (((List.range n).map f).flatten).length = n * s := by
  intro n
  induction n with
  | zero => simp
  | succ n ih =>
    intro hf
    rw [List.range_succ, List.map_append, List.flatten_append, List.length_append, ih (fun i hi => hf i (by omega))]
    simp [hf n (by omega), Nat.succ_mul]

/-- A slice that came in, out of its shape. -/
theorem rd_of {w : World} {e : Sh} {v : Value} (he : 0 < e.size) (h : Reads w (.slice e) [v]) :
    ∃ (rows : List (List Value)) (a : Option Addr) (c : Nat), v = .slice a rows.length c ∧ Rd w e.size a rows.length c rows.flatten ∧ ∀ row ∈ rows, row.length = e.size ∧ Reads w e row := by
  have key : ∀ n (f : Nat → List Value) (s : Nat), (∀ i, i < n → (f i).length = s) → ∀ (j : Nat) (u : Value), ((List.range n).map f).flatten[j]? = some u → ∃ i k, i < n ∧ k < s ∧ j = i * s + k ∧ (f i)[k]? = some u := by
    intro n
    induction n with
    | zero => intro f s hf j u hu; simp at hu
    | succ n ih =>
      intro f s hf j u hu
      rw [List.range_succ, List.map_append, List.flatten_append, List.getElem?_append] at hu
      have hlen : (((List.range n).map f).flatten).length = n * s := flat_len f s n (fun i hi => hf i (by omega))
      split at hu
      · obtain ⟨i, k, h1, h2, h3, h4⟩ := ih f s (fun i hi => hf i (by omega)) j u hu
        exact ⟨i, k, by omega, h2, h3, h4⟩
      · rename_i hge
        rw [hlen] at hu hge
        simp only [List.map_cons, List.map_nil, List.flatten_cons, List.flatten_nil, List.append_nil] at hu
        have hk : j - n * s < (f n).length := (List.getElem?_eq_some_iff.1 hu).1
        rw [hf n (by omega)] at hk
        exact ⟨n, j - n * s, by omega, hk, by omega, hu⟩
  rcases h with h | ⟨a, len, cap, hv, hl, hm, hx⟩
  · injection h with h _
    subst h
    exact ⟨[], none, 0, rfl, Rd.none_ _ _, by simp⟩
  · injection hv with hv _
    subst hv
    have hx' : ∀ i, ∃ es : List Value, i < len → (es.length = e.size ∧ (∀ (j : Nat) v, es[j]? = some v → w.cell? (a.add (i * e.size + j)) = some v) ∧ Reads w e es) := by
      intro i
      by_cases hi : i < len
      · obtain ⟨es, h⟩ := hx i hi
        exact ⟨es, fun _ => h⟩
      · exact ⟨[], fun h => absurd h hi⟩
    obtain ⟨f, hf⟩ := Classical.axiomOfChoice hx'
    refine ⟨(List.range len).map f, some a, cap, by simp, ⟨?_, by simpa using hl, hm, by simp, fun h0 => ?_⟩, fun row hr => ?_⟩
    · rw [flat_len f e.size len (fun i hi => (hf i hi).1)]
      simp
    · have h0' : 0 < len := by simpa using h0
      obtain ⟨l0, c0, _⟩ := hf 0 h0'
      obtain ⟨u, hu⟩ : ∃ u, (f 0)[0]? = some u := ⟨(f 0)[0]'(by omega), List.getElem?_eq_getElem (by omega)⟩
      have h1 := c0 0 u hu
      obtain ⟨b, off, spot⟩ := a
      have hsp : spot = none := by simpa [Addr.add] using World.cell?_spot h1
      subst hsp
      refine ⟨b, off, rfl, fun j u hu => ?_⟩
      obtain ⟨i, k, hi, hk, rfl, hfu⟩ := key len f e.size (fun i hi => (hf i hi).1) j u hu
      have := (hf i hi).2.1 k u hfu
      rwa [Go.WideShapes.add_plain] at this
    · simp only [List.mem_map, List.mem_range] at hr
      obtain ⟨i, hi, rfl⟩ := hr
      exact ⟨(hf i hi).1, (hf i hi).2.2⟩

theorem reads_int (w : World) (k : IntKind) (cs : List Value) : Reads w (.int k) cs = ∃ n, cs = [.int k n] ∧ (Lit.int k n).wf = true := rfl
theorem reads_bool (w : World) (cs : List Value) : Reads w .bool cs = ∃ b, cs = [.bool b] := rfl
theorem reads_struct (w : World) (fs : Sh) (cs : List Value) : Reads w (.struct fs) cs = (cs.length = fs.size ∧ Reads w fs cs) := rfl
theorem reads_none (w : World) (cs : List Value) : Reads w .none cs = True := rfl
theorem reads_cons (w : World) (f r : Sh) (cs : List Value) : Reads w (.cons f r) cs = (Reads w f (cs.take f.size) ∧ Reads w r (cs.drop f.size)) := rfl

/-! What the call made itself. -/
structure Own (w : World) (B : Nat) (e : TypeId) (size : Nat) (a : Option Addr) (n c : Nat) (xs : List Value) : Prop where
  row : w.ownsRow B e size (.slice a n c) n xs

section
variable {w w' : World} {B : Nat} {e : TypeId} {size : Nat} {a : Option Addr} {n c : Nat} {xs : List Value}
theorem Own.none_ (w : World) (B : Nat) (e : TypeId) (size : Nat) : Own w B e size none 0 0 [] := ⟨World.ownsRow_nil w B e size⟩
theorem Own.form (h : Own w B e size a n c xs) : xs.length = n * size ∧ ((a = none ∧ n = 0 ∧ c = 0) ∨ ∃ g cur, a = some ⟨g, 0, none⟩ ∧ B ≤ g ∧ w.heap[g]? = some (.cells cur e (0, 0)) ∧ n ≤ c ∧ c ≤ maxLen ∧ cur.size = c * size ∧ cur.toList.take (n * size) = xs) := by
  refine ⟨h.row.1, ?_⟩
  rcases h.row.2 with ⟨hv, hn⟩ | ⟨g, cap, cur, hv, h1, h2, h3, h4, h5, h6⟩
  · injection hv with h1 h2 h3
    exact .inl ⟨h1, hn, h3⟩
  · injection hv with hv1 hv2 hv3
    subst hv1 hv3
    exact .inr ⟨g, cur, rfl, h1, h2, h3, h4, h5, h6⟩
theorem Own.lt (h : Own w B e size a n c xs) : ∀ k, ob a = some k → B ≤ k ∧ k < w.heap.size := fun k hk => h.row.lt k (by rw [ownBlock_ob]; exact hk)
theorem Own.chg {S : Nat → Prop} (h : Own w B e size a n c xs) (hc : Chg S w w') (hs : ∀ k, ob a = some k → ¬ S k) : Own w' B e size a n c xs := by
  refine ⟨h.row.1, ?_⟩
  rcases h.row.2 with ⟨hv, hn⟩ | ⟨g, cap, cur, hv, h1, h2, h3⟩
  · exact .inl ⟨hv, hn⟩
  · have hlt : g < w.heap.size := (Array.getElem?_eq_some_iff.1 h2).1
    refine .inr ⟨g, cap, cur, hv, h1, (hc.block g hlt (hs g ?_)).trans h2, h3⟩
    injection hv with hv _ _
    rw [hv]
    rfl
theorem Own.drewN (h : Own w B e size a n c xs) (k : Nat) : Own (w.drewN k) B e size a n c xs := ⟨own_heap rfl h.row⟩
theorem Own.drew (h : Own w B e size a n c xs) : Own w.drew B e size a n c xs := ⟨own_heap rfl h.row⟩
theorem Own.lower {B' : Nat} (h : Own w B e size a n c xs) (hB : B' ≤ B) : Own w B' e size a n c xs := by
  refine ⟨h.row.1, ?_⟩
  rcases h.row.2 with ⟨hv, hn⟩ | ⟨g, cap, cur, hv, h1, h2, h3⟩
  · exact .inl ⟨hv, hn⟩
  · exact .inr ⟨g, cap, cur, hv, by omega, h2, h3⟩
theorem Own.ne (h : Own w B e size a n c xs) {g : Nat} {t : TypeId} {cs : Array Value} (hb : Blk w g t cs) (hne : e ≠ t) : ob a ≠ some g := by
  obtain ⟨_, ⟨rfl, _⟩ | ⟨g', cur, rfl, _, hh, _⟩⟩ := h.form
  · simp [ob]
  · intro he
    have : g' = g := by simpa [ob] using he
    subst this
    exact (show Blk w g' e cur from hh).ne hb hne rfl
theorem Own.rd (h : Own w B e size a n c xs) : Rd w size a n c xs := by
  obtain ⟨hl, ⟨rfl, rfl, rfl⟩ | ⟨g, cur, rfl, _, hh, h3, h4, h5, h6⟩⟩ := h.form
  · obtain rfl : xs = [] := List.eq_nil_of_length_eq_zero (by simpa using hl)
    exact Rd.none_ w size
  · refine ⟨hl, h3, h4, by simp, fun _ => ⟨g, 0, rfl, fun j u hu => ?_⟩⟩
    have := h.row.cells (g := g) rfl j u hu
    rw [Go.WideShapes.add_plain] at this
    exact this
/-- A block that was made whole. -/
theorem Own.made (w : World) (cs : Array Value) (e : TypeId) (n : Nat) (hB : B ≤ w.heap.size) (hn : n ≤ maxLen) (hs : cs.size = n * size) : Own (w.alloc (.cells cs e)) B e size (some ⟨w.heap.size, 0, none⟩) n n cs.toList := by
  refine ⟨by simpa using hs, .inr ⟨w.heap.size, n, cs, rfl, hB, heap_alloc_new w _, Nat.le_refl _, hn, hs, ?_⟩⟩
  rw [List.take_of_length_le (by simp [hs])]
end

/-- What a type of elements is like. -/
structure ElemT (P : Program) (t e : TypeId) (size bytes : Nat) : Prop where
  ht : P.underlying t = some (.slice e)
  info : ∃ i z, P.info? e = some i ∧ i.zero = some z ∧ i.size = size ∧ i.bytes = bytes ∧ z.cells.size = size

section
variable {P : Program} {t e : TypeId} {size bytes : Nat}
theorem run_app (T : ElemT P t e size bytes) (hsz : 0 < size) {w : World} {B : Nat} {a : Option Addr} {n c : Nat} {xs : List Value} (hown : Own w B e size a n c xs) {A : Option Addr} {m d : Nat} {news : List Value} (hr : Rd w size A m d news)
    (h1 : ∀ u ∈ news, u.oneCell' = true) (hn : n + m ≤ 17592186044416) (hbytes : (n + m) * bytes ≤ 140737488355328) (hB : B ≤ w.heap.size) (ty : TypeId) :
    ∃ a' c' w', (Builtin.append_ #[t, t] ty #[.slice a n c, .slice A m d]).run P w = .ok (.slice a' (n + m) c') w' ∧ Own w' B e size a' (n + m) c' (xs ++ news) ∧ w.grownBy w' (ob a) ∧ (ob a' = ob a ∨ ob a' = some w.heap.size) := by
  obtain ⟨i, z, hi, hz, hs1, hs2, hs3⟩ := T.info
  rcases A with _ | ad
  · have hd := hr.nil rfl
    have hm : m = 0 := by have := hr.cap; omega
    subst hm hd
    obtain rfl := hr.zero
    refine ⟨a, c, w, ?_, ⟨by simpa using hown.row⟩, World.grownBy.refl w _, .inl rfl⟩
    rcases hown.row.2 with ⟨hv, rfl⟩ | ⟨g, cap, cur, hv, _, _, hnc, _⟩
    · injection hv with h1 h2 h3
      subst h1 h3
      simp [Builtin.append_, run_underlying T.ht, sizeOf, typeInfo, hi, Builtin.lenOf, Builtin.firstCells]
    · injection hv with h1 h2 h3
      subst h1 h3
      simp [Builtin.append_, run_underlying T.ht, sizeOf, typeInfo, hi, Builtin.lenOf, Builtin.firstCells, hnc, storeCells]
  · have hcells : ∀ j u, news[j]? = some u → w.cell? (ad.add j) = some u := by
      intro j u hu
      rcases Nat.eq_zero_or_pos m with h0 | h0
      · subst h0
        obtain rfl := hr.zero
        simp at hu
      · obtain ⟨b, off, hA, hc⟩ := hr.at_ h0
        injection hA with hA
        subst hA
        rw [Go.WideShapes.add_plain]
        exact hc j u hu
    obtain ⟨v', w', hrun, h2, h3, _, h5⟩ := run_append_own_at (P := P) w B t ty e i z size bytes T.ht hi hz hs1 hs2 hs3 hsz (.slice a n c) n xs hown.row ad m d news hr.len hcells h1 (by unfold maxLen; omega) hbytes hB
    rw [ownBlock_ob] at h3 h5
    rcases h2.2 with ⟨rfl, h0⟩ | ⟨g, cap, cur, rfl, _⟩
    · exact ⟨none, 0, w', by rw [hrun, h0], ⟨by rw [h0] at h2 ⊢; exact h2⟩, h3, by simpa [Value.ownBlock, ob] using h5⟩
    · exact ⟨some ⟨g, 0, none⟩, cap, w', hrun, ⟨h2⟩, h3, by simpa [Value.ownBlock, ob] using h5⟩

theorem wp_app (T : ElemT P t e size bytes) (hsz : 0 < size) {w : World} {o : Oper} {ac : Act} {K : Act → World → Prop} {Q : Exit → Act → World → Prop} (s x : Operand)
    (ho : o.op = .call { callee := .builtin .append, args := #[s, x], argTypes := #[t, t] }) {B : Nat} {a : Option Addr} {n c : Nat} {xs : List Value} (hs : ac.eval s = .slice a n c) (hown : Own w B e size a n c xs)
    {A : Option Addr} {m d : Nat} {news : List Value} (hx : ac.eval x = .slice A m d) (hr : Rd w size A m d news)
    (h1 : ∀ u ∈ news, u.oneCell' = true) (hn : n + m ≤ 17592186044416) (hbytes : (n + m) * bytes ≤ 140737488355328) (hB : B ≤ w.heap.size)
    (h : ∀ a' c' w', Own w' B e size a' (n + m) c' (xs ++ news) → w.grownBy w' (ob a) → (ob a' = ob a ∨ ob a' = some w.heap.size) → K (ac.put o.dst (.slice a' (n + m) c')) w') : o.wp P ac w K Q := by
  obtain ⟨a', c', w', hrun, h2, h3, h4⟩ := run_app T hsz hown hr h1 hn hbytes hB o.type
  unfold Oper.wp execOp
  simp only [ho, resolve, invoke, builtin, Sem.run_bind, Sem.run_pure, Result.andThen_ok, List.map_toArray, List.map_cons, List.map_nil, hs, hx, hrun]
  exact h a' c' w' h2 h3 h4

theorem wpList_app (T : ElemT P t e size bytes) (hsz : 0 < size) {w : World} {ops : Array Oper} {rest : List Oper} {o : Oper} {ac : Act} {Q : Exit → Act → World → Prop} (hgd : o.guard = none) (s x : Operand)
    (ho : o.op = .call { callee := .builtin .append, args := #[s, x], argTypes := #[t, t] }) {B : Nat} {a : Option Addr} {n c : Nat} {xs : List Value} (hs : ac.eval s = .slice a n c) (hown : Own w B e size a n c xs)
    {A : Option Addr} {m d : Nat} {news : List Value} (hx : ac.eval x = .slice A m d) (hr : Rd w size A m d news)
    (h1 : ∀ u ∈ news, u.oneCell' = true) (hn : n + m ≤ 17592186044416) (hbytes : (n + m) * bytes ≤ 140737488355328) (hB : B ≤ w.heap.size)
    (h : ∀ a' c' w', Own w' B e size a' (n + m) c' (xs ++ news) → w.grownBy w' (ob a) → (ob a' = ob a ∨ ob a' = some w.heap.size) → wpList P ops Q rest (ac.put o.dst (.slice a' (n + m) c')) w') : wpList P ops Q (o :: rest) ac w :=
  wpList_plain hgd fun _ hK => wp_app T hsz s x ho hs hown hx hr h1 hn hbytes hB fun a' c' w' h2 h3 h4 => hK _ _ (h a' c' w' h2 h3 h4)

theorem step_app (T : ElemT P t e size bytes) (hsz : 0 < size) {w : World} {ops : Array Oper} {o : Oper} {ac : Act} {K : Act → World → Prop} {Q : Exit → Act → World → Prop} {E : Prop} (hgd : o.guard = none) (s x : Operand)
    (ho : o.op = .call { callee := .builtin .append, args := #[s, x], argTypes := #[t, t] }) {B : Nat} {a : Option Addr} {n c : Nat} {xs : List Value} (hs : ac.eval s = .slice a n c) (hown : Own w B e size a n c xs)
    {A : Option Addr} {m d : Nat} {news : List Value} (hx : ac.eval x = .slice A m d) (hr : Rd w size A m d news)
    (h1 : ∀ u ∈ news, u.oneCell' = true) (hn : n + m ≤ 17592186044416) (hbytes : (n + m) * bytes ≤ 140737488355328) (hB : B ≤ w.heap.size)
    (h : ∀ a' c' w', Own w' B e size a' (n + m) c' (xs ++ news) → w.grownBy w' (ob a) → (ob a' = ob a ∨ ob a' = some w.heap.size) → K (ac.put o.dst (.slice a' (n + m) c')) w') :
    if Region.wanted o (yielded ops ac.tmps) = true then Oper.wp P o ac w K Q else E := by
  have hw : Region.wanted o (yielded ops ac.tmps) = true := by simp [Region.wanted, hgd]
  rw [if_pos hw]
  exact wp_app T hsz s x ho hs hown hx hr h1 hn hbytes hB h
end
theorem below_drew {B : Nat} {a w : World} (h : Below B a w) : Below B a w.drew := ⟨h.os, h.tape, h.output, h.size, h.block⟩
theorem Chg.of_grown' {a b : World} {q : Option Nat} (h : a.grownBy b q) : Chg (fun k => q = some k) a b := Chg.of_grown h (fun k hk => .inl hk)
theorem oneCell_ints {l : List Int} {k : IntKind} : ∀ u ∈ l.map (Value.int k), u.oneCell' = true := by
  intro u hu
  simp only [List.mem_map] at hu
  obtain ⟨x, _, rfl⟩ := hu
  rfl
/-- A list of whole numbers as cells. -/
def ints (l : List Int) : List Value := l.map (Value.int .i64)
theorem ints_len (l : List Int) : (ints l).length = l.length := by simp [ints]
theorem ints_append (l m : List Int) : ints l ++ ints m = ints (l ++ m) := by simp [ints]
theorem ints_get {l : List Int} {k : Nat} {u : Value} (h : (ints l)[k]? = some u) : ∃ n, l[k]? = some n ∧ u = .int .i64 n := by
  unfold ints at h
  rw [List.getElem?_map] at h
  cases hl : l[k]? with
  | none => rw [hl] at h; simp at h
  | some n => rw [hl] at h; simp at h; exact ⟨n, rfl, h.symm⟩
/-- A slice of whole numbers that came in. -/
theorem rd_ints {w : World} {v : Value} (h : Reads w (.slice (.int .i64)) [v]) : ∃ (l : List Int) (a : Option Addr) (c : Nat), v = .slice a l.length c ∧ Rd w 1 a l.length c (ints l) ∧ ∀ n ∈ l, (Lit.int .i64 n).wf = true := by
  obtain ⟨rows, a, c, rfl, hr, hrows⟩ := rd_of (by simp [Sh.size]) h
  have key : ∀ rows : List (List Value), (∀ row ∈ rows, row.length = (Sh.int .i64).size ∧ Reads w (.int .i64) row) → ∃ l : List Int, l.length = rows.length ∧ rows.flatten = ints l ∧ ∀ n ∈ l, (Lit.int .i64 n).wf = true := by
    intro rows
    induction rows with
    | nil => exact fun _ => ⟨[], rfl, rfl, by simp⟩
    | cons row rest ih =>
      intro hx
      obtain ⟨l, h1, h2, h3⟩ := ih (fun r hr => hx r (List.mem_cons_of_mem _ hr))
      obtain ⟨_, n, hn, hw⟩ := hx row (List.mem_cons_self ..)
      subst hn
      refine ⟨n :: l, by simp [h1], by simp [h2, ints], fun m hm => ?_⟩
      rcases List.mem_cons.1 hm with rfl | hm
      · exact hw
      · exact h3 m hm
  obtain ⟨l, h1, h2, h3⟩ := key rows hrows
  exact ⟨l, a, c, by rw [h1], by rw [h1, ← h2]; exact hr, h3⟩
theorem ints_one (l : List Int) : ∀ u ∈ ints l, u.oneCell' = true := oneCell_ints
end Go.Proofs.Ytlndhmkkffcbnaa.Kit
