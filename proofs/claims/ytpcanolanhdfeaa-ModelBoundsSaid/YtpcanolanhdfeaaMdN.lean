/-
  Walks over the model: New.
-/
import Derived.Test.YtpcanolanhdfeaaMdM
namespace Go.Proofs.Ytpcanolanhdfeaa.MdN
open Go.RowKit Go.Proofs.Ytpcanolanhdfeaa.Kit Go.Proofs.Ytpcanolanhdfeaa.Math Go.Proofs.Ytpcanolanhdfeaa.MdR Go.Proofs.Ytpcanolanhdfeaa.MdW Go.Proofs.Ytpcanolanhdfeaa.MdT Go.Proofs.Ytpcanolanhdfeaa.MdM
attribute [local go_sem high] max_imax min_imin
attribute [local go_sem ↓] Go.wp_at_zero Go.wp_at_succ
set_option linter.unusedVariables false

/-! What a model has. -/
/-- The number of table i's rows. -/
def trows (c : Cfg) (vocab dim i : Nat) : Nat := if i = 0 then vocab else if i = 1 then 256 else dim
/-- Table i's row r. -/
def frow (c : Cfg) (dim i r : Nat) : List Int := if i = 1 then (wrow (tseed c 1) dim r).map qtr else wrow (tseed c i) dim r
/-- A table in memory: where its rows' slices lie, and how many. -/
def TabAt (w : World) (B dim : Nat) (p : Nat × Nat) (f : Nat → List Int) : Prop := ∃ L, L.length = p.2 ∧ Own w B 32 1 (some ⟨p.1, 0, none⟩) p.2 p.2 (sl dim L) ∧ Tb w B dim L f
def tsl (T : List (Nat × Nat)) : List Value := T.map fun p => .slice (some ⟨p.1, 0, none⟩) p.2 p.2
def Tabs (w : World) (B dim : Nat) (T : List (Nat × Nat)) (f : Nat → Nat → List Int) : Prop := ∀ (i : Nat) p, T[i]? = some p → TabAt w B dim p (f i)

theorem tsl_len (T : List (Nat × Nat)) : (tsl T).length = T.length := by simp [tsl]
theorem tsl_one (T : List (Nat × Nat)) : ∀ u ∈ tsl T, u.oneCell' = true := by
  intro u hu
  simp only [tsl, List.mem_map] at hu
  obtain ⟨x, _, rfl⟩ := hu
  rfl
theorem tsl_append (T M : List (Nat × Nat)) : tsl (T ++ M) = tsl T ++ tsl M := by simp [tsl]
/-- Blocks of two types are two. -/
theorem own_ne {w : World} {B B' : Nat} {e e' : TypeId} {s s' : Nat} {a a' : Option Addr} {n c n' c' : Nat} {xs xs' : List Value} (h : Own w B e s a n c xs) (h' : Own w B' e' s' a' n' c' xs') (hne : e ≠ e') : ∀ x, ob a = some x → ob a' ≠ some x := by
  intro x hx hx'
  obtain ⟨_, ⟨rfl, _⟩ | ⟨g, cur, rfl, _, hh, _⟩⟩ := h.form
  · cases hx
  · obtain ⟨_, ⟨rfl, _⟩ | ⟨g', cur', rfl, _, hh', _⟩⟩ := h'.form
    · cases hx'
    · have e1 : g = x := by simpa [ob] using hx
      have e2 : g' = x := by simpa [ob] using hx'
      subst e1
      subst e2
      exact (show Blk w g' e cur from hh).ne hh' hne rfl
/-- Blocks of two further types may turn. -/
theorem TabAt.chg {S : Nat → Prop} {w w' : World} {B dim : Nat} {p : Nat × Nat} {f : Nat → List Int} (h : TabAt w B dim p f) (hc : Chg S w w') (hs : ∀ x t cs, S x → B ≤ x → Blk w x t cs → t ≠ 32 ∧ t ≠ 2) : TabAt w' B dim p f := by
  obtain ⟨L, h1, h2, h3⟩ := h
  refine ⟨L, h1, h2.chg hc (fun x hx hS => ?_), fun i q hq => (h3 i q hq).chg hc (fun x hx hS => ?_)⟩
  · obtain ⟨_, ⟨h, _⟩ | ⟨g, cur, hg, hB, hh, _⟩⟩ := h2.form
    · cases h
    · have e : g = x := by rw [hg] at hx; simpa [ob] using hx
      subst e
      exact (hs g 32 cur hS hB hh).1 rfl
  · obtain ⟨_, ⟨h, _⟩ | ⟨g, cur, hg, hB, hh, _⟩⟩ := (h3 i q hq).form
    · rw [h] at hx; cases hx
    · have e : g = x := by rw [hg] at hx; simpa [ob] using hx
      subst e
      exact (hs g 2 cur hS hB hh).2 rfl
theorem TabAt.below {w w' : World} {B dim : Nat} {p : Nat × Nat} {f : Nat → List Int} (h : TabAt w B dim p f) (hb : Below w.heap.size w w') : TabAt w' B dim p f :=
  h.chg (S := fun _ => False) ⟨hb.os, hb.tape, hb.output, hb.size, fun i hi _ => hb.block i hi⟩ (fun _ _ _ h => h.elim)
theorem TabAt.alloc {w : World} {B dim : Nat} {p : Nat × Nat} {f : Nat → List Int} (h : TabAt w B dim p f) (o : Obj) : TabAt (w.alloc o) B dim p f := h.chg ((Chg.refl (fun _ => False) w).alloc o) (fun _ _ _ h => h.elim)
theorem TabAt.lower {w : World} {B B' dim : Nat} {p : Nat × Nat} {f : Nat → List Int} (h : TabAt w B dim p f) (hB : B' ≤ B) : TabAt w B' dim p f := by
  obtain ⟨L, h1, h2, h3⟩ := h
  exact ⟨L, h1, h2.lower hB, h3.lower hB⟩
theorem Tabs.chg {S : Nat → Prop} {w w' : World} {B dim : Nat} {T : List (Nat × Nat)} {f : Nat → Nat → List Int} (h : Tabs w B dim T f) (hc : Chg S w w') (hs : ∀ x t cs, S x → B ≤ x → Blk w x t cs → t ≠ 32 ∧ t ≠ 2) : Tabs w' B dim T f :=
  fun i p hp => (h i p hp).chg hc hs
theorem Tabs.below {w w' : World} {B dim : Nat} {T : List (Nat × Nat)} {f : Nat → Nat → List Int} (h : Tabs w B dim T f) (hb : Below w.heap.size w w') : Tabs w' B dim T f :=
  fun i p hp => (h i p hp).below hb
theorem Tabs.snoc {w : World} {B dim : Nat} {T : List (Nat × Nat)} {f : Nat → Nat → List Int} (h : Tabs w B dim T f) {p : Nat × Nat} (hp : TabAt w B dim p (f T.length)) : Tabs w B dim (T ++ [p]) f := by
  intro i q hq
  rw [List.getElem?_append] at hq
  split at hq
  · exact h i q hq
  · rename_i hi
    rcases Nat.eq_zero_or_pos (i - T.length) with h0 | h0
    · rw [h0] at hq
      simp at hq
      subst hq
      rw [show i = T.length by omega]
      exact hp
    · rw [List.getElem?_eq_none (by simp; omega)] at hq
      cases hq

/-- A configuration that may be, in natural numbers. -/
structure Nats (c : Cfg) (vocab dim layers : Nat) : Prop where
  ev : c.vocab = vocab
  ed : c.dim = dim
  el : c.layers = layers
  v0 : 2 ≤ vocab
  v1 : vocab ≤ 64
  d0 : 1 ≤ dim
  d1 : dim ≤ 16
  l0 : 1 ≤ layers
  l1 : layers ≤ 4
theorem nats_of {c : Cfg} (h : mayB c = true) : ∃ vocab dim layers, Nats c vocab dim layers := by
  simp only [mayB, inB, Bool.and_eq_true, decide_eq_true_eq] at h
  exact ⟨c.vocab.toNat, c.dim.toNat, c.layers.toNat, by omega, by omega, by omega, by omega, by omega, by omega, by omega, by omega, by omega⟩

/-- A model that New made, in memory. -/
structure Mo (w : World) (B g : Nat) (c : Cfg) (vocab dim m : Nat) (a : Option Addr) (n k : Nat) (T : List (Nat × Nat)) : Prop where
  blk : Blk w g 45 (mm c a n k)
  own : Own w B 35 1 a n k (tsl T)
  tabs : Tabs w B dim T (frow c dim)
  rows : ∀ (i : Nat) p, T[i]? = some p → p.2 = trows c vocab dim i
  len : T.length = m
  base : B ≤ g
theorem Mo.below {w w' : World} {B g : Nat} {c : Cfg} {vocab dim m : Nat} {a : Option Addr} {n k : Nat} {T : List (Nat × Nat)} (h : Mo w B g c vocab dim m a n k T) (hb : Below w.heap.size w w') : Mo w' B g c vocab dim m a n k T :=
  ⟨(hb.block _ h.blk.lt).trans h.blk, h.own.chg (S := fun _ => False) ⟨hb.os, hb.tape, hb.output, hb.size, fun i hi _ => hb.block i hi⟩ (fun _ _ => id), h.tabs.below hb, h.rows, h.len, h.base⟩

theorem Mo.chg0 {w w' : World} {B g : Nat} {c : Cfg} {vocab dim m : Nat} {a : Option Addr} {n k : Nat} {T : List (Nat × Nat)} (h : Mo w B g c vocab dim m a n k T) (hc : Chg (fun _ => False) w w') : Mo w' B g c vocab dim m a n k T :=
  h.below hc.none
theorem Mo.n {w : World} {B g : Nat} {c : Cfg} {vocab dim m : Nat} {a : Option Addr} {n k : Nat} {T : List (Nat × Nat)} (h : Mo w B g c vocab dim m a n k T) : n = m := by
  have := h.own.form.1
  rw [tsl_len, h.len] at this
  omega
theorem Mo.ne {w : World} {B g : Nat} {c : Cfg} {vocab dim m : Nat} {a : Option Addr} {n k : Nat} {T : List (Nat × Nat)} (h : Mo w B g c vocab dim m a n k T) : ob a ≠ some g := h.own.ne h.blk (by decide)
/-- More tables are put behind. -/
theorem mo_push {wr Z w10 : World} {B g : Nat} {c : Cfg} {vocab dim m : Nat} {a : Option Addr} {n k : Nat} {T N : List (Nat × Nat)} (h : Mo wr B g c vocab dim m a n k T) (hz : Chg (fun _ => False) wr Z)
    (hN : ∀ (i : Nat) p, N[i]? = some p → TabAt Z B dim p (frow c dim (m + i)) ∧ p.2 = trows c vocab dim (m + i)) (hg : Z.grownBy w10 (ob a)) {a10 : Option Addr} {c10 n10 : Nat} (hn10 : n10 = n + N.length) (ho : Own w10 B 35 1 a10 n10 c10 (tsl T ++ tsl N)) :
    Mo (w10.setCell ⟨g, 6, none⟩ (.slice a10 n10 c10)) B g c vocab dim (m + N.length) a10 n10 c10 (T ++ N) ∧ Chg (fun x => ob a = some x ∨ x = g) wr (w10.setCell ⟨g, 6, none⟩ (.slice a10 n10 c10)) := by
  have hZ := h.chg0 hz
  have c1 : Chg (fun x => ob a = some x) Z w10 := Chg.of_grown' hg
  have b10 := c1.blk hZ.blk hZ.ne
  have hset : Chg (fun x => x = g) w10 (w10.setCell ⟨g, 6, none⟩ (.slice a10 n10 c10)) := (Chg.refl (fun x => x = g) w10).set (p := ⟨g, 6, none⟩) (.inl rfl) _
  have hne := ho.ne b10 (by decide)
  have htt : ∀ x t cs, ob a = some x → B ≤ x → Blk Z x t cs → t ≠ 32 ∧ t ≠ 2 := fun x t cs hx hB hb => by
    refine ⟨fun e => ?_, fun e => ?_⟩ <;> subst e
    · exact hZ.own.ne hb (by decide) hx
    · exact hZ.own.ne hb (by decide) hx
  have htg : ∀ x t cs, x = g → B ≤ x → Blk w10 x t cs → t ≠ 32 ∧ t ≠ 2 := fun x t cs hx hB hb => by
    subst hx
    refine ⟨fun e => ?_, fun e => ?_⟩ <;> subst e
    · exact b10.ne hb (by decide) rfl
    · exact b10.ne hb (by decide) rfl
  refine ⟨⟨?_, ?_, ?_, ?_, by simp [h.len], h.base⟩, ?_⟩
  · exact b10.set 6 _
  · rw [tsl_append]
    exact ho.chg hset (fun x hx e => hne (by rw [hx, e]))
  · intro i p hp
    refine TabAt.chg (TabAt.chg ?_ c1 htt) hset htg
    rw [List.getElem?_append] at hp
    split at hp
    · exact hZ.tabs i p hp
    · have := (hN _ p hp).1
      rename_i hi
      rw [h.len] at hi this
      rw [show m + (i - m) = i by omega] at this
      exact this
  · intro i p hp
    rw [List.getElem?_append] at hp
    split at hp
    · exact h.rows i p hp
    · have := (hN _ p hp).2
      rename_i hi
      rw [h.len] at hi this
      rw [show m + (i - m) = i by omega] at this
      exact this
  · exact ((hz.mono (T := fun x => ob a = some x ∨ x = g) (fun _ _ h => h.elim)).then c1 (fun i _ h => .inl h)).then hset (fun i _ h => .inr h)

/-! Part of a table is scaled. -/
def cutn (dim k j i : Nat) : Nat := if i < k then dim else if i = k then j else 0
def cutf (s : BitVec 64) (dim k j i : Nat) : List Int := ((wrow s dim i).take (cutn dim k j i)).map qtr ++ (wrow s dim i).drop (cutn dim k j i)
theorem cut_get {l : List Int} {j : Nat} {x : Int} {f : Int → Int} (h : l[j]? = some x) : ((l.take j).map f ++ l.drop j)[j]? = some x := by
  have hj : j < l.length := (List.getElem?_eq_some_iff.1 h).1
  rw [List.getElem?_append_right (by simp; omega)]
  simp [Nat.min_eq_left (Nat.le_of_lt hj), h]
theorem cut_set {l : List Int} {j : Nat} {x : Int} {f : Int → Int} (h : l[j]? = some x) : ((l.take j).map f ++ l.drop j).set j (f x) = (l.take (j + 1)).map f ++ l.drop (j + 1) := by
  obtain ⟨hj, hx⟩ := List.getElem?_eq_some_iff.1 h
  have hd : l.drop j = x :: l.drop (j + 1) := by rw [← hx]; exact List.drop_eq_getElem_cons hj
  rw [hd, List.set_append_right _ _ (by simp; omega)]
  have : j - ((l.take j).map f).length = 0 := by simp; omega
  rw [this, List.set_cons_zero, List.take_succ_eq_append_getElem hj, hx]
  simp
theorem wrow_get (s : BitVec 64) {dim k j : Nat} (h : j < dim) : (wrow s dim k)[j]? = some (Wt s k j) := by
  simp [wrow, h]
theorem cutf_zero (s : BitVec 64) (dim i : Nat) : cutf s dim 0 0 i = wrow s dim i := by
  have : cutn dim 0 0 i = 0 := by unfold cutn; split <;> (try split) <;> omega
  simp [cutf, this]
theorem cutf_next (s : BitVec 64) (dim k i : Nat) : cutf s dim k dim i = cutf s dim (k + 1) 0 i := by
  have : cutn dim k dim i = cutn dim (k + 1) 0 i := by unfold cutn; split <;> (try split) <;> (try split) <;> (try split) <;> omega
  simp [cutf, this]
theorem cutf_all (s : BitVec 64) {dim k i : Nat} (h : i < k) : cutf s dim k 0 i = (wrow s dim i).map qtr := by
  have : cutn dim k 0 i = dim := by unfold cutn; rw [if_pos h]
  simp [cutf, this, List.take_of_length_le, List.drop_of_length_le, wrow_len]
theorem cutf_len (s : BitVec 64) {dim k j i : Nat} (hj : j ≤ dim) : (cutf s dim k j i).length = dim := by
  have : cutn dim k j i ≤ dim := by unfold cutn; split <;> (try split) <;> omega
  simp [cutf, wrow_len]
  omega
theorem cutf_at (s : BitVec 64) {dim k j : Nat} (h : j < dim) : (cutf s dim k j k)[j]? = some (Wt s k j) := by
  have : cutn dim k j k = j := by unfold cutn; simp
  rw [cutf, this]
  exact cut_get (wrow_get s h)
theorem cutf_set (s : BitVec 64) {dim k j : Nat} (h : j < dim) : (cutf s dim k j k).set j (qtr (Wt s k j)) = cutf s dim k (j + 1) k := by
  have h1 : cutn dim k j k = j := by unfold cutn; simp
  have h2 : cutn dim k (j + 1) k = j + 1 := by unfold cutn; simp
  rw [cutf, cutf, h1, h2]
  exact cut_set (wrow_get s h)
theorem cutf_else (s : BitVec 64) {dim k j i : Nat} (h : i ≠ k) : cutf s dim k j i = cutf s dim k (j + 1) i := by
  have : cutn dim k j i = cutn dim k (j + 1) i := by unfold cutn; split <;> (try split) <;> (try split) <;> (try split) <;> omega
  simp [cutf, this]
theorem ints_set (l : List Int) (j : Nat) (x : Int) : (ints l).set j (.int .i64 x) = ints (l.set j x) := by simp [ints]
theorem own_set {w : World} {B : Nat} {e : TypeId} {g n c : Nat} {xs : List Value} (h : Own w B e 1 (some ⟨g, 0, none⟩) n c xs) (j : Nat) (u : Value) : Own (w.setCell ⟨g, j, none⟩ u) B e 1 (some ⟨g, 0, none⟩) n c (xs.set j u) :=
  ⟨(h.row.stored j u).1⟩
/-- One number scaled. -/
theorem scale_step {w : World} {B dim k j gr cr : Nat} {L : List (Option Addr × Nat)} {s : BitVec 64} (h : Tb w B dim L (cutf s dim k j)) (ha : Apart L) (hL : L[k]? = some (some ⟨gr, 0, none⟩, cr)) (hj : j < dim) :
    Tb (w.setCell ⟨gr, j, none⟩ (.int .i64 (qtr (Wt s k j)))) B dim L (cutf s dim k (j + 1)) := by
  intro i p hp
  by_cases hik : i = k
  · subst hik
    rw [hL] at hp
    injection hp with hp
    subst hp
    have := own_set (h i _ hL) j (.int .i64 (qtr (Wt s i j)))
    rw [ints_set, cutf_set s hj] at this
    exact this
  · rw [← cutf_else s hik]
    have hc : Chg (fun x => x = gr) w (w.setCell ⟨gr, j, none⟩ (.int .i64 (qtr (Wt s k j)))) := (Chg.refl (fun x => x = gr) w).set (p := ⟨gr, j, none⟩) (.inl rfl) _
    refine (h i p hp).chg hc (fun x hx e => ?_)
    subst e
    rcases Nat.lt_or_ge i k with hlt | hge
    · exact ha i k p _ hlt hp hL x hx rfl
    · exact ha k i _ p (by omega) hL hp x rfl hx

section
variable {w : World}
theorem new_no (c : Cfg) (h : mayB c = false) : Calls Try.prog 6 #[.agg (cf c)] w fun e w' => e = .returned (.tuple #[.pointer none, .int .i64 1]) ∧ Below w.heap.size w w' := by
  have HM := Lib.hid (fun w => may_any (w := w) c)
  rw [h] at HM
  have b0 := Lib.hid (Blk.new w (cf c) 24)
  have HE : Hid (cf c = #[.int .u64 (U c.seed), .int .i64 c.vocab, .int .i64 c.dim, .int .i64 c.layers, .int .i64 c.top, .int .i64 c.heat]) := Lib.hid rfl
  obtain ⟨x0, H0⟩ : ∃ x, Hid (U c.seed = x) := ⟨_, rfl⟩
  obtain ⟨x1, H1⟩ : ∃ x, Hid (c.vocab = x) := ⟨_, rfl⟩
  obtain ⟨x2, H2⟩ : ∃ x, Hid (c.dim = x) := ⟨_, rfl⟩
  obtain ⟨x3, H3⟩ : ∃ x, Hid (c.layers = x) := ⟨_, rfl⟩
  obtain ⟨x4, H4⟩ : ∃ x, Hid (c.top = x) := ⟨_, rfl⟩
  obtain ⟨x5, H5⟩ : ∃ x, Hid (c.heat = x) := ⟨_, rfl⟩
  rw [H0.out, H1.out, H2.out, H3.out, H4.out, H5.out] at HE
  rw [HE.out] at HM b0 ⊢
  go_enter Try.func6, Try.ntmps6
  go_wp2_with fail
  refine (HM.out _).mono ?_
  rintro e w' ⟨rfl, rfl⟩
  go_wp2
  go_ret2
  exact ⟨rfl, ((Below.refl _ w).alloc (Nat.le_refl _) _).alloc (by simp) _⟩

def Made (w : World) (c : Cfg) (vocab dim layers : Nat) (e : Ending) (w' : World) : Prop :=
  ∃ g a n k T, e = .returned (.tuple #[.pointer (some ⟨g, 0, none⟩), .int .i64 0]) ∧ Mo w' w.heap.size g c vocab dim (2 + 6 * layers) a n k T ∧ Below w.heap.size w w'

set_option maxHeartbeats 2000000 in
theorem new_yes (c : Cfg) (h : mayB c = true) {vocab dim layers : Nat} (hN : Nats c vocab dim layers) : Calls Try.prog 6 #[.agg (cf c)] w (Made w c vocab dim layers) := by
  have HM := Lib.hid (fun w => may_any (w := w) c)
  rw [h] at HM
  have HE : Hid (cf c = #[.int .u64 (U c.seed), .int .i64 vocab, .int .i64 dim, .int .i64 layers, .int .i64 c.top, .int .i64 c.heat]) := Lib.hid (by unfold cf; rw [hN.ev, hN.ed, hN.el])
  have HE2 : Hid (mm c none 0 0 = #[.int .u64 (U c.seed), .int .i64 vocab, .int .i64 dim, .int .i64 layers, .int .i64 c.top, .int .i64 c.heat, .slice none 0 0]) := Lib.hid (by unfold mm; rw [hN.ev, hN.ed, hN.el])
  have HTB : Hid (∀ {w : World} {g : Nat} {ta : Option Addr} {tn tc : Nat} (hb : Blk w g 45 (mm c ta tn tc)) (t n : Nat) (ht : t ≤ 1000) (hn : n ≤ 1000), Calls Try.prog 19 #[.pointer (some ⟨g, 0, none⟩), .int .i64 t, .int .i64 n] w (Tabled w c t n dim)) :=
    Lib.hid (fun hb t n ht hn => table_any hb t n ht hn hN.ed hN.d1)
  have HNN := Lib.hid hN
  have HD := Lib.hid hN.ed
  have hd1 := hN.d1
  have hd0 := hN.d0
  have hv1 := hN.v1
  have hv0 := hN.v0
  have hl1 := hN.l1
  have hl0 := hN.l0
  clear h hN
  have B0 : Blk (w.alloc (.cells (cf c) 24)) w.heap.size 24 (cf c) := Blk.new w (cf c) 24
  have B1 := B0.alloc (.cells (cf c) 24)
  have B2 := B1.alloc (.cells (mm c none 0 0) 45)
  have M2 : Blk (((w.alloc (.cells (cf c) 24)).alloc (.cells (cf c) 24)).alloc (.cells (mm c none 0 0) 45)) (w.heap.size + 1 + 1) 45 (mm c none 0 0) := by
    have := Blk.new ((w.alloc (.cells (cf c) 24)).alloc (.cells (cf c) 24)) (mm c none 0 0) 45
    simpa using this
  have L2 : Below w.heap.size w (((w.alloc (.cells (cf c) 24)).alloc (.cells (cf c) 24)).alloc (.cells (mm c none 0 0) 45)) := (((Below.refl _ w).alloc (Nat.le_refl _) _).alloc (by simp) _).alloc (by simp; omega) _
  have S2 : (((w.alloc (.cells (cf c) 24)).alloc (.cells (cf c) 24)).alloc (.cells (mm c none 0 0) 45)).heap.size = w.heap.size + 3 := by simp
  obtain ⟨u, HU⟩ : ∃ u, Hid (U c.seed = u) := ⟨_, rfl⟩
  obtain ⟨tp, HT⟩ : ∃ u, Hid (c.top = u) := ⟨_, rfl⟩
  obtain ⟨ht, HH⟩ : ∃ u, Hid (c.heat = u) := ⟨_, rfl⟩
  rw [HU.out, HT.out, HH.out] at HE HE2
  obtain ⟨W2, HW2⟩ : ∃ W2, Hid (((w.alloc (.cells (cf c) 24)).alloc (.cells (cf c) 24)).alloc (.cells (mm c none 0 0) 45) = W2) := ⟨_, rfl⟩
  rw [HW2.out] at B2 M2 L2 S2
  rw [HE.out] at HM B0 B1 ⊢
  have HW3 := HW2.out
  rw [HE.out, HE2.out] at HW3
  have HB0 := Lib.hid B0
  have HB1 := Lib.hid B1
  have HB2 := Lib.hid B2
  have HM2 := Lib.hid M2
  have HL2 := Lib.hid L2
  have HS2 := Lib.hid S2
  clear B0 B1 B2 M2 L2 S2 HW2
  go_enter Try.func6, Try.ntmps6
  go_wp2_with fail
  refine (HM.out _).mono ?_
  rintro e w' ⟨rfl, rfl⟩
  go_upto_region 4 with (fail)
  obtain ⟨g, HG⟩ : ∃ g, Hid (w.heap.size + 1 + 1 = g) := ⟨_, rfl⟩
  rw [HG.out] at HM2 ⊢
  have hgw : w.heap.size < g := by have := HG.out; omega
  clear HW3 HB0 HB1 HM
  go_wp2_with fail
  refine (HTB.out HM2.out 1 256 (by omega) (by omega)).mono ?_
  rintro e w3 ⟨gt, L, rfl, hL, ho3, ht3, ha3, hb3⟩
  have HB3 := Lib.hid ((hb3.block _ HB2.out.lt).trans HB2.out)
  have HM3 := Lib.hid ((hb3.block _ HM2.out.lt).trans HM2.out)
  have HL3 := Lib.hid (HL2.out.trans (hb3.mono HL2.out.size))
  have HO3 := Lib.hid (ho3.lower HL2.out.size)
  have HT3 := Lib.hid (ht3.lower HL2.out.size)
  have HA3 := Lib.hid ha3
  have HLL := Lib.hid hL
  clear HB2 HM2 HL2 ho3 ht3 ha3 hb3 hL HS2
  go_wp2_with fail
  go_loopw [24] (fun i wr => ∃ k : Nat, k ≤ 256 ∧ i = .int .i64 k ∧ Hid (Blk wr w.heap.size 24 (cf c)) ∧ Hid (Blk wr g 45 (mm c none 0 0)) ∧ Hid (Below w.heap.size w wr) ∧ Hid (Own wr w.heap.size 32 1 (some ⟨gt, 0, none⟩) 256 256 (sl dim L)) ∧ Hid (Tb wr w.heap.size dim L (cutf (tseed c 1) dim k 0))) (fun i _ => 256 - (intOf i).toNat)
  case atStart => exact ⟨0, by omega, rfl, HB3, HM3, HL3, HO3, Lib.hid (fun i p hp => by rw [cutf_zero]; exact HT3.out i p hp)⟩
  case round =>
    obtain ⟨k, hk, rfl, HBr, HMr, HLr, HOr, HTr⟩ := hrel
    by_cases hlt : k < 256
    · obtain ⟨⟨p1, cr⟩, hp⟩ : ∃ p, L[k]? = some p := ⟨_, List.getElem?_eq_getElem (by rw [HLL.out]; exact hlt)⟩
      have hrow := HTr.out k _ hp
      obtain ⟨gr, rfl⟩ : ∃ gr, p1 = some ⟨gr, 0, none⟩ := by
        obtain ⟨_, ⟨_, h, _⟩ | ⟨gr, cur, h, _⟩⟩ := hrow.form
        · exact absurd h (by omega)
        · exact ⟨gr, h⟩
      have HP := Lib.hid hp
      have k0 : (0 : Int) ≤ (k : Int) := by omega
      have k1 : (k : Int) < 256 := by omega
      have ck : wr.cell? ⟨gt, k, none⟩ = some (.slice (some ⟨gr, 0, none⟩) dim cr) := (own_arr (c := 256) HOr.out).cell k (by simpa using sl_get hp)
      clear hrow
      go_wp2_with fail
      obtain ⟨wo, HWO⟩ : ∃ wo, Hid (wr = wo) := ⟨_, rfl⟩
      rw [HWO.out] at HBr HMr HLr HOr HTr ⊢
      clear HWO ck
      go_loopw [30] (fun i wr => ∃ j : Nat, j ≤ dim ∧ i = .int .i64 j ∧ Hid (Blk wr w.heap.size 24 (cf c)) ∧ Hid (Blk wr g 45 (mm c none 0 0)) ∧ Hid (Below w.heap.size w wr) ∧ Hid (Own wr w.heap.size 32 1 (some ⟨gt, 0, none⟩) 256 256 (sl dim L)) ∧ Hid (Tb wr w.heap.size dim L (cutf (tseed c 1) dim k j))) (fun i _ => dim - (intOf i).toNat)
      case atStart => exact ⟨0, by omega, rfl, HBr, HMr, HLr, HOr, HTr⟩
      case round =>
        obtain ⟨j, hj, rfl, HB4, HM4, HL4, HO4, HT4⟩ := hrel
        by_cases hjl : j < dim
        · have j0 : (0 : Int) ≤ (j : Int) := by omega
          have j1 : (j : Int) < (dim : Int) := by omega
          have hrow := HT4.out k _ HP.out
          have hx := cutf_at (tseed c 1) (dim := dim) (k := k) hjl
          have cj : wr.cell? ⟨gr, j, none⟩ = some (.int .i64 (Wt (tseed c 1) k j)) := by
            have := hrow.row.cells (g := gr) rfl j (.int .i64 (Wt (tseed c 1) k j)) (by simp [ints, hx])
            rw [Go.WideShapes.add_plain, Nat.zero_add] at this
            exact this
          have fj : wr.frozen? ⟨gr, j, none⟩ = false := by
            obtain ⟨_, ⟨h, _⟩ | ⟨g', cur, h, _, hh, _⟩⟩ := hrow.form
            · cases h
            · injection h with h
              injection h with h
              subst h
              exact (show Blk wr gr 2 cur from hh).frozen j
          have n1 := hrow.ne HB4.out (by decide)
          have n2 := hrow.ne HM4.out (by decide)
          have n3 := own_ne HO4.out hrow (by decide)
          have hlo := (hrow.lt gr rfl).1
          have x0 := Wt_lo (tseed c 1) k j
          have x1 := Wt_hi (tseed c 1) k j
          have T := Lib.hid (fun w => mul_any (w := w) x0 x1)
          have HT5 := Lib.hid (scale_step HT4.out HA3.out HP.out hjl)
          have HC5 := Lib.hid ((Chg.refl (fun x => x = gr) wr).set (p := ⟨gr, j, none⟩) (.inl rfl) (.int .i64 (qtr (Wt (tseed c 1) k j))))
          have N1 := Lib.hid n1
          have N2 := Lib.hid n2
          have N3 := Lib.hid n3
          clear hrow hx n1 n2 n3 x0 x1
          obtain ⟨x, HX⟩ : ∃ x, Hid (Wt (tseed c 1) k j = x) := ⟨_, rfl⟩
          rw [HX.out] at T cj HT5 HC5
          go_wp2_with fail
          refine (T.out _).mono ?_
          rintro e w5 ⟨rfl, rfl⟩
          go_wp2
          go_roundw
          case rel => exact ⟨j + 1, by omega, by go_num, Lib.hid (HC5.out.blk HB4.out (fun e => N1.out (by rw [ob, ← e]; rfl))), Lib.hid (HC5.out.blk HM4.out (fun e => N2.out (by rw [ob, ← e]; rfl))), Lib.hid (HC5.out.below HL4.out HL4.out.size (fun x hx => by omega)), Lib.hid (HO4.out.chg HC5.out (fun x hx e => N3.out x hx (by rw [ob, ← e]; rfl))), HT5⟩
          case measure => simp [intOf]; omega
        · have hje : j = dim := by omega
          subst hje
          go_wp2
          go_roundw
          case rel => exact ⟨k + 1, by omega, by go_num, HB4, HM4, HL4, HO4, Lib.hid (fun i p hp => by rw [← cutf_next]; exact HT4.out i p hp)⟩
          case measure => simp [intOf]; omega
    · have hke : k = 256 := by omega
      subst hke
      have HT1 : Hid (Tb wr w.heap.size dim L (frow c dim 1)) := Lib.hid (fun i p hp => by
        have hi : i < 256 := by rw [← HLL.out]; exact (List.getElem?_eq_some_iff.1 hp).1
        have := HTr.out i p hp
        rw [cutf_all _ hi] at this
        show Own _ _ _ _ _ _ _ (ints (if 1 = 1 then _ else _))
        rw [if_pos rfl]
        exact this)
      clear HTr
      have q1 : wr.cell? ⟨w.heap.size, 1, none⟩ = some (.int .i64 vocab) := by rw [← HNN.out.ev]; exact HBr.out.cell 1 rfl
      have q6 : wr.cell? ⟨g, 6, none⟩ = some (.slice none 0 0) := HMr.out.cell 6 rfl
      have HM0 : Hid (Mo wr w.heap.size g c vocab dim 0 none 0 0 []) := Lib.hid ⟨HMr.out, Own.none_ _ _ _ _, fun i p hp => by simp at hp, fun i p hp => by simp at hp, rfl, by omega⟩
      have HTA : Hid (TabAt wr w.heap.size dim (gt, 256) (frow c dim 1)) := Lib.hid ⟨L, HLL.out, HOr.out, HT1.out⟩
      have hgl : g < wr.heap.size := HMr.out.lt
      go_upto_region 15 with (fail)
      go_cut [] from 42 to 55 (fun wx => ∃ (a : Option Addr) (n ck : Nat) (T : List (Nat × Nat)), Hid (Mo wx w.heap.size g c vocab dim 2 a n ck T) ∧ Hid (Blk wx w.heap.size 24 (cf c)) ∧ Hid (Below w.heap.size w wx))
      case first =>
        go_region_law (first | (refine step_app tabs43 (by omega) (by rfl) (.tmp 46) (.tmp 52) (by rfl) (by rfl) (Own.none_ _ w.heap.size 35 1) (by rfl) HRA.out H1C.out (by omega) (by omega) (by simp; omega) ?_; intro a9 c9 w10 ho10 hg10 ha10; have b10 := (Chg.of_grown' hg10).blk (HB9.out.alloc _) (by simp [ob]); have u6 : w10.cell? ⟨g, 6, none⟩ = some (.slice none 0 0) := b10.cell 6 rfl; have v6 := b10.frozen 6; have HO10 := Lib.hid ho10; have HG10 := Lib.hid hg10; clear ho10 hg10 ha10 b10) | (go_simp; refine (HTB.out (by exact HMr.out) 0 vocab (by omega) (by omega)).mono ?_; rintro e w9 ⟨g0, L0, rfl, hL0, ho0, ht0, ha0, hb0⟩; have p6 : w9.cell? ⟨g, 6, none⟩ = some (.slice none 0 0) := (hb0.cell (p := ⟨g, 6, none⟩) hgl).trans q6; have hl9 : g < w9.heap.size := Nat.lt_of_lt_of_le hgl hb0.size; have HB9 : Hid (Blk w9 g 45 (mm c none 0 0)) := Lib.hid ((hb0.block g hgl).trans HMr.out); have hs9 : wr.heap.size ≤ w9.heap.size := hb0.size; have HRA := Lib.hid (Own.made (B := w9.heap.size) (size := 1) w9 #[.slice (some ⟨g0, 0, none⟩) vocab vocab, .slice (some ⟨gt, 0, none⟩) 256 256] 35 2 (Nat.le_refl _) (by unfold maxLen; omega) rfl).rd; have H1C := Lib.hid (show ∀ u ∈ [Value.slice (some ⟨g0, 0, none⟩) vocab vocab, .slice (some ⟨gt, 0, none⟩) 256 256], u.oneCell' = true by simp [Value.oneCell']); have HZ9 : Hid (Below wr.heap.size wr w9) := Lib.hid ⟨hb0.os, hb0.tape, hb0.output, hb0.size, hb0.block⟩; have HT0 : Hid (TabAt w9 wr.heap.size dim (g0, vocab) (wrow (tseed c 0) dim)) := Lib.hid ⟨L0, hL0, ho0, ht0⟩; clear hL0 ho0 ht0 ha0 hb0))
        all_goals go_wp2
        all_goals
          have hps := mo_push (N := [(g0, vocab), (gt, 256)]) HM0.out (Z := w9.alloc (.cells #[.slice (some ⟨g0, 0, none⟩) vocab vocab, .slice (some ⟨gt, 0, none⟩) 256 256] 35))
            (((Chg.of_below HZ9.out (fun _ => False))).alloc _) (fun i p hp => by
              match i, hp with
              | 0, hp =>
                simp at hp
                subst hp
                exact ⟨(HT0.out.lower HLr.out.size).alloc _, rfl⟩
              | 1, hp =>
                simp at hp
                subst hp
                exact ⟨(HTA.out.below HZ9.out).alloc _, rfl⟩
              | i + 2, hp => simp at hp) HG10.out (n10 := 2) rfl HO10.out
          go_meet
          exact ⟨a9, 2, c9, _, Lib.hid hps.1, Lib.hid (hps.2.blk HBr.out (by simp [ob]; omega)), Lib.hid (hps.2.below HLr.out HLr.out.size (fun x hx => by simp [ob] at hx; omega))⟩
      case rest =>
        obtain ⟨a5, n5, c5, T5, HM5, HB5, HL5⟩ := hcut
        clear HM0 HTA q1 q6 hgl HT1 HMr HBr HOr HLr HM3 HL3 HO3 HT3 HA3 HB3
        have q3 : wc.cell? ⟨w.heap.size, 3, none⟩ = some (.int .i64 layers) := by rw [← HNN.out.el]; exact HB5.out.cell 3 rfl
        have l0 : (0 : Int) ≤ (layers : Int) := by omega
        have l1 : (layers : Int) ≤ 4 := by omega
        clear HLL HNN
        go_wp2_with fail
        go_loopw [59] (fun i wr => ∃ (k : Nat) (a : Option Addr) (n ck : Nat) (T : List (Nat × Nat)), k ≤ 6 * layers ∧ i = .int .i64 k ∧ Hid (Mo wr w.heap.size g c vocab dim (2 + k) a n ck T) ∧ Hid (Blk wr w.heap.size 24 (cf c)) ∧ Hid (Below w.heap.size w wr)) (fun i _ => 6 * layers - (intOf i).toNat)
        case atStart => exact ⟨0, _, _, _, _, Nat.zero_le _, rfl, HM5, HB5, HL5⟩
        case round =>
          obtain ⟨k, a, n, ck, T, hk, rfl, HM6, HB6, HL6⟩ := hrel
          by_cases hkl : k < 6 * layers
          · have k0 : (0 : Int) ≤ (k : Int) := by omega
            have k1 : (k : Int) < 6 * (layers : Int) := by omega
            have hn := HM6.out.n
            have hn2 : n ≤ 26 := by omega
            clear hn
            have q2 : wr.cell? ⟨w.heap.size, 2, none⟩ = some (.int .i64 dim) := by rw [← HD.out]; exact HB6.out.cell 2 rfl
            have q6 : wr.cell? ⟨g, 6, none⟩ = some (.slice a n ck) := HM6.out.blk.cell 6 rfl
            have hgl : g < wr.heap.size := HM6.out.blk.lt
            have HT7 : Hid (∀ {w : World} {ta : Option Addr} {tn tc : Nat} (hb : Blk w g 45 (mm c ta tn tc)), Calls Try.prog 19 #[.pointer (some ⟨g, 0, none⟩), .int .i64 (2 + (k : Int)), .int .i64 dim] w (Tabled w c (2 + k) dim dim)) :=
              Lib.hid (fun hb => by
                have := HTB.out hb (2 + k) dim (by omega) (by omega)
                rw [show ((2 + k : Nat) : Int) = 2 + (k : Int) by omega] at this
                exact this)
            have HNG := Lib.hid HM6.out.ne
            have HBD : Hid (Blk wr.drew g 45 (mm c a n ck)) := Lib.hid HM6.out.blk.drew
            have s1 : IntKind.i64.wrap (2 + (k : Int)) = 2 + (k : Int) := IntWalk.i64_in _ (by omega)
            go_wp2_with fail
            go_region_law (first | (refine step_app tabs43 (by omega) (by rfl) (.tmp 66) (.tmp 73) (by rfl) (by rfl) HOA.out (by rfl) HRA.out H1C.out (by omega) (by omega) (by simp; omega) ?_; intro a9 c9 w10 ho10 hg10 ha10; have b10 := (Chg.of_grown' hg10).blk (HB9.out.alloc _) HNG.out; have u6 : w10.cell? ⟨g, 6, none⟩ = some (.slice a n ck) := b10.cell 6 rfl; have v6 := b10.frozen 6; have HO10 := Lib.hid ho10; have HG10 := Lib.hid hg10; clear ho10 hg10 ha10 b10) | (go_simp; (with_reducible refine (HT7.out HBD.out).mono ?_); rintro e w9 ⟨g0, L0, rfl, hL0, ho0, ht0, ha0, hb0⟩; have p6 : w9.cell? ⟨g, 6, none⟩ = some (.slice a n ck) := (hb0.cell (p := ⟨g, 6, none⟩) hgl).trans q6; have hl9 : g < w9.heap.size := Nat.lt_of_lt_of_le hgl hb0.size; have HB9 : Hid (Blk w9 g 45 (mm c a n ck)) := Lib.hid ((hb0.block g hgl).trans HM6.out.blk); have hs9 : wr.heap.size ≤ w9.heap.size := hb0.size; have HRA := Lib.hid (Own.made (B := w9.heap.size) (size := 1) w9 #[.slice (some ⟨g0, 0, none⟩) dim dim] 35 1 (Nat.le_refl _) (by unfold maxLen; omega) rfl).rd; have H1C := Lib.hid (show ∀ u ∈ [Value.slice (some ⟨g0, 0, none⟩) dim dim], u.oneCell' = true by simp [Value.oneCell']); have HZ9 : Hid (Below wr.heap.size wr w9) := Lib.hid ⟨hb0.os, hb0.tape, hb0.output, hb0.size, hb0.block⟩; have HOA := Lib.hid (Own.alloc' (HM6.out.below HZ9.out).own (.cells #[.slice (some ⟨g0, 0, none⟩) dim dim] 35)); have HT0 : Hid (TabAt w9 wr.heap.size dim (g0, dim) (wrow (tseed c (2 + k)) dim)) := Lib.hid ⟨L0, hL0, ho0, ht0⟩; clear hL0 ho0 ht0 ha0 hb0))
            all_goals go_wp2
            all_goals
              have hps := mo_push (N := [(g0, dim)]) HM6.out (Z := w9.alloc (.cells #[.slice (some ⟨g0, 0, none⟩) dim dim] 35))
                (((Chg.of_below HZ9.out (fun _ => False))).alloc _) (fun i p hp => by
                  match i, hp with
                  | 0, hp =>
                    simp at hp
                    subst hp
                    refine ⟨?_, ?_⟩
                    · have e : frow c dim (2 + k + 0) = wrow (tseed c (2 + k)) dim := by
                        funext r
                        exact if_neg (by omega)
                      rw [e]
                      exact (HT0.out.lower HL6.out.size).alloc _
                    · show dim = trows c vocab dim (2 + k + 0)
                      unfold trows
                      rw [if_neg (by omega), if_neg (by omega)]
                  | i + 1, hp => simp at hp) HG10.out (n10 := n + 1) rfl HO10.out
              go_roundw
              case rel => exact ⟨k + 1, by omega, by go_num, ⟨a9, n + 1, c9, _, Lib.hid hps.1⟩, Lib.hid (hps.2.blk HB6.out (fun h => h.elim (fun e => HM6.out.own.ne HB6.out (by decide) e) (fun e => by omega))), Lib.hid (hps.2.below HL6.out HL6.out.size (fun x hx => hx.elim (fun e => (HM6.out.own.lt _ e).1) (fun e => by omega)))⟩
              case measure => simp [intOf]; omega
          · have hke : k = 6 * layers := by omega
            subst hke
            go_wp2
            go_ret2
            exact ⟨g, a, n, ck, T, rfl, HM6.out, HL6.out⟩
end
end Go.Proofs.Ytpcanolanhdfeaa.MdN
