/-
  Walks over the model's small functions: in, May, clone, and the document's.
-/
import Derived.Test.YtpcanolanhdfeaaMdR
import Derived.Lib.LazyBuf
import Derived.Deep.DrawnRows
namespace Go.Proofs.Ytpcanolanhdfeaa.MdW
open Go.RowKit Go.Proofs.Ytpcanolanhdfeaa.Kit Go.Proofs.Ytpcanolanhdfeaa.Math Go.Proofs.Ytpcanolanhdfeaa.MdR
attribute [local go_sem high] max_imax min_imin
attribute [local go_sem ↓] Go.wp_at_zero Go.wp_at_succ
set_option linter.unusedVariables false

theorem int_info : (Try.prog.info? 2).map (fun i => (i.zero, i.size, i.bytes)) = some (some (.int .i64 0), 1, 8) := by kernel_rfl
theorem row_info : (Try.prog.info? 32).map (fun i => (i.zero, i.size, i.bytes)) = some (some (.slice none 0 0), 1, 24) := by kernel_rfl
theorem tab_info : (Try.prog.info? 35).map (fun i => (i.zero, i.size, i.bytes)) = some (some (.slice none 0 0), 1, 24) := by kernel_rfl
theorem ints32 : ElemT Try.prog 32 2 1 8 := by
  refine ⟨Try.underlying32, ?_⟩
  have h := int_info
  cases hi : Try.prog.info? 2 with
  | none => rw [hi] at h; simp at h
  | some i =>
    rw [hi] at h
    simp at h
    exact ⟨i, _, rfl, h.1, h.2.1, h.2.2, rfl⟩
theorem rows35 : ElemT Try.prog 35 32 1 24 := by
  refine ⟨Try.underlying35, ?_⟩
  have h := row_info
  cases hi : Try.prog.info? 32 with
  | none => rw [hi] at h; simp at h
  | some i =>
    rw [hi] at h
    simp at h
    exact ⟨i, _, rfl, h.1, h.2.1, h.2.2, rfl⟩
theorem tabs43 : ElemT Try.prog 43 35 1 24 := by
  refine ⟨Try.underlying43, ?_⟩
  have h := tab_info
  cases hi : Try.prog.info? 35 with
  | none => rw [hi] at h; simp at h
  | some i =>
    rw [hi] at h
    simp at h
    exact ⟨i, _, rfl, h.1, h.2.1, h.2.2, rfl⟩

/-- A configuration. -/
structure Cfg where
  seed : BitVec 64
  vocab : Int
  dim : Int
  layers : Int
  top : Int
  heat : Int
def cf (c : Cfg) : Array Value := #[.int .u64 (U c.seed), .int .i64 c.vocab, .int .i64 c.dim, .int .i64 c.layers, .int .i64 c.top, .int .i64 c.heat]
/-- Is a number from one to another one? -/
def inB (n l m : Int) : Bool := decide (l ≤ n) && decide (n ≤ m)
def mayB (c : Cfg) : Bool := inB c.vocab 2 64 && inB c.dim 1 16 && inB c.layers 1 4 && inB c.top 1 c.vocab && inB c.heat 0 8

section
variable {w : World}
theorem in_any (n l m : Int) : Calls Try.prog 23 #[.int .i64 n, .int .i64 l, .int .i64 m] w fun e w' => e = .returned (.bool (inB n l m)) ∧ w = w' := by
  obtain ⟨b, HB⟩ : ∃ b, Hid (inB n l m = b) := ⟨_, rfl⟩
  rw [HB.out]
  by_cases h1 : l ≤ n
  · by_cases h2 : n ≤ m
    · go_enter Try.func23, Try.ntmps23
      go_wp2
      go_ret
      exact ⟨by rw [← HB.out]; simp [inB, h1, h2], rfl⟩
    · go_enter Try.func23, Try.ntmps23
      go_wp2
      go_ret
      exact ⟨by rw [← HB.out]; simp [inB, h1, h2], rfl⟩
  · go_enter Try.func23, Try.ntmps23
    go_wp2
    go_ret
    exact ⟨by rw [← HB.out]; simp [inB]; omega, rfl⟩
theorem rin_any (n l m : Int) : Calls Try.prog 25 #[.int .i64 n, .int .i64 l, .int .i64 m] w fun e w' => e = .returned (.bool (inB n l m)) ∧ w = w' := by
  obtain ⟨b, HB⟩ : ∃ b, Hid (inB n l m = b) := ⟨_, rfl⟩
  rw [HB.out]
  by_cases h1 : l ≤ n
  · by_cases h2 : n ≤ m
    · go_enter Try.func25, Try.ntmps25
      go_wp2
      go_ret
      exact ⟨by rw [← HB.out]; simp [inB, h1, h2], rfl⟩
    · go_enter Try.func25, Try.ntmps25
      go_wp2
      go_ret
      exact ⟨by rw [← HB.out]; simp [inB, h1, h2], rfl⟩
  · go_enter Try.func25, Try.ntmps25
    go_wp2
    go_ret
    exact ⟨by rw [← HB.out]; simp [inB]; omega, rfl⟩

theorem may_any (c : Cfg) : Calls Try.prog 14 #[.agg (cf c)] w fun e w' => e = .returned (.bool (mayB c)) ∧ w' = w.alloc (.cells (cf c) 24) := by
  have HM : Hid (mayB c = (inB c.vocab 2 64 && inB c.dim 1 16 && inB c.layers 1 4 && inB c.top 1 c.vocab && inB c.heat 0 8)) := Lib.hid rfl
  have T1 := fun w => Lib.hid (in_any (w := w) c.vocab 2 64)
  have T2 := fun w => Lib.hid (in_any (w := w) c.dim 1 16)
  have T3 := fun w => Lib.hid (in_any (w := w) c.layers 1 4)
  have T4 := fun w => Lib.hid (in_any (w := w) c.top 1 c.vocab)
  have T5 := fun w => Lib.hid (in_any (w := w) c.heat 0 8)
  obtain ⟨b1, H1⟩ : ∃ b, Hid (inB c.vocab 2 64 = b) := ⟨_, rfl⟩
  obtain ⟨b2, H2⟩ : ∃ b, Hid (inB c.dim 1 16 = b) := ⟨_, rfl⟩
  obtain ⟨b3, H3⟩ : ∃ b, Hid (inB c.layers 1 4 = b) := ⟨_, rfl⟩
  obtain ⟨b4, H4⟩ : ∃ b, Hid (inB c.top 1 c.vocab = b) := ⟨_, rfl⟩
  obtain ⟨b5, H5⟩ : ∃ b, Hid (inB c.heat 0 8 = b) := ⟨_, rfl⟩
  rw [H1.out] at T1 HM
  rw [H2.out] at T2 HM
  rw [H3.out] at T3 HM
  rw [H4.out] at T4 HM
  rw [H5.out] at T5 HM
  rw [HM.out]
  unfold cf
  clear HM H1 H2 H3 H4 H5
  cases b1 with
  | false =>
    go_enter Try.func14, Try.ntmps14
    go_wp2_with (go_at_call 23; with_reducible refine (T1 _).out.mono ?_; rintro e w1 ⟨rfl, rfl⟩)
    go_ret
    exact ⟨rfl, rfl⟩
  | true =>
    cases b2 with
    | false =>
      go_enter Try.func14, Try.ntmps14
      go_wp2_with (go_at_call 23; with_reducible (first | refine (T1 _).out.mono ?_ | refine (T2 _).out.mono ?_); rintro e w1 ⟨rfl, rfl⟩)
      go_ret
      exact ⟨rfl, rfl⟩
    | true =>
      cases b3 with
      | false =>
        go_enter Try.func14, Try.ntmps14
        go_wp2_with (go_at_call 23; with_reducible (first | refine (T1 _).out.mono ?_ | refine (T2 _).out.mono ?_ | refine (T3 _).out.mono ?_); rintro e w1 ⟨rfl, rfl⟩)
        go_ret
        exact ⟨rfl, rfl⟩
      | true =>
        cases b4 with
        | false =>
          go_enter Try.func14, Try.ntmps14
          go_wp2_with (go_at_call 23; with_reducible (first | refine (T1 _).out.mono ?_ | refine (T2 _).out.mono ?_ | refine (T3 _).out.mono ?_ | refine (T4 _).out.mono ?_); rintro e w1 ⟨rfl, rfl⟩)
          go_ret
          exact ⟨rfl, rfl⟩
        | true =>
          go_enter Try.func14, Try.ntmps14
          go_wp2_with (go_at_call 23; with_reducible (first | refine (T1 _).out.mono ?_ | refine (T2 _).out.mono ?_ | refine (T3 _).out.mono ?_ | refine (T4 _).out.mono ?_ | refine (T5 _).out.mono ?_); rintro e w1 ⟨rfl, rfl⟩)
          go_ret
          exact ⟨by simp, rfl⟩

theorem rmay_any (c : Cfg) : Calls Try.prog 13 #[.agg (cf c)] w fun e w' => e = .returned (.bool (mayB c)) ∧ w' = w.alloc (.cells (cf c) 24) := by
  have HM : Hid (mayB c = (inB c.vocab 2 64 && inB c.dim 1 16 && inB c.layers 1 4 && inB c.top 1 c.vocab && inB c.heat 0 8)) := Lib.hid rfl
  have T1 := fun w => Lib.hid (rin_any (w := w) c.vocab 2 64)
  have T2 := fun w => Lib.hid (rin_any (w := w) c.dim 1 16)
  have T3 := fun w => Lib.hid (rin_any (w := w) c.layers 1 4)
  have T4 := fun w => Lib.hid (rin_any (w := w) c.top 1 c.vocab)
  have T5 := fun w => Lib.hid (rin_any (w := w) c.heat 0 8)
  obtain ⟨b1, H1⟩ : ∃ b, Hid (inB c.vocab 2 64 = b) := ⟨_, rfl⟩
  obtain ⟨b2, H2⟩ : ∃ b, Hid (inB c.dim 1 16 = b) := ⟨_, rfl⟩
  obtain ⟨b3, H3⟩ : ∃ b, Hid (inB c.layers 1 4 = b) := ⟨_, rfl⟩
  obtain ⟨b4, H4⟩ : ∃ b, Hid (inB c.top 1 c.vocab = b) := ⟨_, rfl⟩
  obtain ⟨b5, H5⟩ : ∃ b, Hid (inB c.heat 0 8 = b) := ⟨_, rfl⟩
  rw [H1.out] at T1 HM
  rw [H2.out] at T2 HM
  rw [H3.out] at T3 HM
  rw [H4.out] at T4 HM
  rw [H5.out] at T5 HM
  rw [HM.out]
  unfold cf
  clear HM H1 H2 H3 H4 H5
  cases b1 with
  | false =>
    go_enter Try.func13, Try.ntmps13
    go_wp2_with (go_at_call 25; with_reducible refine (T1 _).out.mono ?_; rintro e w1 ⟨rfl, rfl⟩)
    go_ret
    exact ⟨rfl, rfl⟩
  | true =>
    cases b2 with
    | false =>
      go_enter Try.func13, Try.ntmps13
      go_wp2_with (go_at_call 25; with_reducible (first | refine (T1 _).out.mono ?_ | refine (T2 _).out.mono ?_); rintro e w1 ⟨rfl, rfl⟩)
      go_ret
      exact ⟨rfl, rfl⟩
    | true =>
      cases b3 with
      | false =>
        go_enter Try.func13, Try.ntmps13
        go_wp2_with (go_at_call 25; with_reducible (first | refine (T1 _).out.mono ?_ | refine (T2 _).out.mono ?_ | refine (T3 _).out.mono ?_); rintro e w1 ⟨rfl, rfl⟩)
        go_ret
        exact ⟨rfl, rfl⟩
      | true =>
        cases b4 with
        | false =>
          go_enter Try.func13, Try.ntmps13
          go_wp2_with (go_at_call 25; with_reducible (first | refine (T1 _).out.mono ?_ | refine (T2 _).out.mono ?_ | refine (T3 _).out.mono ?_ | refine (T4 _).out.mono ?_); rintro e w1 ⟨rfl, rfl⟩)
          go_ret
          exact ⟨rfl, rfl⟩
        | true =>
          go_enter Try.func13, Try.ntmps13
          go_wp2_with (go_at_call 25; with_reducible (first | refine (T1 _).out.mono ?_ | refine (T2 _).out.mono ?_ | refine (T3 _).out.mono ?_ | refine (T4 _).out.mono ?_ | refine (T5 _).out.mono ?_); rintro e w1 ⟨rfl, rfl⟩)
          go_ret
          exact ⟨by simp, rfl⟩

theorem eql32 : ∀ w a n c, (binOp .eql 32 (.slice a n c) (.slice none 0 0)).run Try.prog w = .ok (.bool a.isNone) w := fun w a n c => run_eql_slice_nil w 32 2 a n c Try.underlying32
theorem clone_none : Calls Try.prog 24 #[.slice none 0 0] w fun e w' => e = .returned (.slice none 0 0) ∧ w' = w := by
  have hu := eql32
  go_enter Try.func24, Try.ntmps24
  go_wp2
  go_ret
  exact ⟨rfl, rfl⟩

def Cloned (w : World) (n : Nat) (l : List Int) (e : Ending) (w' : World) : Prop := ∃ a c, e = .returned (.slice a n c) ∧ Own w' w.heap.size 2 1 a n c (ints l) ∧ Below w.heap.size w w'
theorem clone_any {a : Option Addr} {n c : Nat} {l : List Int} (hr : Rd w 1 a n c (ints l)) (hn : n ≤ 17592186044416) : Calls Try.prog 24 #[.slice a n c] w (Cloned w n l) := by
  have hu := eql32
  rcases a with _ | ad
  · obtain rfl := hr.nil rfl
    obtain rfl : n = 0 := by have := hr.cap; omega
    have h0 := hr.zero
    refine clone_none.mono ?_
    rintro e w' ⟨rfl, rfl⟩
    exact ⟨none, 0, rfl, by rw [h0]; exact Own.none_ _ _ _ _, Below.refl _ _⟩
  · have HR := Lib.hid hr
    clear hr
    have HO : Hid (Own (w.alloc (.cells #[] 2)) w.heap.size 2 1 (some ⟨w.heap.size, 0, none⟩) 0 0 []) := Own.made w #[] 2 0 (Nat.le_refl _) (Nat.zero_le _) rfl
    have HR2 : Hid (Rd (w.alloc (.cells #[] 2)) 1 (some ad) n c (ints l)) := HR.out.chg ((Chg.refl (fun _ => False) w).alloc _) (fun _ _ _ => id)
    go_enter Try.func24, Try.ntmps24
    go_wp2_with (at_builtin; refine wpList_app ints32 (by omega) rfl (.tmp 5) (.tmp 6) rfl (B := w.heap.size) (by rfl) HO.out (by rfl) HR2.out (ints_one l) (by omega) (by omega) (by simp) ?_; intro a' c' w' hown hg hat)
    go_ret
    rw [Nat.zero_add, List.nil_append] at *
    refine ⟨a', c', rfl, hown, ?_⟩
    exact ((Below.refl _ w).alloc (Nat.le_refl _) _).grown hg (by simp) (fun k hk => by simp [ob] at hk; omega)

/-! Rows of a table, in memory. -/
/-- The slices of rows that lie at these addresses. -/
def sl (n : Nat) (L : List (Option Addr × Nat)) : List Value := L.map fun p => .slice p.1 n p.2
/-- The i-th row reads as f i. -/
def Tb (w : World) (B n : Nat) (L : List (Option Addr × Nat)) (f : Nat → List Int) : Prop := ∀ (i : Nat) p, L[i]? = some p → Own w B 2 1 p.1 n p.2 (ints (f i))
/-- No two rows share a block. -/
def Apart (L : List (Option Addr × Nat)) : Prop := ∀ (i j : Nat) p q, i < j → L[i]? = some p → L[j]? = some q → ∀ x, ob p.1 = some x → ob q.1 ≠ some x
theorem sl_len (n : Nat) (L : List (Option Addr × Nat)) : (sl n L).length = L.length := by simp [sl]
theorem sl_get {n : Nat} {L : List (Option Addr × Nat)} {i : Nat} {p : Option Addr × Nat} (h : L[i]? = some p) : (sl n L)[i]? = some (.slice p.1 n p.2) := by simp [sl, h]
theorem sl_append (n : Nat) (L M : List (Option Addr × Nat)) : sl n (L ++ M) = sl n L ++ sl n M := by simp [sl]
theorem sl_one (n : Nat) (L : List (Option Addr × Nat)) : ∀ u ∈ sl n L, u.oneCell' = true := by
  intro u hu
  simp only [sl, List.mem_map] at hu
  obtain ⟨x, _, rfl⟩ := hu
  rfl
theorem Tb.chg {S : Nat → Prop} {w w' : World} {B n : Nat} {L : List (Option Addr × Nat)} {f : Nat → List Int} (h : Tb w B n L f) (hc : Chg S w w') (hs : ∀ p ∈ L, ∀ x, ob p.1 = some x → ¬ S x) : Tb w' B n L f :=
  fun i p hp => (h i p hp).chg hc (hs p (List.mem_of_getElem? hp))
theorem Tb.none_ (w : World) (B n : Nat) (f : Nat → List Int) : Tb w B n [] f := fun i p hp => by simp at hp
theorem Tb.snoc {w : World} {B n : Nat} {L : List (Option Addr × Nat)} {f : Nat → List Int} (h : Tb w B n L f) {a : Option Addr} {c : Nat} (ho : Own w B 2 1 a n c (ints (f L.length))) : Tb w B n (L ++ [(a, c)]) f := by
  intro i p hp
  rw [List.getElem?_append] at hp
  split at hp
  · exact h i p hp
  · rename_i hi
    rcases Nat.eq_zero_or_pos (i - L.length) with h0 | h0
    · rw [h0] at hp
      simp at hp
      subst hp
      rw [show i = L.length by omega]
      exact ho
    · rw [List.getElem?_eq_none (by simp; omega)] at hp
      cases hp
theorem Tb.lt {w : World} {B n : Nat} {L : List (Option Addr × Nat)} {f : Nat → List Int} (h : Tb w B n L f) : ∀ p ∈ L, ∀ x, ob p.1 = some x → B ≤ x ∧ x < w.heap.size := by
  intro p hp x hx
  obtain ⟨i, hi, rfl⟩ := List.getElem_of_mem hp
  exact (h i _ (List.getElem?_eq_getElem hi)).lt x hx
theorem Tb.lower {w : World} {B B' n : Nat} {L : List (Option Addr × Nat)} {f : Nat → List Int} (h : Tb w B n L f) (hB : B' ≤ B) : Tb w B' n L f := fun i p hp => (h i p hp).lower hB
theorem Apart.none_ : Apart [] := fun i j p q _ hp _ => by simp at hp
theorem Apart.snoc {L : List (Option Addr × Nat)} (h : Apart L) {a : Option Addr} {c : Nat} (ha : ∀ p ∈ L, ∀ x, ob p.1 = some x → ob a ≠ some x) : Apart (L ++ [(a, c)]) := by
  intro i j p q hij hp hq x hx
  rw [List.getElem?_append] at hp hq
  split at hq
  · rw [if_pos (by omega)] at hp
    exact h i j p q hij hp hq x hx
  · rename_i hj
    rcases Nat.eq_zero_or_pos (j - L.length) with h0 | h0
    · rw [h0] at hq
      simp at hq
      subst hq
      rw [if_pos (by omega)] at hp
      exact ha p (List.mem_of_getElem? hp) x hx
    · rw [List.getElem?_eq_none (by simp; omega)] at hq
      cases hq
end
end Go.Proofs.Ytpcanolanhdfeaa.MdW
