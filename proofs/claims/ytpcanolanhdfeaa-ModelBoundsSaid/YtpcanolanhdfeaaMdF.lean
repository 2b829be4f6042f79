/-
  Walks over the model's document: row, Token, Place, Rows; and Config.
-/
import Derived.Test.YtpcanolanhdfeaaMdL
namespace Go.Proofs.Ytpcanolanhdfeaa.MdF
open Go.RowKit Go.Proofs.Ytpcanolanhdfeaa.Kit Go.Proofs.Ytpcanolanhdfeaa.Math Go.Proofs.Ytpcanolanhdfeaa.MdR Go.Proofs.Ytpcanolanhdfeaa.MdW Go.Proofs.Ytpcanolanhdfeaa.MdT Go.Proofs.Ytpcanolanhdfeaa.MdM Go.Proofs.Ytpcanolanhdfeaa.MdN Go.Proofs.Ytpcanolanhdfeaa.MdV Go.Proofs.Ytpcanolanhdfeaa.MdL
attribute [local go_sem high] max_imax min_imin
attribute [local go_sem ↓] Go.wp_at_zero Go.wp_at_succ
set_option linter.unusedVariables false

section
variable {w : World}

theorem config_any {g : Nat} {c : Cfg} {a : Option Addr} {n k : Nat} (hb : Blk w g 45 (mm c a n k)) (hok : Calls Try.prog 22 #[.pointer (some ⟨g, 0, none⟩)] (w.alloc (.cells #[.int .u64 0, .int .i64 0, .int .i64 0, .int .i64 0, .int .i64 0, .int .i64 0] 24)) fun e w' => e = .returned (.bool true) ∧ (w.alloc (.cells #[.int .u64 0, .int .i64 0, .int .i64 0, .int .i64 0, .int .i64 0, .int .i64 0] 24)) = w') :
    Calls Try.prog 15 #[.pointer (some ⟨g, 0, none⟩)] w fun e w' => e = .returned (.agg (cf c)) ∧ Below w.heap.size w w' := by
  have HOK := Lib.hid hok
  have b0 := hb.alloc (.cells #[.int .u64 0, .int .i64 0, .int .i64 0, .int .i64 0, .int .i64 0, .int .i64 0] 24)
  have z0 := Blk.new w #[.int .u64 0, .int .i64 0, .int .i64 0, .int .i64 0, .int .i64 0, .int .i64 0] 24
  have l0 := (Below.refl w.heap.size w).alloc (Nat.le_refl _) (.cells #[.int .u64 0, .int .i64 0, .int .i64 0, .int .i64 0, .int .i64 0, .int .i64 0] 24)
  obtain ⟨Z, HZ⟩ : ∃ Z, Hid (w.alloc (.cells #[.int .u64 0, .int .i64 0, .int .i64 0, .int .i64 0, .int .i64 0, .int .i64 0] 24) = Z) := ⟨_, rfl⟩
  rw [HZ.out] at HOK b0 z0 l0
  obtain ⟨u, HU⟩ : ∃ u, Hid (U c.seed = u) := ⟨_, rfl⟩
  have HC : Hid (cf c = #[.int .u64 u, .int .i64 c.vocab, .int .i64 c.dim, .int .i64 c.layers, .int .i64 c.top, .int .i64 c.heat]) := Lib.hid (by unfold cf; rw [HU.out])
  rw [HC.out]
  have c0 : Z.cell? ⟨g, 0, none⟩ = some (.int .u64 u) := by rw [← HU.out]; exact b0.cell 0 rfl
  have c1 : Z.cell? ⟨g, 1, none⟩ = some (.int .i64 c.vocab) := b0.cell 1 rfl
  have c2 : Z.cell? ⟨g, 2, none⟩ = some (.int .i64 c.dim) := b0.cell 2 rfl
  have c3 : Z.cell? ⟨g, 3, none⟩ = some (.int .i64 c.layers) := b0.cell 3 rfl
  have c4 : Z.cell? ⟨g, 4, none⟩ = some (.int .i64 c.top) := b0.cell 4 rfl
  have c5 : Z.cell? ⟨g, 5, none⟩ = some (.int .i64 c.heat) := b0.cell 5 rfl
  have t0 : Z.cell? ⟨w.heap.size, 0, none⟩ = some (.int .u64 0) := z0.cell 0 rfl
  have t1 : Z.cell? ⟨w.heap.size, 1, none⟩ = some (.int .i64 0) := z0.cell 1 rfl
  have t2 : Z.cell? ⟨w.heap.size, 2, none⟩ = some (.int .i64 0) := z0.cell 2 rfl
  have t3 : Z.cell? ⟨w.heap.size, 3, none⟩ = some (.int .i64 0) := z0.cell 3 rfl
  have t4 : Z.cell? ⟨w.heap.size, 4, none⟩ = some (.int .i64 0) := z0.cell 4 rfl
  have t5 : Z.cell? ⟨w.heap.size, 5, none⟩ = some (.int .i64 0) := z0.cell 5 rfl
  have f0 := z0.frozen 0
  have f1 := z0.frozen 1
  have f2 := z0.frozen 2
  have f3 := z0.frozen 3
  have f4 := z0.frozen 4
  have f5 := z0.frozen 5
  have hg := hb.lt
  have HL := Lib.hid l0
  have HZ0 := Lib.hid z0
  clear b0 z0 hok hb
  go_enter Try.func15, Try.ntmps15
  go_upto_region 1 with (fail)
  rw [HZ.out]
  clear HZ
  go_wp2_with fail
  refine HOK.out.mono ?_
  rintro e w' ⟨rfl, rfl⟩
  go_wp2
  have b5 : Blk ((((((Z.setCell ⟨w.heap.size, 0, none⟩ (.int .u64 u)).setCell ⟨w.heap.size, 1, none⟩ (.int .i64 c.vocab)).setCell ⟨w.heap.size, 2, none⟩ (.int .i64 c.dim)).setCell ⟨w.heap.size, 3, none⟩ (.int .i64 c.layers)).setCell ⟨w.heap.size, 4, none⟩ (.int .i64 c.top)).setCell ⟨w.heap.size, 5, none⟩ (.int .i64 c.heat)) w.heap.size 24 #[.int .u64 u, .int .i64 c.vocab, .int .i64 c.dim, .int .i64 c.layers, .int .i64 c.top, .int .i64 c.heat] := (((((HZ0.out.set 0 _).set 1 _).set 2 _).set 3 _).set 4 _).set 5 _
  have h5 := ((((((Chg.refl (fun i => i = w.heap.size) Z).set (p := ⟨w.heap.size, 0, none⟩) (.inl rfl) (.int .u64 u)).set (p := ⟨w.heap.size, 1, none⟩) (.inl rfl) (.int .i64 c.vocab)).set (p := ⟨w.heap.size, 2, none⟩) (.inl rfl) (.int .i64 c.dim)).set (p := ⟨w.heap.size, 3, none⟩) (.inl rfl) (.int .i64 c.layers)).set (p := ⟨w.heap.size, 4, none⟩) (.inl rfl) (.int .i64 c.top)).set (p := ⟨w.heap.size, 5, none⟩) (.inl rfl) (.int .i64 c.heat)
  obtain ⟨w5, HW5⟩ : ∃ w5, Hid (((((((Z.setCell ⟨w.heap.size, 0, none⟩ (.int .u64 u)).setCell ⟨w.heap.size, 1, none⟩ (.int .i64 c.vocab)).setCell ⟨w.heap.size, 2, none⟩ (.int .i64 c.dim)).setCell ⟨w.heap.size, 3, none⟩ (.int .i64 c.layers)).setCell ⟨w.heap.size, 4, none⟩ (.int .i64 c.top)).setCell ⟨w.heap.size, 5, none⟩ (.int .i64 c.heat)) = w5) := ⟨_, rfl⟩
  rw [HW5.out] at b5 h5 ⊢
  have e0 : w5.cell? ⟨w.heap.size, 0, none⟩ = some (.int .u64 u) := b5.cell 0 rfl
  have e1 : w5.cell? ⟨w.heap.size, 1, none⟩ = some (.int .i64 c.vocab) := b5.cell 1 rfl
  have e2 : w5.cell? ⟨w.heap.size, 2, none⟩ = some (.int .i64 c.dim) := b5.cell 2 rfl
  have e3 : w5.cell? ⟨w.heap.size, 3, none⟩ = some (.int .i64 c.layers) := b5.cell 3 rfl
  have e4 : w5.cell? ⟨w.heap.size, 4, none⟩ = some (.int .i64 c.top) := b5.cell 4 rfl
  have e5 : w5.cell? ⟨w.heap.size, 5, none⟩ = some (.int .i64 c.heat) := b5.cell 5 rfl
  exact bodyPost_ret (v := .agg #[.int .u64 u, .int .i64 c.vocab, .int .i64 c.dim, .int .i64 c.layers, .int .i64 c.top, .int .i64 c.heat]) (by simp [results, Try.results15, go_sem, e0, e1, e2, e3, e4, e5]) rfl ⟨rfl, h5.below HL.out HL.out.size (fun x hx => by omega)⟩

def zeroC : Array Value := #[.int .u64 0, .int .i64 0, .int .i64 0, .int .i64 0, .int .i64 0, .int .i64 0]
theorem config_not {v : Value} (hok : Calls Try.prog 22 #[v] (w.alloc (.cells zeroC 24)) fun e w' => e = .returned (.bool false) ∧ (w.alloc (.cells zeroC 24)) = w') :
    Calls Try.prog 15 #[v] w fun e w' => e = .returned (.agg zeroC) ∧ Below w.heap.size w w' := by
  have HOK := Lib.hid hok
  have z0 := Blk.new w zeroC 24
  have l0 := (Below.refl w.heap.size w).alloc (Nat.le_refl _) (.cells zeroC 24)
  obtain ⟨Z, HZ⟩ : ∃ Z, Hid (w.alloc (.cells zeroC 24) = Z) := ⟨_, rfl⟩
  rw [HZ.out] at HOK z0 l0
  have t0 : Z.cell? ⟨w.heap.size, 0, none⟩ = some (.int .u64 0) := z0.cell 0 rfl
  have t1 : Z.cell? ⟨w.heap.size, 1, none⟩ = some (.int .i64 0) := z0.cell 1 rfl
  have t2 : Z.cell? ⟨w.heap.size, 2, none⟩ = some (.int .i64 0) := z0.cell 2 rfl
  have t3 : Z.cell? ⟨w.heap.size, 3, none⟩ = some (.int .i64 0) := z0.cell 3 rfl
  have t4 : Z.cell? ⟨w.heap.size, 4, none⟩ = some (.int .i64 0) := z0.cell 4 rfl
  have t5 : Z.cell? ⟨w.heap.size, 5, none⟩ = some (.int .i64 0) := z0.cell 5 rfl
  have f0 := z0.frozen 0
  have f1 := z0.frozen 1
  have f2 := z0.frozen 2
  have f3 := z0.frozen 3
  have f4 := z0.frozen 4
  have f5 := z0.frozen 5
  have HL := Lib.hid l0
  have HZ0 := Lib.hid z0
  have HZ' := HZ.out
  unfold zeroC at HZ'
  clear z0 hok
  go_enter Try.func15, Try.ntmps15
  go_upto_region 1 with (fail)
  clear HZ HZ'
  go_wp2_with fail
  refine HOK.out.mono ?_
  rintro e w' ⟨rfl, rfl⟩
  go_wp2
  have b5 : Blk ((((((Z.setCell ⟨w.heap.size, 0, none⟩ (.int .u64 0)).setCell ⟨w.heap.size, 1, none⟩ (.int .i64 0)).setCell ⟨w.heap.size, 2, none⟩ (.int .i64 0)).setCell ⟨w.heap.size, 3, none⟩ (.int .i64 0)).setCell ⟨w.heap.size, 4, none⟩ (.int .i64 0)).setCell ⟨w.heap.size, 5, none⟩ (.int .i64 0)) w.heap.size 24 zeroC := (((((HZ0.out.set 0 _).set 1 _).set 2 _).set 3 _).set 4 _).set 5 _
  have h5 := ((((((Chg.refl (fun i => i = w.heap.size) Z).set (p := ⟨w.heap.size, 0, none⟩) (.inl rfl) (.int .u64 0)).set (p := ⟨w.heap.size, 1, none⟩) (.inl rfl) (.int .i64 0)).set (p := ⟨w.heap.size, 2, none⟩) (.inl rfl) (.int .i64 0)).set (p := ⟨w.heap.size, 3, none⟩) (.inl rfl) (.int .i64 0)).set (p := ⟨w.heap.size, 4, none⟩) (.inl rfl) (.int .i64 0)).set (p := ⟨w.heap.size, 5, none⟩) (.inl rfl) (.int .i64 0)
  obtain ⟨w5, HW5⟩ : ∃ w5, Hid (((((((Z.setCell ⟨w.heap.size, 0, none⟩ (.int .u64 0)).setCell ⟨w.heap.size, 1, none⟩ (.int .i64 0)).setCell ⟨w.heap.size, 2, none⟩ (.int .i64 0)).setCell ⟨w.heap.size, 3, none⟩ (.int .i64 0)).setCell ⟨w.heap.size, 4, none⟩ (.int .i64 0)).setCell ⟨w.heap.size, 5, none⟩ (.int .i64 0)) = w5) := ⟨_, rfl⟩
  rw [HW5.out] at b5 h5 ⊢
  have e0 : w5.cell? ⟨w.heap.size, 0, none⟩ = some (.int .u64 0) := b5.cell 0 rfl
  have e1 : w5.cell? ⟨w.heap.size, 1, none⟩ = some (.int .i64 0) := b5.cell 1 rfl
  have e2 : w5.cell? ⟨w.heap.size, 2, none⟩ = some (.int .i64 0) := b5.cell 2 rfl
  have e3 : w5.cell? ⟨w.heap.size, 3, none⟩ = some (.int .i64 0) := b5.cell 3 rfl
  have e4 : w5.cell? ⟨w.heap.size, 4, none⟩ = some (.int .i64 0) := b5.cell 4 rfl
  have e5 : w5.cell? ⟨w.heap.size, 5, none⟩ = some (.int .i64 0) := b5.cell 5 rfl
  exact bodyPost_ret (v := .agg zeroC) (by simp [zeroC, results, Try.results15, go_sem, e0, e1, e2, e3, e4, e5]) rfl ⟨rfl, h5.below HL.out HL.out.size (fun x hx => by omega)⟩

/-! The document's rows. -/
set_option maxHeartbeats 1000000 in
theorem rrow_any (c : Cfg) {dim : Nat} (hd : c.dim = dim) (hd1 : dim ≤ 1000) (t r : Nat) (ht : t ≤ 1000) (hr : r ≤ 1000) :
    Calls Try.prog 26 #[.agg (cf c), .int .i64 t, .int .i64 r] w (Cloned w dim (wrow (tseed c t) dim r)) := by
  have HWT : ∀ (w : World) (j : Nat) (hj : j ≤ 1000), Hid (Calls Try.prog 31 #[.int .u64 (U c.seed), .int .i64 t, .int .i64 r, .int .i64 j] w fun e w' => e = .returned (.int .i64 (Wt (tseed c t) r j)) ∧ ∃ m, w' = (w.alloc (.cells #[.int .u64 (t : Int)] 22)).drewN m) :=
    fun w j hj => Lib.hid (rweight_any c.seed t r j ht hr hj)
  have b0 := Blk.new w (cf c) 24
  have l0 := (Below.refl w.heap.size w).alloc (Nat.le_refl _) (.cells (cf c) 24)
  obtain ⟨W, HW⟩ : ∃ W, Hid (w.alloc (.cells (cf c) 24) = W) := ⟨_, rfl⟩
  rw [HW.out] at b0 l0
  obtain ⟨u, HU⟩ : ∃ u, Hid (U c.seed = u) := ⟨_, rfl⟩
  simp only [HU.out] at HWT
  have HC : Hid (cf c = #[.int .u64 u, .int .i64 c.vocab, .int .i64 dim, .int .i64 c.layers, .int .i64 c.top, .int .i64 c.heat]) := Lib.hid (by unfold cf; rw [HU.out, hd])
  have HW' := HW.out
  rw [HC.out] at HW' b0 ⊢
  have HB0 := Lib.hid b0
  have HL0 := Lib.hid l0
  clear b0 l0 HW hd
  have d0 : (0 : Int) ≤ (dim : Int) := by omega
  have d1 : (dim : Int) ≤ 1000 := by omega
  go_enter Try.func26, Try.ntmps26
  go_wp2_with fail
  go_loopw [8, 7] (fun i v wr => ∃ (j : Nat) (a : Option Addr) (k : Nat), j ≤ dim ∧ i = .int .i64 j ∧ v = .slice a j k ∧ Hid (Blk wr w.heap.size 24 #[.int .u64 u, .int .i64 c.vocab, .int .i64 dim, .int .i64 c.layers, .int .i64 c.top, .int .i64 c.heat]) ∧ Hid (Own wr w.heap.size 2 1 a j k (ints ((wrow (tseed c t) dim r).take j))) ∧ Hid (Below w.heap.size w wr)) (fun i _ _ => dim - (intOf i).toNat)
  case atStart => exact ⟨0, none, 0, Nat.zero_le _, rfl, rfl, HB0, Lib.hid (by simpa [ints] using Own.none_ _ _ _ _), HL0⟩
  case round =>
    obtain ⟨j, a, k, hj, rfl, rfl, HB, HO, HL⟩ := hrel
    have q0 : wr.cell? ⟨w.heap.size, 0, none⟩ = some (.int .u64 u) := HB.out.cell 0 rfl
    have q2 : wr.cell? ⟨w.heap.size, 2, none⟩ = some (.int .i64 dim) := HB.out.cell 2 rfl
    by_cases hjl : j < dim
    · have j0 : (0 : Int) ≤ (j : Int) := by omega
      have j1 : (j : Int) < (dim : Int) := by omega
      have HWJ := fun w => HWT w j (by omega)
      go_wp2_with fail
      refine (HWJ _).out.mono ?_
      rintro e w5 ⟨rfl, m, rfl⟩
      have hwz : w.heap.size ≤ wr.heap.size := HL.out.size
      have hch := ((Chg.refl (fun _ => False) wr).alloc (.cells #[.int .u64 (t : Int)] 22)).drewN m
      have hs5 : ((wr.alloc (.cells #[.int .u64 (t : Int)] 22)).drewN m).heap.size = wr.heap.size + 1 := by simp
      obtain ⟨w5, HW5⟩ : ∃ w5, Hid ((wr.alloc (.cells #[.int .u64 (t : Int)] 22)).drewN m = w5) := ⟨_, rfl⟩
      rw [HW5.out] at hch hs5 ⊢
      have HCH := Lib.hid hch
      have HCZ := Lib.hid (hch.alloc (.cells #[.int .i64 (Wt (tseed c t) r j)] 2))
      have HOZ := Lib.hid (HO.out.chg HCZ.out (fun _ _ => id))
      have HRZ := Lib.hid (rd_new w5 (.int .i64 (Wt (tseed c t) r j)) 2)
      rw [hs5] at HRZ
      have H1C := Lib.hid (show ∀ u ∈ [Value.int .i64 (Wt (tseed c t) r j)], u.oneCell' = true by simp [Value.oneCell'])
      clear hch q0 q2
      go_wp2_with (at_builtin; refine wpList_app ints32 (by omega) rfl (.tmp 15) (.tmp 22) rfl (B := w.heap.size) (by rfl) HOZ.out (by rfl) HRZ.out H1C.out (by omega) (by omega) (by simp; omega) ?_; intro a' k' w' hown hg hat)
      go_roundw
      case rel =>
        have hca := HCZ.out.trans (Chg.refl (fun _ => False) _)
        have hcg := (HCZ.out.mono (T := fun x => ob a = some x) (fun _ _ h => h.elim)).trans (Chg.of_grown' hg)
        have ho' := hown
        rw [show ints ((wrow (tseed c t) dim r).take j) ++ [Value.int .i64 (Wt (tseed c t) r j)] = ints ((wrow (tseed c t) dim r).take (j + 1)) by rw [wrow_snoc _ hjl, ← ints_append]; rfl] at ho'
        exact ⟨j + 1, a', k', by omega, by go_num, rfl, Lib.hid (hcg.blk HB.out (HO.out.ne HB.out (by decide))), Lib.hid ho', Lib.hid (hcg.below HL.out hwz (fun x hx => (HO.out.lt x hx).1))⟩
      case measure => simp [intOf]; omega
    · have hje : j = dim := by omega
      subst hje
      go_wp2
      go_ret
      have := HO.out
      rw [List.take_of_length_le (by rw [wrow_len]; exact Nat.le_refl _)] at this
      exact ⟨a, k, rfl, this, HL.out⟩

theorem want_yes (c : Cfg) (dim rows t : Nat) {r : Nat} (h : r < rows) : want c dim rows t (r : Int) = frow c dim t r := by
  unfold want
  rw [if_pos (by omega), Int.toNat_natCast]
theorem want_no (c : Cfg) (dim rows t : Nat) {r : Int} (h : ¬ (0 ≤ r ∧ r < rows)) : want c dim rows t r = [] := if_neg h
theorem cloned_nil (w0 w : World) (h : Below w0.heap.size w0 w) : Cloned w0 0 [] (.returned (.slice none 0 0)) w := ⟨none, 0, rfl, Own.none_ _ _ _ _, h⟩

theorem rtoken_any {c : Cfg} {vocab dim layers : Nat} (hN : Nats c vocab dim layers) (r : Int) :
    Calls Try.prog 16 #[.agg (cf c), .int .i64 r] w (Cloned w (want c dim vocab 0 r).length (want c dim vocab 0 r)) := by
  have hv1 := hN.v1
  have hv0 := hN.v0
  have hdm := hN.d1
  have b0 := Blk.new w (cf c) 24
  have l0 := (Below.refl w.heap.size w).alloc (Nat.le_refl _) (.cells (cf c) 24)
  obtain ⟨u, HU⟩ : ∃ u, Hid (U c.seed = u) := ⟨_, rfl⟩
  have HC : Hid (cf c = #[.int .u64 u, .int .i64 vocab, .int .i64 c.dim, .int .i64 c.layers, .int .i64 c.top, .int .i64 c.heat]) := Lib.hid (by unfold cf; rw [HU.out, hN.ev])
  have HR : ∀ (w : World) (r : Nat) (hr : r ≤ 1000), Hid (Calls Try.prog 26 #[.agg (cf c), .int .i64 0, .int .i64 r] w (Cloned w dim (wrow (tseed c 0) dim r))) := fun w r hr => Lib.hid (rrow_any c hN.ed (by omega) 0 r (by omega) hr)
  obtain ⟨W, HW⟩ : ∃ W, Hid (w.alloc (.cells (cf c) 24) = W) := ⟨_, rfl⟩
  rw [HW.out] at b0 l0
  have HW' := HW.out
  rw [HC.out] at HW' b0 ⊢
  simp only [HC.out] at HR
  have q0 : W.cell? ⟨w.heap.size, 0, none⟩ = some (.int .u64 u) := b0.cell 0 rfl
  have q1 : W.cell? ⟨w.heap.size, 1, none⟩ = some (.int .i64 vocab) := b0.cell 1 rfl
  have q2 : W.cell? ⟨w.heap.size, 2, none⟩ = some (.int .i64 c.dim) := b0.cell 2 rfl
  have q3 : W.cell? ⟨w.heap.size, 3, none⟩ = some (.int .i64 c.layers) := b0.cell 3 rfl
  have q4 : W.cell? ⟨w.heap.size, 4, none⟩ = some (.int .i64 c.top) := b0.cell 4 rfl
  have q5 : W.cell? ⟨w.heap.size, 5, none⟩ = some (.int .i64 c.heat) := b0.cell 5 rfl
  have HL0 := Lib.hid l0
  clear b0 l0 HW hN
  by_cases hr : 0 ≤ r ∧ r < vocab
  · obtain ⟨r, rfl⟩ : ∃ q : Nat, r = q := ⟨r.toNat, by omega⟩
    rw [want_yes c dim vocab 0 (by omega), frow_len]
    have r0 : (0 : Int) ≤ (r : Int) := by omega
    have r1 : (r : Int) < (vocab : Int) := by omega
    have HRR := HR W r (by omega)
    clear HR hr
    go_enter Try.func16, Try.ntmps16
    go_wp2_with fail
    refine HRR.out.mono ?_
    rintro e w' ⟨a', c', rfl, ho, hb⟩
    have HO := Lib.hid (ho.lower HL0.out.size)
    have HB := Lib.hid (HL0.out.trans (hb.mono HL0.out.size))
    clear ho hb
    go_wp2
    go_ret
    exact ⟨a', c', rfl, HO.out, HB.out⟩
  · rw [want_no c dim vocab 0 hr]
    by_cases h0 : r < 0
    · clear hr HR
      go_enter Try.func16, Try.ntmps16
      go_wp2
      go_ret
      exact cloned_nil w W HL0.out
    · have h1 : (vocab : Int) ≤ r := by omega
      have h2 : 0 ≤ r := by omega
      clear hr HR h0
      go_enter Try.func16, Try.ntmps16
      go_wp2
      go_ret
      exact cloned_nil w W HL0.out

set_option maxRecDepth 20000 in
set_option maxHeartbeats 1000000 in
theorem rplace_any {c : Cfg} {vocab dim layers : Nat} (hN : Nats c vocab dim layers) (r : Int) :
    Calls Try.prog 17 #[.agg (cf c), .int .i64 r] w (Cloned w (want c dim 256 1 r).length (want c dim 256 1 r)) := by
  have hd0 := hN.d0
  have hdm := hN.d1
  have b0 := Blk.new w (cf c) 24
  have l0 := (Below.refl w.heap.size w).alloc (Nat.le_refl _) (.cells (cf c) 24)
  obtain ⟨u, HU⟩ : ∃ u, Hid (U c.seed = u) := ⟨_, rfl⟩
  have HC : Hid (cf c = #[.int .u64 u, .int .i64 c.vocab, .int .i64 c.dim, .int .i64 c.layers, .int .i64 c.top, .int .i64 c.heat]) := Lib.hid (by unfold cf; rw [HU.out])
  have HR : ∀ (w : World) (r : Nat) (hr : r ≤ 1000), Hid (Calls Try.prog 26 #[.agg (cf c), .int .i64 1, .int .i64 r] w (Cloned w dim (wrow (tseed c 1) dim r))) := fun w r hr => Lib.hid (rrow_any c hN.ed (by omega) 1 r (by omega) hr)
  obtain ⟨W, HW⟩ : ∃ W, Hid (w.alloc (.cells (cf c) 24) = W) := ⟨_, rfl⟩
  rw [HW.out] at b0 l0
  have HW' := HW.out
  rw [HC.out] at HW' b0 ⊢
  simp only [HC.out] at HR
  have q0 : W.cell? ⟨w.heap.size, 0, none⟩ = some (.int .u64 u) := b0.cell 0 rfl
  have q1 : W.cell? ⟨w.heap.size, 1, none⟩ = some (.int .i64 c.vocab) := b0.cell 1 rfl
  have q2 : W.cell? ⟨w.heap.size, 2, none⟩ = some (.int .i64 c.dim) := b0.cell 2 rfl
  have q3 : W.cell? ⟨w.heap.size, 3, none⟩ = some (.int .i64 c.layers) := b0.cell 3 rfl
  have q4 : W.cell? ⟨w.heap.size, 4, none⟩ = some (.int .i64 c.top) := b0.cell 4 rfl
  have q5 : W.cell? ⟨w.heap.size, 5, none⟩ = some (.int .i64 c.heat) := b0.cell 5 rfl
  have HL0 := Lib.hid l0
  clear b0 l0 HW hN
  by_cases hr : 0 ≤ r ∧ r < 256
  · obtain ⟨r, rfl⟩ : ∃ q : Nat, r = q := ⟨r.toNat, by omega⟩
    rw [want_yes c dim 256 1 (by omega), frow_len]
    have r0 : (0 : Int) ≤ (r : Int) := by omega
    have r1 : (r : Int) < 256 := by omega
    have HRR := HR W r (by omega)
    clear HR hr
    go_enter Try.func17, Try.ntmps17
    go_wp2_with fail
    refine HRR.out.mono ?_
    rintro e w1 ⟨a1, c1, rfl, ho, hb⟩
    obtain ⟨gr, rfl⟩ : ∃ gr, a1 = some ⟨gr, 0, none⟩ := by
      obtain ⟨_, ⟨_, h, _⟩ | ⟨gr, cur, h, _⟩⟩ := ho.form
      · exact absurd h (by omega)
      · exact ⟨gr, h⟩
    have HO := Lib.hid (ho.lower HL0.out.size)
    have HB := Lib.hid (HL0.out.trans (hb.mono HL0.out.size))
    clear ho hb q0 q1 q2 q3 q4 q5
    go_wp2_with fail
    go_loopw [6] (fun i wr => ∃ j : Nat, j ≤ dim ∧ i = .int .i64 j ∧ Hid (Own wr w.heap.size 2 1 (some ⟨gr, 0, none⟩) dim c1 (ints (((wrow (tseed c 1) dim r).take j).map qtr ++ (wrow (tseed c 1) dim r).drop j))) ∧ Hid (Below w.heap.size w wr)) (fun i _ => dim - (intOf i).toNat)
    case atStart => exact ⟨0, Nat.zero_le _, rfl, by simpa using HO, HB⟩
    case round =>
      obtain ⟨j, hj, rfl, HO4, HB4⟩ := hrel
      by_cases hjl : j < dim
      · have j0 : (0 : Int) ≤ (j : Int) := by omega
        have j1 : (j : Int) < (dim : Int) := by omega
        have hx := cut_get (f := qtr) (wrow_get (tseed c 1) (k := r) hjl)
        have hrow := HO4.out
        have cj : wr.cell? ⟨gr, j, none⟩ = some (.int .i64 (Wt (tseed c 1) r j)) := by
          have := hrow.row.cells (g := gr) rfl j (.int .i64 (Wt (tseed c 1) r j)) (by simp only [ints, List.getElem?_map, hx, Option.map_some])
          rw [Go.WideShapes.add_plain, Nat.zero_add] at this
          exact this
        have fj : wr.frozen? ⟨gr, j, none⟩ = false := by
          obtain ⟨_, ⟨h, _⟩ | ⟨g', cur, h, _, hh, _⟩⟩ := hrow.form
          · cases h
          · injection h with h
            injection h with h
            subst h
            exact (show Blk wr gr 2 cur from hh).frozen j
        have x0 := Wt_lo (tseed c 1) r j
        have x1 := Wt_hi (tseed c 1) r j
        have T := Lib.hid (fun w => rmul_any (w := w) x0 x1)
        have hst := own_set hrow j (.int .i64 (qtr (Wt (tseed c 1) r j)))
        rw [ints_set, cut_set (f := qtr) (wrow_get (tseed c 1) (k := r) hjl)] at hst
        have HST := Lib.hid hst
        have hlt := (hrow.lt gr rfl).1
        have HC5 := Lib.hid ((Chg.refl (fun x => x = gr) wr).set (p := ⟨gr, j, none⟩) (.inl rfl) (.int .i64 (qtr (Wt (tseed c 1) r j))))
        clear hrow hx hst x0 x1
        obtain ⟨x, HX⟩ : ∃ x, Hid (Wt (tseed c 1) r j = x) := ⟨_, rfl⟩
        rw [HX.out] at T cj HST HC5
        go_wp2_with fail
        refine (T.out _).mono ?_
        rintro e w5 ⟨rfl, rfl⟩
        go_wp2
        go_roundw
        case rel => exact ⟨j + 1, by omega, by go_num, HST, Lib.hid (HC5.out.below HB4.out HB4.out.size (fun x hx => by omega))⟩
        case measure => simp [intOf]; omega
      · have hje : j = dim := by omega
        subst hje
        go_wp2
        go_ret
        have := HO4.out
        rw [List.take_of_length_le (by rw [wrow_len]; exact Nat.le_refl _), List.drop_of_length_le (by rw [wrow_len]; exact Nat.le_refl _), List.append_nil] at this
        exact ⟨_, c1, rfl, by show Own _ _ _ _ _ _ _ (ints (if 1 = 1 then _ else _)); rw [if_pos rfl]; exact this, HB4.out⟩
  · rw [want_no c dim 256 1 hr]
    by_cases h0 : r < 0
    · clear hr HR
      go_enter Try.func17, Try.ntmps17
      go_wp2
      go_ret
      exact cloned_nil w W HL0.out
    · have h1 : (256 : Int) ≤ r := by omega
      have h2 : 0 ≤ r := by omega
      clear hr HR h0
      go_enter Try.func17, Try.ntmps17
      go_wp2
      go_ret
      exact cloned_nil w W HL0.out
end
end Go.Proofs.Ytpcanolanhdfeaa.MdF
