/-
  ModelParts: a lesser Vocab, fewer layers, another Top or Heat turn no row that is there.
-/
import Derived.Test.YtpcanolanhdfeaaMdL
namespace Go.Proofs.Ytpcanolanhdfeaa.MdP
open Go.RowKit Go.Proofs.Ytpcanolanhdfeaa.Kit Go.Proofs.Ytpcanolanhdfeaa.Math Go.Proofs.Ytpcanolanhdfeaa.MdR Go.Proofs.Ytpcanolanhdfeaa.MdW Go.Proofs.Ytpcanolanhdfeaa.MdT Go.Proofs.Ytpcanolanhdfeaa.MdM Go.Proofs.Ytpcanolanhdfeaa.MdN Go.Proofs.Ytpcanolanhdfeaa.MdV Go.Proofs.Ytpcanolanhdfeaa.MdL
attribute [local go_sem high] max_imax min_imin
attribute [local go_sem ↓] Go.wp_at_zero Go.wp_at_succ
set_option linter.unusedVariables false
set_option linter.unusedSimpArgs false

theorem rd_on {w w' : World} {a : Option Addr} {m c : Nat} {xs : List Value} (h : Rd w 1 a m c xs) (hb : Below w.heap.size w w') : Rd w' 1 a m c xs := h.below hb (fun hm k hk => h.lt (by omega) hm k hk)

/-! The readers, in any world that has grown out of the one in which the model was made. -/
section
variable {W : World} {B g : Nat} {c : Cfg} {vocab dim layers : Nat} {a : Option Addr} {n k : Nat} {T : List (Nat × Nat)}
/-- A list that is told. -/
def Told (W w : World) (l : List Int) (e : Ending) (w' : World) : Prop := ∃ a c, e = .returned (.slice a l.length c) ∧ Rd w' 1 a l.length c (ints l) ∧ Hid (Below W.heap.size W w') ∧ Below w.heap.size w w'
theorem told_of {w : World} {l : List Int} {e : Ending} {w' : World} (hb : Hid (Below W.heap.size W w)) (h : Cloned w l.length l e w') : Told W w l e w' := by
  obtain ⟨a, c, rfl, ho, hb'⟩ := h
  exact ⟨a, c, rfl, ho.rd, Lib.hid (hb.out.trans (hb'.mono hb.out.size)), hb'⟩
theorem token_in (h : Mo W B g c vocab dim (2 + 6 * layers) a n k T) (hN : Nats c vocab dim layers) (r : Int) {w : World} (hb : Hid (Below W.heap.size W w)) :
    Calls Try.prog 9 #[.pointer (some ⟨g, 0, none⟩), .int .i64 r] w (Told W w (want c dim vocab 0 r)) := by
  have := hN.v1; have := hN.d1; have := hN.l1
  exact (token_any (h.below hb.out) (by omega) (by omega) (by omega) (by omega) r).mono fun e w' h => told_of hb h
theorem place_in (h : Mo W B g c vocab dim (2 + 6 * layers) a n k T) (hN : Nats c vocab dim layers) (r : Int) {w : World} (hb : Hid (Below W.heap.size W w)) :
    Calls Try.prog 12 #[.pointer (some ⟨g, 0, none⟩), .int .i64 r] w (Told W w (want c dim 256 1 r)) := by
  have := hN.v1; have := hN.d1; have := hN.l1
  exact (place_any (h.below hb.out) (by omega) (by omega) (by omega) (by omega) r).mono fun e w' h => told_of hb h
/-- A table that is told. -/
def TolT (W w : World) (m dim : Nat) (f : Nat → List Int) (e : Ending) (w' : World) : Prop := ∃ a c, e = .returned (.slice a m c) ∧ Tl w' m dim f a c ∧ Hid (Below W.heap.size W w') ∧ Below w.heap.size w w'
theorem tolT_of {w : World} {m dim : Nat} {f : Nat → List Int} {e : Ending} {w' : World} (hb : Hid (Below W.heap.size W w)) (h : RowsR w m dim f e w') : TolT W w m dim f e w' := by
  obtain ⟨a, c, L, rfl, h1, h2, h3, hb'⟩ := h
  exact ⟨a, c, rfl, ⟨_, L, h1, h2, h3⟩, Lib.hid (hb.out.trans (hb'.mono hb.out.size)), hb'⟩
theorem rows_in (h : Mo W B g c vocab dim (2 + 6 * layers) a n k T) (hN : Nats c vocab dim layers) (ly wh : Int) {w : World} (hb : Hid (Below W.heap.size W w)) :
    Calls Try.prog 11 #[.pointer (some ⟨g, 0, none⟩), .int .i64 ly, .int .i64 wh] w (TolT W w (rowsN layers dim ly wh) dim (rowsF c dim ly wh)) := by
  have := hN.v1; have := hN.d1; have := hN.l1
  exact (rows_any (h.below hb.out) hN.el rfl (by omega) (by omega) (by omega) ly wh).mono fun e w' h => tolT_of hb h
theorem same_in {w : World} (hb : Hid (Below W.heap.size W w)) {a b : Option Addr} {n c d : Nat} {l : List Int} (h1 : Hid (Rd w 1 a n c (ints l))) (h2 : Hid (Rd w 1 b n d (ints l))) :
    Calls Try.prog 8 #[.slice a n c, .slice b n d] w fun e w' => e = .returned (.bool true) ∧ Hid (Below W.heap.size W w') :=
  (same_yes h1.out h2.out).mono fun e w' ⟨he, m, hw⟩ => ⟨he, by subst hw; exact Lib.hid (below_drewN hb.out m)⟩
theorem rows_same_in {w : World} (hb : Hid (Below W.heap.size W w)) {a b : Option Addr} {n dim c d : Nat} {f : Nat → List Int} (h1 : Hid (Tl w n dim f a c)) (h2 : Hid (Tl w n dim f b d)) :
    Calls Try.prog 10 #[.slice a n c, .slice b n d] w fun e w' => e = .returned (.bool true) ∧ Hid (Below W.heap.size W w') :=
  (rows_same h1.out h2.out).mono fun e w' ⟨he, m, hw⟩ => ⟨he, by subst hw; exact Lib.hid (below_drewN hb.out m)⟩
theorem alive_in {w : World} (hb : Hid (Below W.heap.size W w)) : Calls Try.prog 7 #[] w fun e w' => e = .returned (.bool true) ∧ Hid (Below W.heap.size W w') :=
  alive_any.mono fun e w' ⟨he, hb'⟩ => ⟨he, Lib.hid (hb.out.trans (hb'.mono hb.out.size))⟩
end

section
variable {w : World}
theorem frow_seed {c d : Cfg} (h : d.seed = c.seed) (dim t : Nat) : frow d dim t = frow c dim t := by
  funext r
  unfold frow tseed
  rw [h]
theorem want_eq {c d : Cfg} (h : d.seed = c.seed) (dim v1 v2 : Nat) {r : Int} (h1 : r < v1) (h2 : r < v2) (t : Nat) : want d dim v2 t r = want c dim v1 t r := by
  unfold want
  rw [frow_seed h]
  by_cases h0 : 0 ≤ r
  · rw [if_pos ⟨h0, h2⟩, if_pos ⟨h0, h1⟩]
  · rw [if_neg (fun h => h0 h.1), if_neg (fun h => h0 h.1)]
theorem rowsN_eq (dim : Nat) {l1 l2 : Nat} {ly : Int} (wh : Int) (h1 : ly < l1) (h2 : ly < l2) : rowsN l2 dim ly wh = rowsN l1 dim ly wh := by
  unfold rowsN
  by_cases h0 : 0 ≤ ly ∧ 0 ≤ wh ∧ wh ≤ 5
  · rw [if_pos ⟨h0.1, h2, h0.2⟩, if_pos ⟨h0.1, h1, h0.2⟩]
  · rw [if_neg (fun h => h0 ⟨h.1, h.2.2⟩), if_neg (fun h => h0 ⟨h.1, h.2.2⟩)]

/-- What New answers. -/
def NewR (w : World) (c : Cfg) (e : Ending) (w' : World) : Prop := Below w.heap.size w w' ∧ ∃ p er, e = .returned (.tuple #[.pointer p, .int .i64 er]) ∧
  ((er = 1 ∧ mayB c = false ∧ p = none) ∨ (er = 0 ∧ mayB c = true ∧ ∃ g vocab dim layers a n k T, p = some ⟨g, 0, none⟩ ∧ Nats c vocab dim layers ∧ Mo w' w.heap.size g c vocab dim (2 + 6 * layers) a n k T))
theorem new_any (c : Cfg) : Calls Try.prog 6 #[.agg (cf c)] w (NewR w c) := by
  cases h : mayB c with
  | false =>
    refine (new_no c h).mono ?_
    rintro e w' ⟨rfl, hb⟩
    exact ⟨hb, _, _, rfl, .inl ⟨rfl, h, rfl⟩⟩
  | true =>
    obtain ⟨vocab, dim, layers, hN⟩ := nats_of h
    refine (new_yes c h hN).mono ?_
    rintro e w' ⟨g, a, n, k, T, rfl, hm, hb⟩
    exact ⟨hb, _, _, rfl, .inr ⟨rfl, h, g, vocab, dim, layers, a, n, k, T, rfl, hN, hm⟩⟩

set_option maxHeartbeats 4000000 in
theorem law_any (c d : Cfg) (x y : Int) : Calls Try.prog 3 #[.agg (cf c), .agg (cf d), .agg #[.int .i64 x, .int .i64 y]] w fun e w' => e = .returned (.bool true) ∧ Below w.heap.size w w' := by
  obtain ⟨d', HD⟩ : ∃ d' : Cfg, Hid (({ d with seed := c.seed, dim := c.dim } : Cfg) = d') := ⟨_, rfl⟩
  have HC : Hid (cf c = #[.int .u64 (U c.seed), .int .i64 c.vocab, .int .i64 c.dim, .int .i64 c.layers, .int .i64 c.top, .int .i64 c.heat]) := Lib.hid rfl
  have HD' : Hid (cf d' = #[.int .u64 (U c.seed), .int .i64 d.vocab, .int .i64 c.dim, .int .i64 d.layers, .int .i64 d.top, .int .i64 d.heat]) := Lib.hid (by rw [← HD.out]; rfl)
  have HD0 : Hid (cf d = #[.int .u64 (U d.seed), .int .i64 d.vocab, .int .i64 d.dim, .int .i64 d.layers, .int .i64 d.top, .int .i64 d.heat]) := Lib.hid rfl
  have hsd : d'.seed = c.seed := by rw [← HD.out]
  have hdd : d'.dim = c.dim := by rw [← HD.out]
  have hdv : d'.vocab = d.vocab := by rw [← HD.out]
  have hdl : d'.layers = d.layers := by rw [← HD.out]
  have HSD := Lib.hid hsd
  have HDD := Lib.hid hdd
  have HDV := Lib.hid hdv
  have HDL := Lib.hid hdl
  clear hsd hdd hdv hdl
  obtain ⟨u, HU⟩ : ∃ x, Hid (U c.seed = x) := ⟨_, rfl⟩
  obtain ⟨u', HU'⟩ : ∃ x, Hid (U d.seed = x) := ⟨_, rfl⟩
  rw [HU.out] at HC HD'
  rw [HU'.out] at HD0
  have B0 : Blk (((w.alloc (.cells (cf c) 24)).alloc (.cells (cf d) 24)).alloc (.cells #[.int .i64 x, .int .i64 y] 25)) w.heap.size 24 (cf c) := ((Blk.new w (cf c) 24).alloc _).alloc _
  have B1 : Blk (((w.alloc (.cells (cf c) 24)).alloc (.cells (cf d) 24)).alloc (.cells #[.int .i64 x, .int .i64 y] 25)) (w.heap.size + 1) 24 (cf d) := by
    have := (Blk.new (w.alloc (.cells (cf c) 24)) (cf d) 24).alloc (.cells #[.int .i64 x, .int .i64 y] 25)
    simpa using this
  have B2 : Blk (((w.alloc (.cells (cf c) 24)).alloc (.cells (cf d) 24)).alloc (.cells #[.int .i64 x, .int .i64 y] 25)) (w.heap.size + 1 + 1) 25 #[.int .i64 x, .int .i64 y] := by
    have := Blk.new ((w.alloc (.cells (cf c) 24)).alloc (.cells (cf d) 24)) #[.int .i64 x, .int .i64 y] 25
    simpa using this
  have L0 : Below w.heap.size w (((w.alloc (.cells (cf c) 24)).alloc (.cells (cf d) 24)).alloc (.cells #[.int .i64 x, .int .i64 y] 25)) := (((Below.refl _ w).alloc (Nat.le_refl _) _).alloc (by simp) _).alloc (by simp; omega) _
  obtain ⟨W, HW⟩ : ∃ W, Hid (((w.alloc (.cells (cf c) 24)).alloc (.cells (cf d) 24)).alloc (.cells #[.int .i64 x, .int .i64 y] 25) = W) := ⟨_, rfl⟩
  rw [HW.out] at B0 B1 B2 L0
  have HW2 := HW.out
  rw [HC.out, HD0.out] at HW2
  obtain ⟨g1, HG1⟩ : ∃ g1, Hid (w.heap.size + 1 = g1) := ⟨_, rfl⟩
  obtain ⟨g2, HG2⟩ : ∃ g2, Hid (w.heap.size + 1 + 1 = g2) := ⟨_, rfl⟩
  have h01 : w.heap.size < g1 := by have := HG1.out; omega
  have h12 : g1 < g2 := by have := HG1.out; have := HG2.out; omega
  rw [HG1.out] at B1
  rw [HG2.out] at B2
  rw [HC.out] at B0 ⊢
  rw [HD0.out] at B1 ⊢
  have s0 : W.cell? ⟨w.heap.size, 0, none⟩ = some (.int .u64 u) := B0.cell 0 rfl
  have s2 : W.cell? ⟨w.heap.size, 2, none⟩ = some (.int .i64 c.dim) := B0.cell 2 rfl
  have d0 : W.cell? ⟨g1, 0, none⟩ = some (.int .u64 u') := B1.cell 0 rfl
  have d2 : W.cell? ⟨g1, 2, none⟩ = some (.int .i64 d.dim) := B1.cell 2 rfl
  have f0 := B1.frozen 0
  have f2 := B1.frozen 2
  have HB0 := Lib.hid B0
  have HB1 := Lib.hid B1
  have HB2 := Lib.hid B2
  have HL0 := Lib.hid L0
  clear HW B0 B1 B2 L0
  go_enter Try.func3, Try.ntmps3
  go_upto_region 1 with (fail)
  rw [HG2.out, HG1.out]
  go_cut [] from 11 to 16 (fun wx => Hid (Blk wx w.heap.size 24 (cf c)) ∧ Hid (Blk wx g1 24 (cf d')) ∧ Hid (Blk wx g2 25 #[.int .i64 x, .int .i64 y]) ∧ Hid (Below w.heap.size w wx))
  case first =>
    have c1 := (Chg.refl (fun i => i = g1) W).drew
    have K1 := Lib.hid ((c1.set (p := ⟨g1, 0, none⟩) (.inl rfl) (.int .u64 u)).set (p := ⟨g1, 2, none⟩) (.inl rfl) (.int .i64 c.dim))
    have K2 := Lib.hid ((c1.set (p := ⟨g1, 2, none⟩) (.inl rfl) (.int .i64 c.dim)).set (p := ⟨g1, 0, none⟩) (.inl rfl) (.int .u64 u))
    have b1 := HB1.out.drew
    have X1 : Hid (Blk ((W.drew.setCell ⟨g1, 0, none⟩ (.int .u64 u)).setCell ⟨g1, 2, none⟩ (.int .i64 c.dim)) g1 24 (cf d')) := by rw [HD'.out]; exact (b1.set 0 (.int .u64 u)).set 2 (.int .i64 c.dim)
    have X2 : Hid (Blk ((W.drew.setCell ⟨g1, 2, none⟩ (.int .i64 c.dim)).setCell ⟨g1, 0, none⟩ (.int .u64 u)) g1 24 (cf d')) := by rw [HD'.out]; exact (b1.set 2 (.int .i64 c.dim)).set 0 (.int .u64 u)
    clear c1 b1
    go_region
    all_goals go_wp2
    all_goals go_meet
    all_goals first
      | exact ⟨Lib.hid (by rw [HC.out]; exact K1.out.blk HB0.out (by show ¬ w.heap.size = g1; omega)), X1, Lib.hid (K1.out.blk HB2.out (by show ¬ g2 = g1; omega)), Lib.hid (K1.out.below HL0.out HL0.out.size (fun i hi => by omega))⟩
      | exact ⟨Lib.hid (by rw [HC.out]; exact K2.out.blk HB0.out (by show ¬ w.heap.size = g1; omega)), X2, Lib.hid (K2.out.blk HB2.out (by show ¬ g2 = g1; omega)), Lib.hid (K2.out.below HL0.out HL0.out.size (fun i hi => by omega))⟩
  case rest =>
    obtain ⟨HE0, HE1, HE2, HEL⟩ := hcut
    have TN1 := fun w => Lib.hid (new_any (w := w) c)
    have TN2 := fun w => Lib.hid (new_any (w := w) d')
    have HE0' := HE0.out
    have HE1' := HE1.out
    rw [HC.out] at HE0'
    rw [HD'.out] at HE1'
    have t0 : wc.cell? ⟨w.heap.size, 0, none⟩ = some (.int .u64 u) := HE0'.cell 0 rfl
    have t1 : wc.cell? ⟨w.heap.size, 1, none⟩ = some (.int .i64 c.vocab) := HE0'.cell 1 rfl
    have t2 : wc.cell? ⟨w.heap.size, 2, none⟩ = some (.int .i64 c.dim) := HE0'.cell 2 rfl
    have t3 : wc.cell? ⟨w.heap.size, 3, none⟩ = some (.int .i64 c.layers) := HE0'.cell 3 rfl
    have t4 : wc.cell? ⟨w.heap.size, 4, none⟩ = some (.int .i64 c.top) := HE0'.cell 4 rfl
    have t5 : wc.cell? ⟨w.heap.size, 5, none⟩ = some (.int .i64 c.heat) := HE0'.cell 5 rfl
    clear HE0' HE1' s0 s2 d0 d2 f0 f2 HB0 HB1 HB2 HL0 HW2
    have TN1' := fun w => Lib.hid (TN1 w).out
    rw [HC.out] at TN1'
    go_wp2_with fail
    refine (TN1' _).out.mono ?_
    rintro e w1 ⟨hb1, p1, er1, rfl, hr1⟩
    have HF0 := Lib.hid ((hb1.block _ HE0.out.lt).trans HE0.out)
    have HF1 := Lib.hid ((hb1.block _ HE1.out.lt).trans HE1.out)
    have HF2 := Lib.hid ((hb1.block _ HE2.out.lt).trans HE2.out)
    have HFL := Lib.hid (HEL.out.trans (hb1.mono HEL.out.size))
    have HR1 := Lib.hid hr1
    clear hr1 hb1 t0 t1 t2 t3 t4 t5 TN1' TN1
    have b1 : Blk w1 g1 24 _ := HF1.out
    rw [HD'.out] at b1
    have t0 : w1.cell? ⟨g1, 0, none⟩ = some (.int .u64 u) := b1.cell 0 rfl
    have t1 : w1.cell? ⟨g1, 1, none⟩ = some (.int .i64 d.vocab) := b1.cell 1 rfl
    have t2 : w1.cell? ⟨g1, 2, none⟩ = some (.int .i64 c.dim) := b1.cell 2 rfl
    have t3 : w1.cell? ⟨g1, 3, none⟩ = some (.int .i64 d.layers) := b1.cell 3 rfl
    have t4 : w1.cell? ⟨g1, 4, none⟩ = some (.int .i64 d.top) := b1.cell 4 rfl
    have t5 : w1.cell? ⟨g1, 5, none⟩ = some (.int .i64 d.heat) := b1.cell 5 rfl
    have TN2' := fun w => Lib.hid (TN2 w).out
    rw [HD'.out] at TN2'
    clear b1
    go_wp2_with fail
    refine (TN2' _).out.mono ?_
    rintro e w2 ⟨hb2, p2, er2, rfl, hr2⟩
    have HH0 : Hid (Blk w2 w.heap.size 24 (cf c)) := Lib.hid ((hb2.block _ (Blk.lt HF0.out)).trans HF0.out)
    have HH1 : Hid (Blk w2 g1 24 (cf d')) := Lib.hid ((hb2.block _ (Blk.lt HF1.out)).trans HF1.out)
    have HH2 : Hid (Blk w2 g2 25 #[.int .i64 x, .int .i64 y]) := Lib.hid ((hb2.block _ (Blk.lt HF2.out)).trans HF2.out)
    have HHL := Lib.hid (HFL.out.trans (hb2.mono HFL.out.size))
    have HR2 := Lib.hid hr2
    have HB2 := Lib.hid hb2
    clear hr2 hb2 t0 t1 t2 t3 t4 t5 TN2' TN2 HE0 HE1 HE2 HEL HF0 HF1 HF2
    rcases HR1.out with ⟨rfl, _, rfl⟩ | ⟨rfl, _, m1, vocab, dim, layers, a1, n1, k1, T1, rfl, hN1, hm1⟩
    · go_wp2_with fail
      refine alive_any.mono ?_
      rintro e w3 ⟨rfl, hb3⟩
      go_wp2
      go_ret
      exact ⟨rfl, HHL.out.trans (hb3.mono HHL.out.size)⟩
    · rcases HR2.out with ⟨rfl, _, rfl⟩ | ⟨rfl, _, m2, vocab', dim', layers', a2, n2, k2, T2, rfl, hN2, hm2⟩
      · go_wp2_with fail
        refine alive_any.mono ?_
        rintro e w3 ⟨rfl, hb3⟩
        go_wp2
        go_ret
        exact ⟨rfl, HHL.out.trans (hb3.mono HHL.out.size)⟩
      · have hdd' : dim' = dim := by have := hN1.ed; have := hN2.ed; have := HDD.out; omega
        subst hdd'
        have hm1' := hm1.below HB2.out
        have HBW : Hid (Below w2.heap.size w2 w2.drew) := Lib.hid (below_drew (Below.refl _ _))
        have b0 := HH0.out
        have b1 := HH1.out
        have b2 := HH2.out
        have u1 : w2.cell? ⟨w.heap.size, 1, none⟩ = some (.int .i64 vocab) := by rw [← hN1.ev]; exact b0.cell 1 rfl
        have u3 : w2.cell? ⟨w.heap.size, 3, none⟩ = some (.int .i64 layers) := by rw [← hN1.el]; exact b0.cell 3 rfl
        have v1 : w2.cell? ⟨g1, 1, none⟩ = some (.int .i64 vocab') := by rw [← hN2.ev]; exact b1.cell 1 rfl
        have v3 : w2.cell? ⟨g1, 3, none⟩ = some (.int .i64 layers') := by rw [← hN2.el]; exact b1.cell 3 rfl
        have x0 : w2.cell? ⟨g2, 0, none⟩ = some (.int .i64 x) := b2.cell 0 rfl
        have x1 : w2.cell? ⟨g2, 1, none⟩ = some (.int .i64 y) := b2.cell 1 rfl
        have KEEP : Hid (∀ w' : World, Hid (Below w2.heap.size w2 w') → w'.cell? ⟨g2, 0, none⟩ = some (.int .i64 x) ∧ w'.cell? ⟨g2, 1, none⟩ = some (.int .i64 y) ∧ w'.cell? ⟨w.heap.size, 1, none⟩ = some (.int .i64 vocab) ∧ w'.cell? ⟨g1, 1, none⟩ = some (.int .i64 vocab') ∧ w'.cell? ⟨w.heap.size, 3, none⟩ = some (.int .i64 layers) ∧ w'.cell? ⟨g1, 3, none⟩ = some (.int .i64 layers') ∧ Hid (Below w2.heap.size w2 w')) := Lib.hid (fun w' h =>
          ⟨(h.out.cell (p := ⟨g2, 0, none⟩) b2.lt).trans x0, (h.out.cell (p := ⟨g2, 1, none⟩) b2.lt).trans x1, (h.out.cell (p := ⟨w.heap.size, 1, none⟩) b0.lt).trans u1, (h.out.cell (p := ⟨g1, 1, none⟩) b1.lt).trans v1, (h.out.cell (p := ⟨w.heap.size, 3, none⟩) b0.lt).trans u3, (h.out.cell (p := ⟨g1, 3, none⟩) b1.lt).trans v3, h⟩)
        have K1 : Hid (∀ {w} (hb : Hid (Below w2.heap.size w2 w)), Calls Try.prog 9 #[.pointer (some ⟨m1, 0, none⟩), .int .i64 x] w (Told w2 w (want c dim' vocab 0 x))) := Lib.hid (fun hb => token_in hm1' hN1 x hb)
        have K2 : Hid (∀ {w} (hb : Hid (Below w2.heap.size w2 w)), Calls Try.prog 9 #[.pointer (some ⟨m2, 0, none⟩), .int .i64 x] w (Told w2 w (want d' dim' vocab' 0 x))) := Lib.hid (fun hb => token_in hm2 hN2 x hb)
        have R1 : Hid (∀ {w} (hb : Hid (Below w2.heap.size w2 w)), Calls Try.prog 11 #[.pointer (some ⟨m1, 0, none⟩), .int .i64 x, .int .i64 y] w (TolT w2 w (rowsN layers dim' x y) dim' (rowsF c dim' x y))) := Lib.hid (fun hb => rows_in hm1' hN1 x y hb)
        have R2 : Hid (∀ {w} (hb : Hid (Below w2.heap.size w2 w)), Calls Try.prog 11 #[.pointer (some ⟨m2, 0, none⟩), .int .i64 x, .int .i64 y] w (TolT w2 w (rowsN layers' dim' x y) dim' (rowsF d' dim' x y))) := Lib.hid (fun hb => rows_in hm2 hN2 x y hb)
        have P1 : Hid (∀ {w} (hb : Hid (Below w2.heap.size w2 w)), Calls Try.prog 12 #[.pointer (some ⟨m1, 0, none⟩), .int .i64 y] w (Told w2 w (want c dim' 256 1 y))) := Lib.hid (fun hb => place_in hm1' hN1 y hb)
        have P2 : Hid (∀ {w} (hb : Hid (Below w2.heap.size w2 w)), Calls Try.prog 12 #[.pointer (some ⟨m2, 0, none⟩), .int .i64 y] w (Told w2 w (want c dim' 256 1 y))) := Lib.hid (fun hb => by
          have := place_in hm2 hN2 y hb
          unfold want at this
          rw [frow_seed HSD.out] at this
          exact this)
        have HFR := Lib.hid (show rowsF d' dim' x y = rowsF c dim' x y from frow_seed HSD.out _ _)
        rw [HFR.out] at R2
        have HVQ : Hid (x < imin vocab vocab' → want d' dim' vocab' 0 x = want c dim' vocab 0 x) := Lib.hid (fun h => want_eq HSD.out _ _ _ (by unfold imin at h; split at h <;> omega) (by unfold imin at h; split at h <;> omega) _)
        have HLQ : Hid (x < imin layers layers' → rowsN layers' dim' x y = rowsN layers dim' x y) := Lib.hid (fun h => rowsN_eq _ _ (by unfold imin at h; split at h <;> omega) (by unfold imin at h; split at h <;> omega))
        have HDRAW : Hid (Below w2.heap.size w2 w2.drew) := HBW
        clear u1 u3 v1 v3 x0 x1 b0 b1 b2 hm1 hm1' hm2 hN1 hN2 HR1 HR2 HH0 HH1 HH2 HBW HB2 HFL
        obtain ⟨mv, HMV⟩ : ∃ mv, Hid (imin (vocab : Int) vocab' = mv) := ⟨_, rfl⟩
        obtain ⟨ml, HML⟩ : ∃ mv, Hid (imin (layers : Int) layers' = mv) := ⟨_, rfl⟩
        rw [HMV.out] at HVQ
        rw [HML.out] at HLQ
        go_upto_region 6 with (fail)
        go_cut [79] from 34 to 79 (fun v wx => v = .bool false ∧ Hid (Below w2.heap.size w2 wx))
        case first =>
          have im1 := HMV.out
          have im2 := HML.out
          obtain ⟨lk, HLK⟩ : ∃ l, Hid (want c dim' vocab 0 x = l) := ⟨_, rfl⟩
          obtain ⟨nr, HNR⟩ : ∃ l, Hid (rowsN layers dim' x y = l) := ⟨_, rfl⟩
          rw [HLK.out] at K1 HVQ
          rw [HNR.out] at R1 HLQ
          by_cases hx1 : x < mv
          · have e1 := HVQ.out hx1
            rw [e1] at K2
            have d1 : decide (x < mv) = true := decide_eq_true hx1
            rw [← HMV.out] at d1
            clear e1 hx1
            by_cases hx2 : x < ml
            · have e2 := HLQ.out hx2
              rw [e2] at R2
              have d2 : decide (x < ml) = true := decide_eq_true hx2
              rw [← HML.out] at d2
              clear im1 im2 e2 hx2
              refine wp_region_held_drew (S := (fun w' => w'.cell? ⟨g2, 0, none⟩ = some (.int .i64 x) ∧ w'.cell? ⟨g2, 1, none⟩ = some (.int .i64 y) ∧ w'.cell? ⟨w.heap.size, 1, none⟩ = some (.int .i64 vocab) ∧ w'.cell? ⟨g1, 1, none⟩ = some (.int .i64 vocab') ∧ w'.cell? ⟨w.heap.size, 3, none⟩ = some (.int .i64 layers) ∧ w'.cell? ⟨g1, 3, none⟩ = some (.int .i64 layers') ∧ Hid (Below w2.heap.size w2 w'))) (by kernel_rfl) ?_ (fun hHeld => ?_)
              · (try dsimp only); exact KEEP.out _ (by assumption)
              refine wpAnyH_take (i := 0) (oi := { dst := some 34, op := Op.indexAddr 25 (Operand.tmp 5) (Operand.const (Value.int IntKind.i64 0)), type := 0, pos := "law.go:61", after := #[], guard := none }) (v := ?_) rfl (by kernel_rfl) (by kernel_rfl) (by kernel_rfl) (fun _ _ _ h => h) (Or.inl ⟨by rfl, ?_⟩) (by assumption) ?_
              rotate_left 1
              · (intro w hSw; (try dsimp only at hSw); go_simp; (try with_reducible rfl))
              try simp only [Act.put, List.setIfInBounds_toArray, List.set_cons_zero, List.set_cons_succ]
              refine wpAnyH_take (i := 1) (oi := { dst := some 35, op := Op.load 3 (Operand.tmp 34), type := 3, pos := "law.go:61", after := #[{ on := 0, ground := Ground.data }], guard := none }) (v := ?_) rfl (by kernel_rfl) (by kernel_rfl) (by kernel_rfl) (fun _ _ _ h => h) (Or.inl ⟨by rfl, ?_⟩) (by assumption) ?_
              rotate_left 1
              · (intro w hSw; (try dsimp only at hSw); go_simp; (try with_reducible rfl))
              try simp only [Act.put, List.setIfInBounds_toArray, List.set_cons_zero, List.set_cons_succ]
              refine wpAnyH_take (i := 2) (oi := { dst := some 36, op := Op.fieldAddr 24 (Operand.tmp 3) 1, type := 0, pos := "law.go:61", after := #[], guard := none }) (v := ?_) rfl (by kernel_rfl) (by kernel_rfl) (by kernel_rfl) (fun _ _ _ h => h) (Or.inl ⟨by rfl, ?_⟩) (by assumption) ?_
              rotate_left 1
              · (intro w hSw; (try dsimp only at hSw); go_simp; (try with_reducible rfl))
              try simp only [Act.put, List.setIfInBounds_toArray, List.set_cons_zero, List.set_cons_succ]
              refine wpAnyH_take (i := 3) (oi := { dst := some 37, op := Op.load 3 (Operand.tmp 36), type := 3, pos := "law.go:61", after := #[{ on := 2, ground := Ground.data }], guard := none }) (v := ?_) rfl (by kernel_rfl) (by kernel_rfl) (by kernel_rfl) (fun _ _ _ h => h) (Or.inl ⟨by rfl, ?_⟩) (by assumption) ?_
              rotate_left 1
              · (intro w hSw; (try dsimp only at hSw); go_simp; (try with_reducible rfl))
              try simp only [Act.put, List.setIfInBounds_toArray, List.set_cons_zero, List.set_cons_succ]
              refine wpAnyH_take (i := 4) (oi := { dst := some 38, op := Op.fieldAddr 24 (Operand.tmp 4) 1, type := 0, pos := "law.go:61", after := #[], guard := none }) (v := ?_) rfl (by kernel_rfl) (by kernel_rfl) (by kernel_rfl) (fun _ _ _ h => h) (Or.inl ⟨by rfl, ?_⟩) (by assumption) ?_
              rotate_left 1
              · (intro w hSw; (try dsimp only at hSw); go_simp; (try with_reducible rfl))
              try simp only [Act.put, List.setIfInBounds_toArray, List.set_cons_zero, List.set_cons_succ]
              refine wpAnyH_take (i := 5) (oi := { dst := some 39, op := Op.load 3 (Operand.tmp 38), type := 3, pos := "law.go:61", after := #[{ on := 4, ground := Ground.data }], guard := none }) (v := ?_) rfl (by kernel_rfl) (by kernel_rfl) (by kernel_rfl) (fun _ _ _ h => h) (Or.inl ⟨by rfl, ?_⟩) (by assumption) ?_
              rotate_left 1
              · (intro w hSw; (try dsimp only at hSw); go_simp; (try with_reducible rfl))
              try simp only [Act.put, List.setIfInBounds_toArray, List.set_cons_zero, List.set_cons_succ]
              refine wpAnyH_ready (rs := [6]) (by kernel_rfl) (by simp) (AllReadyH.cons (o := { dst := some 40, op := Op.call { callee := Callee.builtin Builtin.min, args := #[Operand.tmp 37, Operand.tmp 39], argTypes := #[3, 3] }, type := 3, pos := "law.go:61", after := #[{ on := 3, ground := Ground.data }, { on := 5, ground := Ground.data }], guard := none }) rfl (fun K hK => ?_) AllReadyH.nil)
              go_simp
              refine hK.out _ _ ?_ (fun hHeld => ?_)
              · (try dsimp only); exact KEEP.out _ (by assumption)
              clear hK K
              try simp only [Act.put, List.setIfInBounds_toArray, List.set_cons_zero, List.set_cons_succ]
              refine wpAnyH_take (i := 7) (oi := { dst := some 41, op := Op.binOp BinOp.lss 3 (Operand.tmp 35) (Operand.tmp 40) 3, type := 4, pos := "law.go:61", after := #[{ on := 1, ground := Ground.data }, { on := 6, ground := Ground.data }], guard := none }) (v := ?_) rfl (by kernel_rfl) (by kernel_rfl) (by kernel_rfl) (fun _ _ _ h => h) (Or.inl ⟨by rfl, ?_⟩) (by assumption) ?_
              rotate_left 1
              · (intro w hSw; (try dsimp only at hSw); go_simp; (try with_reducible rfl))
              try simp only [Act.put, List.setIfInBounds_toArray, List.set_cons_zero, List.set_cons_succ]
              refine wpAnyH_take (i := 8) (oi := { dst := some 42, op := Op.move (Operand.tmp 41), type := 4, pos := "law.go:61", after := #[{ on := 7, ground := Ground.data }], guard := none }) (v := ?_) rfl (by kernel_rfl) (by kernel_rfl) (by kernel_rfl) (fun _ _ _ h => h) (Or.inl ⟨by rfl, ?_⟩) (by assumption) ?_
              rotate_left 1
              · (intro w hSw; (try dsimp only at hSw); go_simp; (try with_reducible rfl))
              try simp only [Act.put, List.setIfInBounds_toArray, List.set_cons_zero, List.set_cons_succ]
              refine wpAnyH_take (i := 9) (oi := { dst := some 43, op := Op.move (Operand.tmp 7), type := 26, pos := "law.go:61", after := #[{ on := 8, ground := Ground.guard }], guard := some (8, true) }) (v := ?_) rfl (by kernel_rfl) (by kernel_rfl) (by kernel_rfl) (fun _ _ _ h => h) (Or.inl ⟨by rfl, ?_⟩) (by assumption) ?_
              rotate_left 1
              · (intro w hSw; (try dsimp only at hSw); go_simp; (try with_reducible rfl))
              try simp only [Act.put, List.setIfInBounds_toArray, List.set_cons_zero, List.set_cons_succ]
              refine wpAnyH_take (i := 10) (oi := { dst := some 44, op := Op.indexAddr 25 (Operand.tmp 5) (Operand.const (Value.int IntKind.i64 0)), type := 0, pos := "law.go:61", after := #[{ on := 8, ground := Ground.guard }], guard := some (8, true) }) (v := ?_) rfl (by kernel_rfl) (by kernel_rfl) (by kernel_rfl) (fun _ _ _ h => h) (Or.inl ⟨by rfl, ?_⟩) (by assumption) ?_
              rotate_left 1
              · (intro w hSw; (try dsimp only at hSw); go_simp; (try with_reducible rfl))
              try simp only [Act.put, List.setIfInBounds_toArray, List.set_cons_zero, List.set_cons_succ]
              refine wpAnyH_take (i := 11) (oi := { dst := some 45, op := Op.load 3 (Operand.tmp 44), type := 3, pos := "law.go:61", after := #[{ on := 10, ground := Ground.data }, { on := 8, ground := Ground.guard }], guard := some (8, true) }) (v := ?_) rfl (by kernel_rfl) (by kernel_rfl) (by kernel_rfl) (fun _ _ _ h => h) (Or.inl ⟨by rfl, ?_⟩) (by assumption) ?_
              rotate_left 1
              · (intro w hSw; (try dsimp only at hSw); go_simp; (try with_reducible rfl))
              try simp only [Act.put, List.setIfInBounds_toArray, List.set_cons_zero, List.set_cons_succ]
              refine wpAnyH_take (i := 13) (oi := { dst := some 47, op := Op.move (Operand.tmp 9), type := 26, pos := "law.go:61", after := #[{ on := 8, ground := Ground.guard }], guard := some (8, true) }) (v := ?_) rfl (by kernel_rfl) (by kernel_rfl) (by kernel_rfl) (fun _ _ _ h => h) (Or.inl ⟨by rfl, ?_⟩) (by assumption) ?_
              rotate_left 1
              · (intro w hSw; (try dsimp only at hSw); go_simp; (try with_reducible rfl))
              try simp only [Act.put, List.setIfInBounds_toArray, List.set_cons_zero, List.set_cons_succ]
              refine wpAnyH_take (i := 14) (oi := { dst := some 48, op := Op.indexAddr 25 (Operand.tmp 5) (Operand.const (Value.int IntKind.i64 0)), type := 0, pos := "law.go:61", after := #[{ on := 8, ground := Ground.guard }], guard := some (8, true) }) (v := ?_) rfl (by kernel_rfl) (by kernel_rfl) (by kernel_rfl) (fun _ _ _ h => h) (Or.inl ⟨by rfl, ?_⟩) (by assumption) ?_
              rotate_left 1
              · (intro w hSw; (try dsimp only at hSw); go_simp; (try with_reducible rfl))
              try simp only [Act.put, List.setIfInBounds_toArray, List.set_cons_zero, List.set_cons_succ]
              refine wpAnyH_take (i := 15) (oi := { dst := some 49, op := Op.load 3 (Operand.tmp 48), type := 3, pos := "law.go:61", after := #[{ on := 14, ground := Ground.data }, { on := 8, ground := Ground.guard }], guard := some (8, true) }) (v := ?_) rfl (by kernel_rfl) (by kernel_rfl) (by kernel_rfl) (fun _ _ _ h => h) (Or.inl ⟨by rfl, ?_⟩) (by assumption) ?_
              rotate_left 1
              · (intro w hSw; (try dsimp only at hSw); go_simp; (try with_reducible rfl))
              try simp only [Act.put, List.setIfInBounds_toArray, List.set_cons_zero, List.set_cons_succ]
              refine wpAnyH_ready (rs := [12]) (by kernel_rfl) (by simp) (AllReadyH.cons (o := { dst := some 46, op := Op.call { callee := Callee.value (Operand.func 9), args := #[Operand.tmp 43, Operand.tmp 45], argTypes := #[26, 3] }, type := 32, pos := "law.go:61", after := #[{ on := 9, ground := Ground.data }, { on := 11, ground := Ground.data }, { on := 8, ground := Ground.chain }, { on := 8, ground := Ground.guard }], guard := some (8, true) }) rfl (fun K hK => ?_) AllReadyH.nil)
              go_simp
              (go_at_call 9; (with_reducible refine (K1.out (by go_split_ands; assumption)).mono ?_); rintro e w9 ⟨a1, c1, rfl, hr1, hbb, hbc⟩; (try have HA1 := Lib.hid (rd_on HA1.out hbc)); (try have HA2 := Lib.hid (rd_on HA2.out hbc)); have HA1 := Lib.hid hr1; clear hr1 hbc)
              refine hK.out _ _ ?_ (fun hHeld => ?_)
              · (try dsimp only); exact KEEP.out _ (by assumption)
              clear hK K
              try simp only [Act.put, List.setIfInBounds_toArray, List.set_cons_zero, List.set_cons_succ]
              refine wpAnyH_ready (rs := [16]) (by kernel_rfl) (by simp) (AllReadyH.cons (o := { dst := some 50, op := Op.call { callee := Callee.value (Operand.func 9), args := #[Operand.tmp 47, Operand.tmp 49], argTypes := #[26, 3] }, type := 32, pos := "law.go:61", after := #[{ on := 13, ground := Ground.data }, { on := 15, ground := Ground.data }, { on := 12, ground := Ground.chain }, { on := 8, ground := Ground.guard }], guard := some (8, true) }) rfl (fun K hK => ?_) AllReadyH.nil)
              go_simp
              (go_at_call 9; (with_reducible refine (K2.out (by go_split_ands; assumption)).mono ?_); rintro e w9 ⟨a2, c2, rfl, hr2, hbb, hbc⟩; (try have HA2 := Lib.hid (rd_on HA2.out hbc)); (try have HA1 := Lib.hid (rd_on HA1.out hbc)); have HA2 := Lib.hid hr2; clear hr2 hbc)
              refine hK.out _ _ ?_ (fun hHeld => ?_)
              · (try dsimp only); exact KEEP.out _ (by assumption)
              clear hK K
              try simp only [Act.put, List.setIfInBounds_toArray, List.set_cons_zero, List.set_cons_succ]
              refine wpAnyH_ready (rs := [17]) (by kernel_rfl) (by simp) (AllReadyH.cons (o := { dst := some 51, op := Op.call { callee := Callee.value (Operand.func 8), args := #[Operand.tmp 46, Operand.tmp 50], argTypes := #[32, 32] }, type := 4, pos := "law.go:61", after := #[{ on := 12, ground := Ground.data }, { on := 16, ground := Ground.data }, { on := 16, ground := Ground.chain }, { on := 8, ground := Ground.guard }], guard := some (8, true) }) rfl (fun K hK => ?_) AllReadyH.nil)
              go_simp
              (go_at_call 8; (with_reducible refine (same_in (by go_split_ands; assumption) HA1 HA2).mono ?_); rintro e w9 ⟨rfl, hbb⟩)
              refine hK.out _ _ ?_ (fun hHeld => ?_)
              · (try dsimp only); exact KEEP.out _ (by assumption)
              clear hK K
              try simp only [Act.put, List.setIfInBounds_toArray, List.set_cons_zero, List.set_cons_succ]
              refine wpAnyH_take (i := 18) (oi := { dst := some 52, op := Op.unOp UnOp.not 4 (Operand.tmp 51), type := 4, pos := "law.go:61", after := #[{ on := 17, ground := Ground.data }, { on := 8, ground := Ground.guard }], guard := some (8, true) }) (v := ?_) rfl (by kernel_rfl) (by kernel_rfl) (by kernel_rfl) (fun _ _ _ h => h) (Or.inl ⟨by rfl, ?_⟩) (by assumption) ?_
              rotate_left 1
              · (intro w hSw; (try dsimp only at hSw); go_simp; (try with_reducible rfl))
              try simp only [Act.put, List.setIfInBounds_toArray, List.set_cons_zero, List.set_cons_succ]
              refine wpAnyH_take (i := 19) (oi := { dst := some 53, op := Op.pick (Operand.tmp 42) (Operand.tmp 52) (Operand.const (Value.bool false)), type := 4, pos := "law.go:61", after := #[{ on := 8, ground := Ground.data }, { on := 18, ground := Ground.data }], guard := none }) (v := ?_) rfl (by kernel_rfl) (by kernel_rfl) (by kernel_rfl) (fun _ _ _ h => h) (Or.inl ⟨by rfl, ?_⟩) (by assumption) ?_
              rotate_left 1
              · (intro w hSw; (try dsimp only at hSw); go_simp; (try with_reducible rfl))
              try simp only [Act.put, List.setIfInBounds_toArray, List.set_cons_zero, List.set_cons_succ]
              refine wpAnyH_take (i := 20) (oi := { dst := some 54, op := Op.move (Operand.tmp 53), type := 4, pos := "law.go:61", after := #[{ on := 19, ground := Ground.data }, { on := 17, ground := Ground.chain }], guard := none }) (v := ?_) rfl (by kernel_rfl) (by kernel_rfl) (by kernel_rfl) (fun _ _ _ h => h) (Or.inl ⟨by rfl, ?_⟩) (by assumption) ?_
              rotate_left 1
              · (intro w hSw; (try dsimp only at hSw); go_simp; (try with_reducible rfl))
              try simp only [Act.put, List.setIfInBounds_toArray, List.set_cons_zero, List.set_cons_succ]
              refine wpAnyH_take (i := 21) (oi := { dst := some 55, op := Op.indexAddr 25 (Operand.tmp 5) (Operand.const (Value.int IntKind.i64 0)), type := 0, pos := "law.go:61", after := #[{ on := 20, ground := Ground.guard }], guard := some (20, false) }) (v := ?_) rfl (by kernel_rfl) (by kernel_rfl) (by kernel_rfl) (fun _ _ _ h => h) (Or.inl ⟨by rfl, ?_⟩) (by assumption) ?_
              rotate_left 1
              · (intro w hSw; (try dsimp only at hSw); go_simp; (try with_reducible rfl))
              try simp only [Act.put, List.setIfInBounds_toArray, List.set_cons_zero, List.set_cons_succ]
              refine wpAnyH_take (i := 22) (oi := { dst := some 56, op := Op.load 3 (Operand.tmp 55), type := 3, pos := "law.go:61", after := #[{ on := 21, ground := Ground.data }, { on := 20, ground := Ground.guard }], guard := some (20, false) }) (v := ?_) rfl (by kernel_rfl) (by kernel_rfl) (by kernel_rfl) (fun _ _ _ h => h) (Or.inl ⟨by rfl, ?_⟩) (by assumption) ?_
              rotate_left 1
              · (intro w hSw; (try dsimp only at hSw); go_simp; (try with_reducible rfl))
              try simp only [Act.put, List.setIfInBounds_toArray, List.set_cons_zero, List.set_cons_succ]
              refine wpAnyH_take (i := 23) (oi := { dst := some 57, op := Op.fieldAddr 24 (Operand.tmp 3) 3, type := 0, pos := "law.go:61", after := #[{ on := 20, ground := Ground.guard }], guard := some (20, false) }) (v := ?_) rfl (by kernel_rfl) (by kernel_rfl) (by kernel_rfl) (fun _ _ _ h => h) (Or.inl ⟨by rfl, ?_⟩) (by assumption) ?_
              rotate_left 1
              · (intro w hSw; (try dsimp only at hSw); go_simp; (try with_reducible rfl))
              try simp only [Act.put, List.setIfInBounds_toArray, List.set_cons_zero, List.set_cons_succ]
              refine wpAnyH_take (i := 24) (oi := { dst := some 58, op := Op.load 3 (Operand.tmp 57), type := 3, pos := "law.go:61", after := #[{ on := 23, ground := Ground.data }, { on := 20, ground := Ground.guard }], guard := some (20, false) }) (v := ?_) rfl (by kernel_rfl) (by kernel_rfl) (by kernel_rfl) (fun _ _ _ h => h) (Or.inl ⟨by rfl, ?_⟩) (by assumption) ?_
              rotate_left 1
              · (intro w hSw; (try dsimp only at hSw); go_simp; (try with_reducible rfl))
              try simp only [Act.put, List.setIfInBounds_toArray, List.set_cons_zero, List.set_cons_succ]
              refine wpAnyH_take (i := 25) (oi := { dst := some 59, op := Op.fieldAddr 24 (Operand.tmp 4) 3, type := 0, pos := "law.go:61", after := #[{ on := 20, ground := Ground.guard }], guard := some (20, false) }) (v := ?_) rfl (by kernel_rfl) (by kernel_rfl) (by kernel_rfl) (fun _ _ _ h => h) (Or.inl ⟨by rfl, ?_⟩) (by assumption) ?_
              rotate_left 1
              · (intro w hSw; (try dsimp only at hSw); go_simp; (try with_reducible rfl))
              try simp only [Act.put, List.setIfInBounds_toArray, List.set_cons_zero, List.set_cons_succ]
              refine wpAnyH_take (i := 26) (oi := { dst := some 60, op := Op.load 3 (Operand.tmp 59), type := 3, pos := "law.go:61", after := #[{ on := 25, ground := Ground.data }, { on := 20, ground := Ground.guard }], guard := some (20, false) }) (v := ?_) rfl (by kernel_rfl) (by kernel_rfl) (by kernel_rfl) (fun _ _ _ h => h) (Or.inl ⟨by rfl, ?_⟩) (by assumption) ?_
              rotate_left 1
              · (intro w hSw; (try dsimp only at hSw); go_simp; (try with_reducible rfl))
              try simp only [Act.put, List.setIfInBounds_toArray, List.set_cons_zero, List.set_cons_succ]
              refine wpAnyH_ready (rs := [27]) (by kernel_rfl) (by simp) (AllReadyH.cons (o := { dst := some 61, op := Op.call { callee := Callee.builtin Builtin.min, args := #[Operand.tmp 58, Operand.tmp 60], argTypes := #[3, 3] }, type := 3, pos := "law.go:61", after := #[{ on := 24, ground := Ground.data }, { on := 26, ground := Ground.data }, { on := 20, ground := Ground.guard }], guard := some (20, false) }) rfl (fun K hK => ?_) AllReadyH.nil)
              go_simp
              refine hK.out _ _ ?_ (fun hHeld => ?_)
              · (try dsimp only); exact KEEP.out _ (by assumption)
              clear hK K
              try simp only [Act.put, List.setIfInBounds_toArray, List.set_cons_zero, List.set_cons_succ]
              refine wpAnyH_take (i := 28) (oi := { dst := some 62, op := Op.binOp BinOp.lss 3 (Operand.tmp 56) (Operand.tmp 61) 3, type := 4, pos := "law.go:61", after := #[{ on := 22, ground := Ground.data }, { on := 27, ground := Ground.data }, { on := 20, ground := Ground.guard }], guard := some (20, false) }) (v := ?_) rfl (by kernel_rfl) (by kernel_rfl) (by kernel_rfl) (fun _ _ _ h => h) (Or.inl ⟨by rfl, ?_⟩) (by assumption) ?_
              rotate_left 1
              · (intro w hSw; (try dsimp only at hSw); go_simp; (try with_reducible rfl))
              try simp only [Act.put, List.setIfInBounds_toArray, List.set_cons_zero, List.set_cons_succ]
              refine wpAnyH_take (i := 29) (oi := { dst := some 63, op := Op.move (Operand.tmp 62), type := 4, pos := "law.go:61", after := #[{ on := 28, ground := Ground.data }, { on := 20, ground := Ground.chain }, { on := 20, ground := Ground.guard }], guard := some (20, false) }) (v := ?_) rfl (by kernel_rfl) (by kernel_rfl) (by kernel_rfl) (fun _ _ _ h => h) (Or.inl ⟨by rfl, ?_⟩) (by assumption) ?_
              rotate_left 1
              · (intro w hSw; (try dsimp only at hSw); go_simp; (try with_reducible rfl))
              try simp only [Act.put, List.setIfInBounds_toArray, List.set_cons_zero, List.set_cons_succ]
              refine wpAnyH_take (i := 30) (oi := { dst := some 64, op := Op.move (Operand.tmp 7), type := 26, pos := "law.go:61", after := #[{ on := 29, ground := Ground.guard }], guard := some (29, true) }) (v := ?_) rfl (by kernel_rfl) (by kernel_rfl) (by kernel_rfl) (fun _ _ _ h => h) (Or.inl ⟨by rfl, ?_⟩) (by assumption) ?_
              rotate_left 1
              · (intro w hSw; (try dsimp only at hSw); go_simp; (try with_reducible rfl))
              try simp only [Act.put, List.setIfInBounds_toArray, List.set_cons_zero, List.set_cons_succ]
              refine wpAnyH_take (i := 31) (oi := { dst := some 65, op := Op.indexAddr 25 (Operand.tmp 5) (Operand.const (Value.int IntKind.i64 0)), type := 0, pos := "law.go:61", after := #[{ on := 29, ground := Ground.guard }], guard := some (29, true) }) (v := ?_) rfl (by kernel_rfl) (by kernel_rfl) (by kernel_rfl) (fun _ _ _ h => h) (Or.inl ⟨by rfl, ?_⟩) (by assumption) ?_
              rotate_left 1
              · (intro w hSw; (try dsimp only at hSw); go_simp; (try with_reducible rfl))
              try simp only [Act.put, List.setIfInBounds_toArray, List.set_cons_zero, List.set_cons_succ]
              refine wpAnyH_take (i := 32) (oi := { dst := some 66, op := Op.load 3 (Operand.tmp 65), type := 3, pos := "law.go:61", after := #[{ on := 31, ground := Ground.data }, { on := 29, ground := Ground.guard }], guard := some (29, true) }) (v := ?_) rfl (by kernel_rfl) (by kernel_rfl) (by kernel_rfl) (fun _ _ _ h => h) (Or.inl ⟨by rfl, ?_⟩) (by assumption) ?_
              rotate_left 1
              · (intro w hSw; (try dsimp only at hSw); go_simp; (try with_reducible rfl))
              try simp only [Act.put, List.setIfInBounds_toArray, List.set_cons_zero, List.set_cons_succ]
              refine wpAnyH_take (i := 33) (oi := { dst := some 67, op := Op.indexAddr 25 (Operand.tmp 5) (Operand.const (Value.int IntKind.i64 1)), type := 0, pos := "law.go:61", after := #[{ on := 29, ground := Ground.guard }], guard := some (29, true) }) (v := ?_) rfl (by kernel_rfl) (by kernel_rfl) (by kernel_rfl) (fun _ _ _ h => h) (Or.inl ⟨by rfl, ?_⟩) (by assumption) ?_
              rotate_left 1
              · (intro w hSw; (try dsimp only at hSw); go_simp; (try with_reducible rfl))
              try simp only [Act.put, List.setIfInBounds_toArray, List.set_cons_zero, List.set_cons_succ]
              refine wpAnyH_take (i := 34) (oi := { dst := some 68, op := Op.load 3 (Operand.tmp 67), type := 3, pos := "law.go:61", after := #[{ on := 33, ground := Ground.data }, { on := 29, ground := Ground.guard }], guard := some (29, true) }) (v := ?_) rfl (by kernel_rfl) (by kernel_rfl) (by kernel_rfl) (fun _ _ _ h => h) (Or.inl ⟨by rfl, ?_⟩) (by assumption) ?_
              rotate_left 1
              · (intro w hSw; (try dsimp only at hSw); go_simp; (try with_reducible rfl))
              try simp only [Act.put, List.setIfInBounds_toArray, List.set_cons_zero, List.set_cons_succ]
              refine wpAnyH_take (i := 36) (oi := { dst := some 70, op := Op.move (Operand.tmp 9), type := 26, pos := "law.go:61", after := #[{ on := 29, ground := Ground.guard }], guard := some (29, true) }) (v := ?_) rfl (by kernel_rfl) (by kernel_rfl) (by kernel_rfl) (fun _ _ _ h => h) (Or.inl ⟨by rfl, ?_⟩) (by assumption) ?_
              rotate_left 1
              · (intro w hSw; (try dsimp only at hSw); go_simp; (try with_reducible rfl))
              try simp only [Act.put, List.setIfInBounds_toArray, List.set_cons_zero, List.set_cons_succ]
              refine wpAnyH_take (i := 37) (oi := { dst := some 71, op := Op.indexAddr 25 (Operand.tmp 5) (Operand.const (Value.int IntKind.i64 0)), type := 0, pos := "law.go:61", after := #[{ on := 29, ground := Ground.guard }], guard := some (29, true) }) (v := ?_) rfl (by kernel_rfl) (by kernel_rfl) (by kernel_rfl) (fun _ _ _ h => h) (Or.inl ⟨by rfl, ?_⟩) (by assumption) ?_
              rotate_left 1
              · (intro w hSw; (try dsimp only at hSw); go_simp; (try with_reducible rfl))
              try simp only [Act.put, List.setIfInBounds_toArray, List.set_cons_zero, List.set_cons_succ]
              refine wpAnyH_take (i := 38) (oi := { dst := some 72, op := Op.load 3 (Operand.tmp 71), type := 3, pos := "law.go:61", after := #[{ on := 37, ground := Ground.data }, { on := 29, ground := Ground.guard }], guard := some (29, true) }) (v := ?_) rfl (by kernel_rfl) (by kernel_rfl) (by kernel_rfl) (fun _ _ _ h => h) (Or.inl ⟨by rfl, ?_⟩) (by assumption) ?_
              rotate_left 1
              · (intro w hSw; (try dsimp only at hSw); go_simp; (try with_reducible rfl))
              try simp only [Act.put, List.setIfInBounds_toArray, List.set_cons_zero, List.set_cons_succ]
              refine wpAnyH_take (i := 39) (oi := { dst := some 73, op := Op.indexAddr 25 (Operand.tmp 5) (Operand.const (Value.int IntKind.i64 1)), type := 0, pos := "law.go:61", after := #[{ on := 29, ground := Ground.guard }], guard := some (29, true) }) (v := ?_) rfl (by kernel_rfl) (by kernel_rfl) (by kernel_rfl) (fun _ _ _ h => h) (Or.inl ⟨by rfl, ?_⟩) (by assumption) ?_
              rotate_left 1
              · (intro w hSw; (try dsimp only at hSw); go_simp; (try with_reducible rfl))
              try simp only [Act.put, List.setIfInBounds_toArray, List.set_cons_zero, List.set_cons_succ]
              refine wpAnyH_take (i := 40) (oi := { dst := some 74, op := Op.load 3 (Operand.tmp 73), type := 3, pos := "law.go:61", after := #[{ on := 39, ground := Ground.data }, { on := 29, ground := Ground.guard }], guard := some (29, true) }) (v := ?_) rfl (by kernel_rfl) (by kernel_rfl) (by kernel_rfl) (fun _ _ _ h => h) (Or.inl ⟨by rfl, ?_⟩) (by assumption) ?_
              rotate_left 1
              · (intro w hSw; (try dsimp only at hSw); go_simp; (try with_reducible rfl))
              try simp only [Act.put, List.setIfInBounds_toArray, List.set_cons_zero, List.set_cons_succ]
              refine wpAnyH_ready (rs := [35]) (by kernel_rfl) (by simp) (AllReadyH.cons (o := { dst := some 69, op := Op.call { callee := Callee.value (Operand.func 11), args := #[Operand.tmp 64, Operand.tmp 66, Operand.tmp 68], argTypes := #[26, 3, 3] }, type := 35, pos := "law.go:61", after := #[{ on := 30, ground := Ground.data }, { on := 32, ground := Ground.data }, { on := 34, ground := Ground.data }, { on := 29, ground := Ground.chain }, { on := 29, ground := Ground.guard }], guard := some (29, true) }) rfl (fun K hK => ?_) AllReadyH.nil)
              go_simp
              (go_at_call 11; (with_reducible refine (R1.out (by go_split_ands; assumption)).mono ?_); rintro e w9 ⟨q1, k1, rfl, hr1, hbb, hbc⟩; (try have HQ2 := Lib.hid (Tl.below HQ2.out hbc)); have HQ1 := Lib.hid hr1; clear hr1 hbc)
              refine hK.out _ _ ?_ (fun hHeld => ?_)
              · (try dsimp only); exact KEEP.out _ (by assumption)
              clear hK K
              try simp only [Act.put, List.setIfInBounds_toArray, List.set_cons_zero, List.set_cons_succ]
              refine wpAnyH_ready (rs := [41]) (by kernel_rfl) (by simp) (AllReadyH.cons (o := { dst := some 75, op := Op.call { callee := Callee.value (Operand.func 11), args := #[Operand.tmp 70, Operand.tmp 72, Operand.tmp 74], argTypes := #[26, 3, 3] }, type := 35, pos := "law.go:61", after := #[{ on := 36, ground := Ground.data }, { on := 38, ground := Ground.data }, { on := 40, ground := Ground.data }, { on := 35, ground := Ground.chain }, { on := 29, ground := Ground.guard }], guard := some (29, true) }) rfl (fun K hK => ?_) AllReadyH.nil)
              go_simp
              (go_at_call 11; (with_reducible refine (R2.out (by go_split_ands; assumption)).mono ?_); rintro e w9 ⟨q2, k2, rfl, hr2, hbb, hbc⟩; (try have HQ1 := Lib.hid (Tl.below HQ1.out hbc)); have HQ2 := Lib.hid hr2; clear hr2 hbc)
              refine hK.out _ _ ?_ (fun hHeld => ?_)
              · (try dsimp only); exact KEEP.out _ (by assumption)
              clear hK K
              try simp only [Act.put, List.setIfInBounds_toArray, List.set_cons_zero, List.set_cons_succ]
              refine wpAnyH_ready (rs := [42]) (by kernel_rfl) (by simp) (AllReadyH.cons (o := { dst := some 76, op := Op.call { callee := Callee.value (Operand.func 10), args := #[Operand.tmp 69, Operand.tmp 75], argTypes := #[35, 35] }, type := 4, pos := "law.go:61", after := #[{ on := 35, ground := Ground.data }, { on := 41, ground := Ground.data }, { on := 41, ground := Ground.chain }, { on := 29, ground := Ground.guard }], guard := some (29, true) }) rfl (fun K hK => ?_) AllReadyH.nil)
              go_simp
              (go_at_call 10; (with_reducible refine (rows_same_in (by go_split_ands; assumption) HQ1 HQ2).mono ?_); rintro e w9 ⟨rfl, hbb⟩)
              refine hK.out _ _ ?_ (fun hHeld => ?_)
              · (try dsimp only); exact KEEP.out _ (by assumption)
              clear hK K
              try simp only [Act.put, List.setIfInBounds_toArray, List.set_cons_zero, List.set_cons_succ]
              refine wpAnyH_take (i := 43) (oi := { dst := some 77, op := Op.unOp UnOp.not 4 (Operand.tmp 76), type := 4, pos := "law.go:61", after := #[{ on := 42, ground := Ground.data }, { on := 29, ground := Ground.guard }], guard := some (29, true) }) (v := ?_) rfl (by kernel_rfl) (by kernel_rfl) (by kernel_rfl) (fun _ _ _ h => h) (Or.inl ⟨by rfl, ?_⟩) (by assumption) ?_
              rotate_left 1
              · (intro w hSw; (try dsimp only at hSw); go_simp; (try with_reducible rfl))
              try simp only [Act.put, List.setIfInBounds_toArray, List.set_cons_zero, List.set_cons_succ]
              refine wpAnyH_take (i := 44) (oi := { dst := some 78, op := Op.pick (Operand.tmp 63) (Operand.tmp 77) (Operand.const (Value.bool false)), type := 4, pos := "law.go:61", after := #[{ on := 29, ground := Ground.data }, { on := 43, ground := Ground.data }, { on := 20, ground := Ground.guard }], guard := some (20, false) }) (v := ?_) rfl (by kernel_rfl) (by kernel_rfl) (by kernel_rfl) (fun _ _ _ h => h) (Or.inl ⟨by rfl, ?_⟩) (by assumption) ?_
              rotate_left 1
              · (intro w hSw; (try dsimp only at hSw); go_simp; (try with_reducible rfl))
              try simp only [Act.put, List.setIfInBounds_toArray, List.set_cons_zero, List.set_cons_succ]
              refine wpAnyH_take (i := 45) (oi := { dst := some 79, op := Op.pick (Operand.tmp 54) (Operand.const (Value.bool true)) (Operand.tmp 78), type := 4, pos := "law.go:61", after := #[{ on := 20, ground := Ground.data }, { on := 44, ground := Ground.data }], guard := none }) (v := ?_) rfl (by kernel_rfl) (by kernel_rfl) (by kernel_rfl) (fun _ _ _ h => h) (Or.inl ⟨by rfl, ?_⟩) (by assumption) ?_
              rotate_left 1
              · (intro w hSw; (try dsimp only at hSw); go_simp; (try with_reducible rfl))
              try simp only [Act.put, List.setIfInBounds_toArray, List.set_cons_zero, List.set_cons_succ]
              refine wpAnyH_done (by kernel_rfl) ?_ _
              go_wp2
              go_meet
              exact ⟨rfl, by assumption⟩
            · have d2 : decide (x < ml) = false := decide_eq_false hx2
              rw [← HML.out] at d2
              clear im1 im2 hx2
              refine wp_region_held_drew (S := (fun w' => w'.cell? ⟨g2, 0, none⟩ = some (.int .i64 x) ∧ w'.cell? ⟨g2, 1, none⟩ = some (.int .i64 y) ∧ w'.cell? ⟨w.heap.size, 1, none⟩ = some (.int .i64 vocab) ∧ w'.cell? ⟨g1, 1, none⟩ = some (.int .i64 vocab') ∧ w'.cell? ⟨w.heap.size, 3, none⟩ = some (.int .i64 layers) ∧ w'.cell? ⟨g1, 3, none⟩ = some (.int .i64 layers') ∧ Hid (Below w2.heap.size w2 w'))) (by kernel_rfl) ?_ (fun hHeld => ?_)
              · (try dsimp only); exact KEEP.out _ (by assumption)
              refine wpAnyH_take (i := 0) (oi := { dst := some 34, op := Op.indexAddr 25 (Operand.tmp 5) (Operand.const (Value.int IntKind.i64 0)), type := 0, pos := "law.go:61", after := #[], guard := none }) (v := ?_) rfl (by kernel_rfl) (by kernel_rfl) (by kernel_rfl) (fun _ _ _ h => h) (Or.inl ⟨by rfl, ?_⟩) (by assumption) ?_
              rotate_left 1
              · (intro w hSw; (try dsimp only at hSw); go_simp; (try with_reducible rfl))
              try simp only [Act.put, List.setIfInBounds_toArray, List.set_cons_zero, List.set_cons_succ]
              refine wpAnyH_take (i := 1) (oi := { dst := some 35, op := Op.load 3 (Operand.tmp 34), type := 3, pos := "law.go:61", after := #[{ on := 0, ground := Ground.data }], guard := none }) (v := ?_) rfl (by kernel_rfl) (by kernel_rfl) (by kernel_rfl) (fun _ _ _ h => h) (Or.inl ⟨by rfl, ?_⟩) (by assumption) ?_
              rotate_left 1
              · (intro w hSw; (try dsimp only at hSw); go_simp; (try with_reducible rfl))
              try simp only [Act.put, List.setIfInBounds_toArray, List.set_cons_zero, List.set_cons_succ]
              refine wpAnyH_take (i := 2) (oi := { dst := some 36, op := Op.fieldAddr 24 (Operand.tmp 3) 1, type := 0, pos := "law.go:61", after := #[], guard := none }) (v := ?_) rfl (by kernel_rfl) (by kernel_rfl) (by kernel_rfl) (fun _ _ _ h => h) (Or.inl ⟨by rfl, ?_⟩) (by assumption) ?_
              rotate_left 1
              · (intro w hSw; (try dsimp only at hSw); go_simp; (try with_reducible rfl))
              try simp only [Act.put, List.setIfInBounds_toArray, List.set_cons_zero, List.set_cons_succ]
              refine wpAnyH_take (i := 3) (oi := { dst := some 37, op := Op.load 3 (Operand.tmp 36), type := 3, pos := "law.go:61", after := #[{ on := 2, ground := Ground.data }], guard := none }) (v := ?_) rfl (by kernel_rfl) (by kernel_rfl) (by kernel_rfl) (fun _ _ _ h => h) (Or.inl ⟨by rfl, ?_⟩) (by assumption) ?_
              rotate_left 1
              · (intro w hSw; (try dsimp only at hSw); go_simp; (try with_reducible rfl))
              try simp only [Act.put, List.setIfInBounds_toArray, List.set_cons_zero, List.set_cons_succ]
              refine wpAnyH_take (i := 4) (oi := { dst := some 38, op := Op.fieldAddr 24 (Operand.tmp 4) 1, type := 0, pos := "law.go:61", after := #[], guard := none }) (v := ?_) rfl (by kernel_rfl) (by kernel_rfl) (by kernel_rfl) (fun _ _ _ h => h) (Or.inl ⟨by rfl, ?_⟩) (by assumption) ?_
              rotate_left 1
              · (intro w hSw; (try dsimp only at hSw); go_simp; (try with_reducible rfl))
              try simp only [Act.put, List.setIfInBounds_toArray, List.set_cons_zero, List.set_cons_succ]
              refine wpAnyH_take (i := 5) (oi := { dst := some 39, op := Op.load 3 (Operand.tmp 38), type := 3, pos := "law.go:61", after := #[{ on := 4, ground := Ground.data }], guard := none }) (v := ?_) rfl (by kernel_rfl) (by kernel_rfl) (by kernel_rfl) (fun _ _ _ h => h) (Or.inl ⟨by rfl, ?_⟩) (by assumption) ?_
              rotate_left 1
              · (intro w hSw; (try dsimp only at hSw); go_simp; (try with_reducible rfl))
              try simp only [Act.put, List.setIfInBounds_toArray, List.set_cons_zero, List.set_cons_succ]
              refine wpAnyH_ready (rs := [6]) (by kernel_rfl) (by simp) (AllReadyH.cons (o := { dst := some 40, op := Op.call { callee := Callee.builtin Builtin.min, args := #[Operand.tmp 37, Operand.tmp 39], argTypes := #[3, 3] }, type := 3, pos := "law.go:61", after := #[{ on := 3, ground := Ground.data }, { on := 5, ground := Ground.data }], guard := none }) rfl (fun K hK => ?_) AllReadyH.nil)
              go_simp
              refine hK.out _ _ ?_ (fun hHeld => ?_)
              · (try dsimp only); exact KEEP.out _ (by assumption)
              clear hK K
              try simp only [Act.put, List.setIfInBounds_toArray, List.set_cons_zero, List.set_cons_succ]
              refine wpAnyH_take (i := 7) (oi := { dst := some 41, op := Op.binOp BinOp.lss 3 (Operand.tmp 35) (Operand.tmp 40) 3, type := 4, pos := "law.go:61", after := #[{ on := 1, ground := Ground.data }, { on := 6, ground := Ground.data }], guard := none }) (v := ?_) rfl (by kernel_rfl) (by kernel_rfl) (by kernel_rfl) (fun _ _ _ h => h) (Or.inl ⟨by rfl, ?_⟩) (by assumption) ?_
              rotate_left 1
              · (intro w hSw; (try dsimp only at hSw); go_simp; (try with_reducible rfl))
              try simp only [Act.put, List.setIfInBounds_toArray, List.set_cons_zero, List.set_cons_succ]
              refine wpAnyH_take (i := 8) (oi := { dst := some 42, op := Op.move (Operand.tmp 41), type := 4, pos := "law.go:61", after := #[{ on := 7, ground := Ground.data }], guard := none }) (v := ?_) rfl (by kernel_rfl) (by kernel_rfl) (by kernel_rfl) (fun _ _ _ h => h) (Or.inl ⟨by rfl, ?_⟩) (by assumption) ?_
              rotate_left 1
              · (intro w hSw; (try dsimp only at hSw); go_simp; (try with_reducible rfl))
              try simp only [Act.put, List.setIfInBounds_toArray, List.set_cons_zero, List.set_cons_succ]
              refine wpAnyH_take (i := 9) (oi := { dst := some 43, op := Op.move (Operand.tmp 7), type := 26, pos := "law.go:61", after := #[{ on := 8, ground := Ground.guard }], guard := some (8, true) }) (v := ?_) rfl (by kernel_rfl) (by kernel_rfl) (by kernel_rfl) (fun _ _ _ h => h) (Or.inl ⟨by rfl, ?_⟩) (by assumption) ?_
              rotate_left 1
              · (intro w hSw; (try dsimp only at hSw); go_simp; (try with_reducible rfl))
              try simp only [Act.put, List.setIfInBounds_toArray, List.set_cons_zero, List.set_cons_succ]
              refine wpAnyH_take (i := 10) (oi := { dst := some 44, op := Op.indexAddr 25 (Operand.tmp 5) (Operand.const (Value.int IntKind.i64 0)), type := 0, pos := "law.go:61", after := #[{ on := 8, ground := Ground.guard }], guard := some (8, true) }) (v := ?_) rfl (by kernel_rfl) (by kernel_rfl) (by kernel_rfl) (fun _ _ _ h => h) (Or.inl ⟨by rfl, ?_⟩) (by assumption) ?_
              rotate_left 1
              · (intro w hSw; (try dsimp only at hSw); go_simp; (try with_reducible rfl))
              try simp only [Act.put, List.setIfInBounds_toArray, List.set_cons_zero, List.set_cons_succ]
              refine wpAnyH_take (i := 11) (oi := { dst := some 45, op := Op.load 3 (Operand.tmp 44), type := 3, pos := "law.go:61", after := #[{ on := 10, ground := Ground.data }, { on := 8, ground := Ground.guard }], guard := some (8, true) }) (v := ?_) rfl (by kernel_rfl) (by kernel_rfl) (by kernel_rfl) (fun _ _ _ h => h) (Or.inl ⟨by rfl, ?_⟩) (by assumption) ?_
              rotate_left 1
              · (intro w hSw; (try dsimp only at hSw); go_simp; (try with_reducible rfl))
              try simp only [Act.put, List.setIfInBounds_toArray, List.set_cons_zero, List.set_cons_succ]
              refine wpAnyH_take (i := 13) (oi := { dst := some 47, op := Op.move (Operand.tmp 9), type := 26, pos := "law.go:61", after := #[{ on := 8, ground := Ground.guard }], guard := some (8, true) }) (v := ?_) rfl (by kernel_rfl) (by kernel_rfl) (by kernel_rfl) (fun _ _ _ h => h) (Or.inl ⟨by rfl, ?_⟩) (by assumption) ?_
              rotate_left 1
              · (intro w hSw; (try dsimp only at hSw); go_simp; (try with_reducible rfl))
              try simp only [Act.put, List.setIfInBounds_toArray, List.set_cons_zero, List.set_cons_succ]
              refine wpAnyH_take (i := 14) (oi := { dst := some 48, op := Op.indexAddr 25 (Operand.tmp 5) (Operand.const (Value.int IntKind.i64 0)), type := 0, pos := "law.go:61", after := #[{ on := 8, ground := Ground.guard }], guard := some (8, true) }) (v := ?_) rfl (by kernel_rfl) (by kernel_rfl) (by kernel_rfl) (fun _ _ _ h => h) (Or.inl ⟨by rfl, ?_⟩) (by assumption) ?_
              rotate_left 1
              · (intro w hSw; (try dsimp only at hSw); go_simp; (try with_reducible rfl))
              try simp only [Act.put, List.setIfInBounds_toArray, List.set_cons_zero, List.set_cons_succ]
              refine wpAnyH_take (i := 15) (oi := { dst := some 49, op := Op.load 3 (Operand.tmp 48), type := 3, pos := "law.go:61", after := #[{ on := 14, ground := Ground.data }, { on := 8, ground := Ground.guard }], guard := some (8, true) }) (v := ?_) rfl (by kernel_rfl) (by kernel_rfl) (by kernel_rfl) (fun _ _ _ h => h) (Or.inl ⟨by rfl, ?_⟩) (by assumption) ?_
              rotate_left 1
              · (intro w hSw; (try dsimp only at hSw); go_simp; (try with_reducible rfl))
              try simp only [Act.put, List.setIfInBounds_toArray, List.set_cons_zero, List.set_cons_succ]
              refine wpAnyH_ready (rs := [12]) (by kernel_rfl) (by simp) (AllReadyH.cons (o := { dst := some 46, op := Op.call { callee := Callee.value (Operand.func 9), args := #[Operand.tmp 43, Operand.tmp 45], argTypes := #[26, 3] }, type := 32, pos := "law.go:61", after := #[{ on := 9, ground := Ground.data }, { on := 11, ground := Ground.data }, { on := 8, ground := Ground.chain }, { on := 8, ground := Ground.guard }], guard := some (8, true) }) rfl (fun K hK => ?_) AllReadyH.nil)
              go_simp
              (go_at_call 9; (with_reducible refine (K1.out (by go_split_ands; assumption)).mono ?_); rintro e w9 ⟨a1, c1, rfl, hr1, hbb, hbc⟩; (try have HA1 := Lib.hid (rd_on HA1.out hbc)); (try have HA2 := Lib.hid (rd_on HA2.out hbc)); have HA1 := Lib.hid hr1; clear hr1 hbc)
              refine hK.out _ _ ?_ (fun hHeld => ?_)
              · (try dsimp only); exact KEEP.out _ (by assumption)
              clear hK K
              try simp only [Act.put, List.setIfInBounds_toArray, List.set_cons_zero, List.set_cons_succ]
              refine wpAnyH_ready (rs := [16]) (by kernel_rfl) (by simp) (AllReadyH.cons (o := { dst := some 50, op := Op.call { callee := Callee.value (Operand.func 9), args := #[Operand.tmp 47, Operand.tmp 49], argTypes := #[26, 3] }, type := 32, pos := "law.go:61", after := #[{ on := 13, ground := Ground.data }, { on := 15, ground := Ground.data }, { on := 12, ground := Ground.chain }, { on := 8, ground := Ground.guard }], guard := some (8, true) }) rfl (fun K hK => ?_) AllReadyH.nil)
              go_simp
              (go_at_call 9; (with_reducible refine (K2.out (by go_split_ands; assumption)).mono ?_); rintro e w9 ⟨a2, c2, rfl, hr2, hbb, hbc⟩; (try have HA2 := Lib.hid (rd_on HA2.out hbc)); (try have HA1 := Lib.hid (rd_on HA1.out hbc)); have HA2 := Lib.hid hr2; clear hr2 hbc)
              refine hK.out _ _ ?_ (fun hHeld => ?_)
              · (try dsimp only); exact KEEP.out _ (by assumption)
              clear hK K
              try simp only [Act.put, List.setIfInBounds_toArray, List.set_cons_zero, List.set_cons_succ]
              refine wpAnyH_ready (rs := [17]) (by kernel_rfl) (by simp) (AllReadyH.cons (o := { dst := some 51, op := Op.call { callee := Callee.value (Operand.func 8), args := #[Operand.tmp 46, Operand.tmp 50], argTypes := #[32, 32] }, type := 4, pos := "law.go:61", after := #[{ on := 12, ground := Ground.data }, { on := 16, ground := Ground.data }, { on := 16, ground := Ground.chain }, { on := 8, ground := Ground.guard }], guard := some (8, true) }) rfl (fun K hK => ?_) AllReadyH.nil)
              go_simp
              (go_at_call 8; (with_reducible refine (same_in (by go_split_ands; assumption) HA1 HA2).mono ?_); rintro e w9 ⟨rfl, hbb⟩)
              refine hK.out _ _ ?_ (fun hHeld => ?_)
              · (try dsimp only); exact KEEP.out _ (by assumption)
              clear hK K
              try simp only [Act.put, List.setIfInBounds_toArray, List.set_cons_zero, List.set_cons_succ]
              refine wpAnyH_take (i := 18) (oi := { dst := some 52, op := Op.unOp UnOp.not 4 (Operand.tmp 51), type := 4, pos := "law.go:61", after := #[{ on := 17, ground := Ground.data }, { on := 8, ground := Ground.guard }], guard := some (8, true) }) (v := ?_) rfl (by kernel_rfl) (by kernel_rfl) (by kernel_rfl) (fun _ _ _ h => h) (Or.inl ⟨by rfl, ?_⟩) (by assumption) ?_
              rotate_left 1
              · (intro w hSw; (try dsimp only at hSw); go_simp; (try with_reducible rfl))
              try simp only [Act.put, List.setIfInBounds_toArray, List.set_cons_zero, List.set_cons_succ]
              refine wpAnyH_take (i := 19) (oi := { dst := some 53, op := Op.pick (Operand.tmp 42) (Operand.tmp 52) (Operand.const (Value.bool false)), type := 4, pos := "law.go:61", after := #[{ on := 8, ground := Ground.data }, { on := 18, ground := Ground.data }], guard := none }) (v := ?_) rfl (by kernel_rfl) (by kernel_rfl) (by kernel_rfl) (fun _ _ _ h => h) (Or.inl ⟨by rfl, ?_⟩) (by assumption) ?_
              rotate_left 1
              · (intro w hSw; (try dsimp only at hSw); go_simp; (try with_reducible rfl))
              try simp only [Act.put, List.setIfInBounds_toArray, List.set_cons_zero, List.set_cons_succ]
              refine wpAnyH_take (i := 20) (oi := { dst := some 54, op := Op.move (Operand.tmp 53), type := 4, pos := "law.go:61", after := #[{ on := 19, ground := Ground.data }, { on := 17, ground := Ground.chain }], guard := none }) (v := ?_) rfl (by kernel_rfl) (by kernel_rfl) (by kernel_rfl) (fun _ _ _ h => h) (Or.inl ⟨by rfl, ?_⟩) (by assumption) ?_
              rotate_left 1
              · (intro w hSw; (try dsimp only at hSw); go_simp; (try with_reducible rfl))
              try simp only [Act.put, List.setIfInBounds_toArray, List.set_cons_zero, List.set_cons_succ]
              refine wpAnyH_take (i := 21) (oi := { dst := some 55, op := Op.indexAddr 25 (Operand.tmp 5) (Operand.const (Value.int IntKind.i64 0)), type := 0, pos := "law.go:61", after := #[{ on := 20, ground := Ground.guard }], guard := some (20, false) }) (v := ?_) rfl (by kernel_rfl) (by kernel_rfl) (by kernel_rfl) (fun _ _ _ h => h) (Or.inl ⟨by rfl, ?_⟩) (by assumption) ?_
              rotate_left 1
              · (intro w hSw; (try dsimp only at hSw); go_simp; (try with_reducible rfl))
              try simp only [Act.put, List.setIfInBounds_toArray, List.set_cons_zero, List.set_cons_succ]
              refine wpAnyH_take (i := 22) (oi := { dst := some 56, op := Op.load 3 (Operand.tmp 55), type := 3, pos := "law.go:61", after := #[{ on := 21, ground := Ground.data }, { on := 20, ground := Ground.guard }], guard := some (20, false) }) (v := ?_) rfl (by kernel_rfl) (by kernel_rfl) (by kernel_rfl) (fun _ _ _ h => h) (Or.inl ⟨by rfl, ?_⟩) (by assumption) ?_
              rotate_left 1
              · (intro w hSw; (try dsimp only at hSw); go_simp; (try with_reducible rfl))
              try simp only [Act.put, List.setIfInBounds_toArray, List.set_cons_zero, List.set_cons_succ]
              refine wpAnyH_take (i := 23) (oi := { dst := some 57, op := Op.fieldAddr 24 (Operand.tmp 3) 3, type := 0, pos := "law.go:61", after := #[{ on := 20, ground := Ground.guard }], guard := some (20, false) }) (v := ?_) rfl (by kernel_rfl) (by kernel_rfl) (by kernel_rfl) (fun _ _ _ h => h) (Or.inl ⟨by rfl, ?_⟩) (by assumption) ?_
              rotate_left 1
              · (intro w hSw; (try dsimp only at hSw); go_simp; (try with_reducible rfl))
              try simp only [Act.put, List.setIfInBounds_toArray, List.set_cons_zero, List.set_cons_succ]
              refine wpAnyH_take (i := 24) (oi := { dst := some 58, op := Op.load 3 (Operand.tmp 57), type := 3, pos := "law.go:61", after := #[{ on := 23, ground := Ground.data }, { on := 20, ground := Ground.guard }], guard := some (20, false) }) (v := ?_) rfl (by kernel_rfl) (by kernel_rfl) (by kernel_rfl) (fun _ _ _ h => h) (Or.inl ⟨by rfl, ?_⟩) (by assumption) ?_
              rotate_left 1
              · (intro w hSw; (try dsimp only at hSw); go_simp; (try with_reducible rfl))
              try simp only [Act.put, List.setIfInBounds_toArray, List.set_cons_zero, List.set_cons_succ]
              refine wpAnyH_take (i := 25) (oi := { dst := some 59, op := Op.fieldAddr 24 (Operand.tmp 4) 3, type := 0, pos := "law.go:61", after := #[{ on := 20, ground := Ground.guard }], guard := some (20, false) }) (v := ?_) rfl (by kernel_rfl) (by kernel_rfl) (by kernel_rfl) (fun _ _ _ h => h) (Or.inl ⟨by rfl, ?_⟩) (by assumption) ?_
              rotate_left 1
              · (intro w hSw; (try dsimp only at hSw); go_simp; (try with_reducible rfl))
              try simp only [Act.put, List.setIfInBounds_toArray, List.set_cons_zero, List.set_cons_succ]
              refine wpAnyH_take (i := 26) (oi := { dst := some 60, op := Op.load 3 (Operand.tmp 59), type := 3, pos := "law.go:61", after := #[{ on := 25, ground := Ground.data }, { on := 20, ground := Ground.guard }], guard := some (20, false) }) (v := ?_) rfl (by kernel_rfl) (by kernel_rfl) (by kernel_rfl) (fun _ _ _ h => h) (Or.inl ⟨by rfl, ?_⟩) (by assumption) ?_
              rotate_left 1
              · (intro w hSw; (try dsimp only at hSw); go_simp; (try with_reducible rfl))
              try simp only [Act.put, List.setIfInBounds_toArray, List.set_cons_zero, List.set_cons_succ]
              refine wpAnyH_ready (rs := [27]) (by kernel_rfl) (by simp) (AllReadyH.cons (o := { dst := some 61, op := Op.call { callee := Callee.builtin Builtin.min, args := #[Operand.tmp 58, Operand.tmp 60], argTypes := #[3, 3] }, type := 3, pos := "law.go:61", after := #[{ on := 24, ground := Ground.data }, { on := 26, ground := Ground.data }, { on := 20, ground := Ground.guard }], guard := some (20, false) }) rfl (fun K hK => ?_) AllReadyH.nil)
              go_simp
              refine hK.out _ _ ?_ (fun hHeld => ?_)
              · (try dsimp only); exact KEEP.out _ (by assumption)
              clear hK K
              try simp only [Act.put, List.setIfInBounds_toArray, List.set_cons_zero, List.set_cons_succ]
              refine wpAnyH_take (i := 28) (oi := { dst := some 62, op := Op.binOp BinOp.lss 3 (Operand.tmp 56) (Operand.tmp 61) 3, type := 4, pos := "law.go:61", after := #[{ on := 22, ground := Ground.data }, { on := 27, ground := Ground.data }, { on := 20, ground := Ground.guard }], guard := some (20, false) }) (v := ?_) rfl (by kernel_rfl) (by kernel_rfl) (by kernel_rfl) (fun _ _ _ h => h) (Or.inl ⟨by rfl, ?_⟩) (by assumption) ?_
              rotate_left 1
              · (intro w hSw; (try dsimp only at hSw); go_simp; (try with_reducible rfl))
              try simp only [Act.put, List.setIfInBounds_toArray, List.set_cons_zero, List.set_cons_succ]
              refine wpAnyH_take (i := 29) (oi := { dst := some 63, op := Op.move (Operand.tmp 62), type := 4, pos := "law.go:61", after := #[{ on := 28, ground := Ground.data }, { on := 20, ground := Ground.chain }, { on := 20, ground := Ground.guard }], guard := some (20, false) }) (v := ?_) rfl (by kernel_rfl) (by kernel_rfl) (by kernel_rfl) (fun _ _ _ h => h) (Or.inl ⟨by rfl, ?_⟩) (by assumption) ?_
              rotate_left 1
              · (intro w hSw; (try dsimp only at hSw); go_simp; (try with_reducible rfl))
              try simp only [Act.put, List.setIfInBounds_toArray, List.set_cons_zero, List.set_cons_succ]
              refine wpAnyH_take (i := 30) (oi := { dst := some 64, op := Op.move (Operand.tmp 7), type := 26, pos := "law.go:61", after := #[{ on := 29, ground := Ground.guard }], guard := some (29, true) }) (v := undef) rfl (by kernel_rfl) (by kernel_rfl) (by kernel_rfl) (fun _ _ _ h => h) (Or.inr ⟨by rfl, rfl⟩) (by assumption) ?_
              try simp only [Act.put, List.setIfInBounds_toArray, List.set_cons_zero, List.set_cons_succ]
              refine wpAnyH_take (i := 31) (oi := { dst := some 65, op := Op.indexAddr 25 (Operand.tmp 5) (Operand.const (Value.int IntKind.i64 0)), type := 0, pos := "law.go:61", after := #[{ on := 29, ground := Ground.guard }], guard := some (29, true) }) (v := undef) rfl (by kernel_rfl) (by kernel_rfl) (by kernel_rfl) (fun _ _ _ h => h) (Or.inr ⟨by rfl, rfl⟩) (by assumption) ?_
              try simp only [Act.put, List.setIfInBounds_toArray, List.set_cons_zero, List.set_cons_succ]
              refine wpAnyH_take (i := 32) (oi := { dst := some 66, op := Op.load 3 (Operand.tmp 65), type := 3, pos := "law.go:61", after := #[{ on := 31, ground := Ground.data }, { on := 29, ground := Ground.guard }], guard := some (29, true) }) (v := undef) rfl (by kernel_rfl) (by kernel_rfl) (by kernel_rfl) (fun _ _ _ h => h) (Or.inr ⟨by rfl, rfl⟩) (by assumption) ?_
              try simp only [Act.put, List.setIfInBounds_toArray, List.set_cons_zero, List.set_cons_succ]
              refine wpAnyH_take (i := 33) (oi := { dst := some 67, op := Op.indexAddr 25 (Operand.tmp 5) (Operand.const (Value.int IntKind.i64 1)), type := 0, pos := "law.go:61", after := #[{ on := 29, ground := Ground.guard }], guard := some (29, true) }) (v := undef) rfl (by kernel_rfl) (by kernel_rfl) (by kernel_rfl) (fun _ _ _ h => h) (Or.inr ⟨by rfl, rfl⟩) (by assumption) ?_
              try simp only [Act.put, List.setIfInBounds_toArray, List.set_cons_zero, List.set_cons_succ]
              refine wpAnyH_take (i := 34) (oi := { dst := some 68, op := Op.load 3 (Operand.tmp 67), type := 3, pos := "law.go:61", after := #[{ on := 33, ground := Ground.data }, { on := 29, ground := Ground.guard }], guard := some (29, true) }) (v := undef) rfl (by kernel_rfl) (by kernel_rfl) (by kernel_rfl) (fun _ _ _ h => h) (Or.inr ⟨by rfl, rfl⟩) (by assumption) ?_
              try simp only [Act.put, List.setIfInBounds_toArray, List.set_cons_zero, List.set_cons_succ]
              refine wpAnyH_take (i := 35) (oi := { dst := some 69, op := Op.call { callee := Callee.value (Operand.func 11), args := #[Operand.tmp 64, Operand.tmp 66, Operand.tmp 68], argTypes := #[26, 3, 3] }, type := 35, pos := "law.go:61", after := #[{ on := 30, ground := Ground.data }, { on := 32, ground := Ground.data }, { on := 34, ground := Ground.data }, { on := 29, ground := Ground.chain }, { on := 29, ground := Ground.guard }], guard := some (29, true) }) (v := undef) rfl (by kernel_rfl) (by kernel_rfl) (by kernel_rfl) (fun _ _ _ h => h) (Or.inr ⟨by rfl, rfl⟩) (by assumption) ?_
              try simp only [Act.put, List.setIfInBounds_toArray, List.set_cons_zero, List.set_cons_succ]
              refine wpAnyH_take (i := 36) (oi := { dst := some 70, op := Op.move (Operand.tmp 9), type := 26, pos := "law.go:61", after := #[{ on := 29, ground := Ground.guard }], guard := some (29, true) }) (v := undef) rfl (by kernel_rfl) (by kernel_rfl) (by kernel_rfl) (fun _ _ _ h => h) (Or.inr ⟨by rfl, rfl⟩) (by assumption) ?_
              try simp only [Act.put, List.setIfInBounds_toArray, List.set_cons_zero, List.set_cons_succ]
              refine wpAnyH_take (i := 37) (oi := { dst := some 71, op := Op.indexAddr 25 (Operand.tmp 5) (Operand.const (Value.int IntKind.i64 0)), type := 0, pos := "law.go:61", after := #[{ on := 29, ground := Ground.guard }], guard := some (29, true) }) (v := undef) rfl (by kernel_rfl) (by kernel_rfl) (by kernel_rfl) (fun _ _ _ h => h) (Or.inr ⟨by rfl, rfl⟩) (by assumption) ?_
              try simp only [Act.put, List.setIfInBounds_toArray, List.set_cons_zero, List.set_cons_succ]
              refine wpAnyH_take (i := 38) (oi := { dst := some 72, op := Op.load 3 (Operand.tmp 71), type := 3, pos := "law.go:61", after := #[{ on := 37, ground := Ground.data }, { on := 29, ground := Ground.guard }], guard := some (29, true) }) (v := undef) rfl (by kernel_rfl) (by kernel_rfl) (by kernel_rfl) (fun _ _ _ h => h) (Or.inr ⟨by rfl, rfl⟩) (by assumption) ?_
              try simp only [Act.put, List.setIfInBounds_toArray, List.set_cons_zero, List.set_cons_succ]
              refine wpAnyH_take (i := 39) (oi := { dst := some 73, op := Op.indexAddr 25 (Operand.tmp 5) (Operand.const (Value.int IntKind.i64 1)), type := 0, pos := "law.go:61", after := #[{ on := 29, ground := Ground.guard }], guard := some (29, true) }) (v := undef) rfl (by kernel_rfl) (by kernel_rfl) (by kernel_rfl) (fun _ _ _ h => h) (Or.inr ⟨by rfl, rfl⟩) (by assumption) ?_
              try simp only [Act.put, List.setIfInBounds_toArray, List.set_cons_zero, List.set_cons_succ]
              refine wpAnyH_take (i := 40) (oi := { dst := some 74, op := Op.load 3 (Operand.tmp 73), type := 3, pos := "law.go:61", after := #[{ on := 39, ground := Ground.data }, { on := 29, ground := Ground.guard }], guard := some (29, true) }) (v := undef) rfl (by kernel_rfl) (by kernel_rfl) (by kernel_rfl) (fun _ _ _ h => h) (Or.inr ⟨by rfl, rfl⟩) (by assumption) ?_
              try simp only [Act.put, List.setIfInBounds_toArray, List.set_cons_zero, List.set_cons_succ]
              refine wpAnyH_take (i := 41) (oi := { dst := some 75, op := Op.call { callee := Callee.value (Operand.func 11), args := #[Operand.tmp 70, Operand.tmp 72, Operand.tmp 74], argTypes := #[26, 3, 3] }, type := 35, pos := "law.go:61", after := #[{ on := 36, ground := Ground.data }, { on := 38, ground := Ground.data }, { on := 40, ground := Ground.data }, { on := 35, ground := Ground.chain }, { on := 29, ground := Ground.guard }], guard := some (29, true) }) (v := undef) rfl (by kernel_rfl) (by kernel_rfl) (by kernel_rfl) (fun _ _ _ h => h) (Or.inr ⟨by rfl, rfl⟩) (by assumption) ?_
              try simp only [Act.put, List.setIfInBounds_toArray, List.set_cons_zero, List.set_cons_succ]
              refine wpAnyH_take (i := 42) (oi := { dst := some 76, op := Op.call { callee := Callee.value (Operand.func 10), args := #[Operand.tmp 69, Operand.tmp 75], argTypes := #[35, 35] }, type := 4, pos := "law.go:61", after := #[{ on := 35, ground := Ground.data }, { on := 41, ground := Ground.data }, { on := 41, ground := Ground.chain }, { on := 29, ground := Ground.guard }], guard := some (29, true) }) (v := undef) rfl (by kernel_rfl) (by kernel_rfl) (by kernel_rfl) (fun _ _ _ h => h) (Or.inr ⟨by rfl, rfl⟩) (by assumption) ?_
              try simp only [Act.put, List.setIfInBounds_toArray, List.set_cons_zero, List.set_cons_succ]
              refine wpAnyH_take (i := 43) (oi := { dst := some 77, op := Op.unOp UnOp.not 4 (Operand.tmp 76), type := 4, pos := "law.go:61", after := #[{ on := 42, ground := Ground.data }, { on := 29, ground := Ground.guard }], guard := some (29, true) }) (v := undef) rfl (by kernel_rfl) (by kernel_rfl) (by kernel_rfl) (fun _ _ _ h => h) (Or.inr ⟨by rfl, rfl⟩) (by assumption) ?_
              try simp only [Act.put, List.setIfInBounds_toArray, List.set_cons_zero, List.set_cons_succ]
              refine wpAnyH_take (i := 44) (oi := { dst := some 78, op := Op.pick (Operand.tmp 63) (Operand.tmp 77) (Operand.const (Value.bool false)), type := 4, pos := "law.go:61", after := #[{ on := 29, ground := Ground.data }, { on := 43, ground := Ground.data }, { on := 20, ground := Ground.guard }], guard := some (20, false) }) (v := ?_) rfl (by kernel_rfl) (by kernel_rfl) (by kernel_rfl) (fun _ _ _ h => h) (Or.inl ⟨by rfl, ?_⟩) (by assumption) ?_
              rotate_left 1
              · (intro w hSw; (try dsimp only at hSw); go_simp; (try with_reducible rfl))
              try simp only [Act.put, List.setIfInBounds_toArray, List.set_cons_zero, List.set_cons_succ]
              refine wpAnyH_take (i := 45) (oi := { dst := some 79, op := Op.pick (Operand.tmp 54) (Operand.const (Value.bool true)) (Operand.tmp 78), type := 4, pos := "law.go:61", after := #[{ on := 20, ground := Ground.data }, { on := 44, ground := Ground.data }], guard := none }) (v := ?_) rfl (by kernel_rfl) (by kernel_rfl) (by kernel_rfl) (fun _ _ _ h => h) (Or.inl ⟨by rfl, ?_⟩) (by assumption) ?_
              rotate_left 1
              · (intro w hSw; (try dsimp only at hSw); go_simp; (try with_reducible rfl))
              try simp only [Act.put, List.setIfInBounds_toArray, List.set_cons_zero, List.set_cons_succ]
              refine wpAnyH_done (by kernel_rfl) ?_ _
              go_wp2
              go_meet
              exact ⟨rfl, by assumption⟩
          · have d1 : decide (x < mv) = false := decide_eq_false hx1
            rw [← HMV.out] at d1
            clear hx1
            by_cases hx2 : x < ml
            · have e2 := HLQ.out hx2
              rw [e2] at R2
              have d2 : decide (x < ml) = true := decide_eq_true hx2
              rw [← HML.out] at d2
              clear im1 im2 e2 hx2
              refine wp_region_held_drew (S := (fun w' => w'.cell? ⟨g2, 0, none⟩ = some (.int .i64 x) ∧ w'.cell? ⟨g2, 1, none⟩ = some (.int .i64 y) ∧ w'.cell? ⟨w.heap.size, 1, none⟩ = some (.int .i64 vocab) ∧ w'.cell? ⟨g1, 1, none⟩ = some (.int .i64 vocab') ∧ w'.cell? ⟨w.heap.size, 3, none⟩ = some (.int .i64 layers) ∧ w'.cell? ⟨g1, 3, none⟩ = some (.int .i64 layers') ∧ Hid (Below w2.heap.size w2 w'))) (by kernel_rfl) ?_ (fun hHeld => ?_)
              · (try dsimp only); exact KEEP.out _ (by assumption)
              refine wpAnyH_take (i := 0) (oi := { dst := some 34, op := Op.indexAddr 25 (Operand.tmp 5) (Operand.const (Value.int IntKind.i64 0)), type := 0, pos := "law.go:61", after := #[], guard := none }) (v := ?_) rfl (by kernel_rfl) (by kernel_rfl) (by kernel_rfl) (fun _ _ _ h => h) (Or.inl ⟨by rfl, ?_⟩) (by assumption) ?_
              rotate_left 1
              · (intro w hSw; (try dsimp only at hSw); go_simp; (try with_reducible rfl))
              try simp only [Act.put, List.setIfInBounds_toArray, List.set_cons_zero, List.set_cons_succ]
              refine wpAnyH_take (i := 1) (oi := { dst := some 35, op := Op.load 3 (Operand.tmp 34), type := 3, pos := "law.go:61", after := #[{ on := 0, ground := Ground.data }], guard := none }) (v := ?_) rfl (by kernel_rfl) (by kernel_rfl) (by kernel_rfl) (fun _ _ _ h => h) (Or.inl ⟨by rfl, ?_⟩) (by assumption) ?_
              rotate_left 1
              · (intro w hSw; (try dsimp only at hSw); go_simp; (try with_reducible rfl))
              try simp only [Act.put, List.setIfInBounds_toArray, List.set_cons_zero, List.set_cons_succ]
              refine wpAnyH_take (i := 2) (oi := { dst := some 36, op := Op.fieldAddr 24 (Operand.tmp 3) 1, type := 0, pos := "law.go:61", after := #[], guard := none }) (v := ?_) rfl (by kernel_rfl) (by kernel_rfl) (by kernel_rfl) (fun _ _ _ h => h) (Or.inl ⟨by rfl, ?_⟩) (by assumption) ?_
              rotate_left 1
              · (intro w hSw; (try dsimp only at hSw); go_simp; (try with_reducible rfl))
              try simp only [Act.put, List.setIfInBounds_toArray, List.set_cons_zero, List.set_cons_succ]
              refine wpAnyH_take (i := 3) (oi := { dst := some 37, op := Op.load 3 (Operand.tmp 36), type := 3, pos := "law.go:61", after := #[{ on := 2, ground := Ground.data }], guard := none }) (v := ?_) rfl (by kernel_rfl) (by kernel_rfl) (by kernel_rfl) (fun _ _ _ h => h) (Or.inl ⟨by rfl, ?_⟩) (by assumption) ?_
              rotate_left 1
              · (intro w hSw; (try dsimp only at hSw); go_simp; (try with_reducible rfl))
              try simp only [Act.put, List.setIfInBounds_toArray, List.set_cons_zero, List.set_cons_succ]
              refine wpAnyH_take (i := 4) (oi := { dst := some 38, op := Op.fieldAddr 24 (Operand.tmp 4) 1, type := 0, pos := "law.go:61", after := #[], guard := none }) (v := ?_) rfl (by kernel_rfl) (by kernel_rfl) (by kernel_rfl) (fun _ _ _ h => h) (Or.inl ⟨by rfl, ?_⟩) (by assumption) ?_
              rotate_left 1
              · (intro w hSw; (try dsimp only at hSw); go_simp; (try with_reducible rfl))
              try simp only [Act.put, List.setIfInBounds_toArray, List.set_cons_zero, List.set_cons_succ]
              refine wpAnyH_take (i := 5) (oi := { dst := some 39, op := Op.load 3 (Operand.tmp 38), type := 3, pos := "law.go:61", after := #[{ on := 4, ground := Ground.data }], guard := none }) (v := ?_) rfl (by kernel_rfl) (by kernel_rfl) (by kernel_rfl) (fun _ _ _ h => h) (Or.inl ⟨by rfl, ?_⟩) (by assumption) ?_
              rotate_left 1
              · (intro w hSw; (try dsimp only at hSw); go_simp; (try with_reducible rfl))
              try simp only [Act.put, List.setIfInBounds_toArray, List.set_cons_zero, List.set_cons_succ]
              refine wpAnyH_ready (rs := [6]) (by kernel_rfl) (by simp) (AllReadyH.cons (o := { dst := some 40, op := Op.call { callee := Callee.builtin Builtin.min, args := #[Operand.tmp 37, Operand.tmp 39], argTypes := #[3, 3] }, type := 3, pos := "law.go:61", after := #[{ on := 3, ground := Ground.data }, { on := 5, ground := Ground.data }], guard := none }) rfl (fun K hK => ?_) AllReadyH.nil)
              go_simp
              refine hK.out _ _ ?_ (fun hHeld => ?_)
              · (try dsimp only); exact KEEP.out _ (by assumption)
              clear hK K
              try simp only [Act.put, List.setIfInBounds_toArray, List.set_cons_zero, List.set_cons_succ]
              refine wpAnyH_take (i := 7) (oi := { dst := some 41, op := Op.binOp BinOp.lss 3 (Operand.tmp 35) (Operand.tmp 40) 3, type := 4, pos := "law.go:61", after := #[{ on := 1, ground := Ground.data }, { on := 6, ground := Ground.data }], guard := none }) (v := ?_) rfl (by kernel_rfl) (by kernel_rfl) (by kernel_rfl) (fun _ _ _ h => h) (Or.inl ⟨by rfl, ?_⟩) (by assumption) ?_
              rotate_left 1
              · (intro w hSw; (try dsimp only at hSw); go_simp; (try with_reducible rfl))
              try simp only [Act.put, List.setIfInBounds_toArray, List.set_cons_zero, List.set_cons_succ]
              refine wpAnyH_take (i := 8) (oi := { dst := some 42, op := Op.move (Operand.tmp 41), type := 4, pos := "law.go:61", after := #[{ on := 7, ground := Ground.data }], guard := none }) (v := ?_) rfl (by kernel_rfl) (by kernel_rfl) (by kernel_rfl) (fun _ _ _ h => h) (Or.inl ⟨by rfl, ?_⟩) (by assumption) ?_
              rotate_left 1
              · (intro w hSw; (try dsimp only at hSw); go_simp; (try with_reducible rfl))
              try simp only [Act.put, List.setIfInBounds_toArray, List.set_cons_zero, List.set_cons_succ]
              refine wpAnyH_take (i := 9) (oi := { dst := some 43, op := Op.move (Operand.tmp 7), type := 26, pos := "law.go:61", after := #[{ on := 8, ground := Ground.guard }], guard := some (8, true) }) (v := undef) rfl (by kernel_rfl) (by kernel_rfl) (by kernel_rfl) (fun _ _ _ h => h) (Or.inr ⟨by rfl, rfl⟩) (by assumption) ?_
              try simp only [Act.put, List.setIfInBounds_toArray, List.set_cons_zero, List.set_cons_succ]
              refine wpAnyH_take (i := 10) (oi := { dst := some 44, op := Op.indexAddr 25 (Operand.tmp 5) (Operand.const (Value.int IntKind.i64 0)), type := 0, pos := "law.go:61", after := #[{ on := 8, ground := Ground.guard }], guard := some (8, true) }) (v := undef) rfl (by kernel_rfl) (by kernel_rfl) (by kernel_rfl) (fun _ _ _ h => h) (Or.inr ⟨by rfl, rfl⟩) (by assumption) ?_
              try simp only [Act.put, List.setIfInBounds_toArray, List.set_cons_zero, List.set_cons_succ]
              refine wpAnyH_take (i := 11) (oi := { dst := some 45, op := Op.load 3 (Operand.tmp 44), type := 3, pos := "law.go:61", after := #[{ on := 10, ground := Ground.data }, { on := 8, ground := Ground.guard }], guard := some (8, true) }) (v := undef) rfl (by kernel_rfl) (by kernel_rfl) (by kernel_rfl) (fun _ _ _ h => h) (Or.inr ⟨by rfl, rfl⟩) (by assumption) ?_
              try simp only [Act.put, List.setIfInBounds_toArray, List.set_cons_zero, List.set_cons_succ]
              refine wpAnyH_take (i := 12) (oi := { dst := some 46, op := Op.call { callee := Callee.value (Operand.func 9), args := #[Operand.tmp 43, Operand.tmp 45], argTypes := #[26, 3] }, type := 32, pos := "law.go:61", after := #[{ on := 9, ground := Ground.data }, { on := 11, ground := Ground.data }, { on := 8, ground := Ground.chain }, { on := 8, ground := Ground.guard }], guard := some (8, true) }) (v := undef) rfl (by kernel_rfl) (by kernel_rfl) (by kernel_rfl) (fun _ _ _ h => h) (Or.inr ⟨by rfl, rfl⟩) (by assumption) ?_
              try simp only [Act.put, List.setIfInBounds_toArray, List.set_cons_zero, List.set_cons_succ]
              refine wpAnyH_take (i := 13) (oi := { dst := some 47, op := Op.move (Operand.tmp 9), type := 26, pos := "law.go:61", after := #[{ on := 8, ground := Ground.guard }], guard := some (8, true) }) (v := undef) rfl (by kernel_rfl) (by kernel_rfl) (by kernel_rfl) (fun _ _ _ h => h) (Or.inr ⟨by rfl, rfl⟩) (by assumption) ?_
              try simp only [Act.put, List.setIfInBounds_toArray, List.set_cons_zero, List.set_cons_succ]
              refine wpAnyH_take (i := 14) (oi := { dst := some 48, op := Op.indexAddr 25 (Operand.tmp 5) (Operand.const (Value.int IntKind.i64 0)), type := 0, pos := "law.go:61", after := #[{ on := 8, ground := Ground.guard }], guard := some (8, true) }) (v := undef) rfl (by kernel_rfl) (by kernel_rfl) (by kernel_rfl) (fun _ _ _ h => h) (Or.inr ⟨by rfl, rfl⟩) (by assumption) ?_
              try simp only [Act.put, List.setIfInBounds_toArray, List.set_cons_zero, List.set_cons_succ]
              refine wpAnyH_take (i := 15) (oi := { dst := some 49, op := Op.load 3 (Operand.tmp 48), type := 3, pos := "law.go:61", after := #[{ on := 14, ground := Ground.data }, { on := 8, ground := Ground.guard }], guard := some (8, true) }) (v := undef) rfl (by kernel_rfl) (by kernel_rfl) (by kernel_rfl) (fun _ _ _ h => h) (Or.inr ⟨by rfl, rfl⟩) (by assumption) ?_
              try simp only [Act.put, List.setIfInBounds_toArray, List.set_cons_zero, List.set_cons_succ]
              refine wpAnyH_take (i := 16) (oi := { dst := some 50, op := Op.call { callee := Callee.value (Operand.func 9), args := #[Operand.tmp 47, Operand.tmp 49], argTypes := #[26, 3] }, type := 32, pos := "law.go:61", after := #[{ on := 13, ground := Ground.data }, { on := 15, ground := Ground.data }, { on := 12, ground := Ground.chain }, { on := 8, ground := Ground.guard }], guard := some (8, true) }) (v := undef) rfl (by kernel_rfl) (by kernel_rfl) (by kernel_rfl) (fun _ _ _ h => h) (Or.inr ⟨by rfl, rfl⟩) (by assumption) ?_
              try simp only [Act.put, List.setIfInBounds_toArray, List.set_cons_zero, List.set_cons_succ]
              refine wpAnyH_take (i := 17) (oi := { dst := some 51, op := Op.call { callee := Callee.value (Operand.func 8), args := #[Operand.tmp 46, Operand.tmp 50], argTypes := #[32, 32] }, type := 4, pos := "law.go:61", after := #[{ on := 12, ground := Ground.data }, { on := 16, ground := Ground.data }, { on := 16, ground := Ground.chain }, { on := 8, ground := Ground.guard }], guard := some (8, true) }) (v := undef) rfl (by kernel_rfl) (by kernel_rfl) (by kernel_rfl) (fun _ _ _ h => h) (Or.inr ⟨by rfl, rfl⟩) (by assumption) ?_
              try simp only [Act.put, List.setIfInBounds_toArray, List.set_cons_zero, List.set_cons_succ]
              refine wpAnyH_take (i := 18) (oi := { dst := some 52, op := Op.unOp UnOp.not 4 (Operand.tmp 51), type := 4, pos := "law.go:61", after := #[{ on := 17, ground := Ground.data }, { on := 8, ground := Ground.guard }], guard := some (8, true) }) (v := undef) rfl (by kernel_rfl) (by kernel_rfl) (by kernel_rfl) (fun _ _ _ h => h) (Or.inr ⟨by rfl, rfl⟩) (by assumption) ?_
              try simp only [Act.put, List.setIfInBounds_toArray, List.set_cons_zero, List.set_cons_succ]
              refine wpAnyH_take (i := 19) (oi := { dst := some 53, op := Op.pick (Operand.tmp 42) (Operand.tmp 52) (Operand.const (Value.bool false)), type := 4, pos := "law.go:61", after := #[{ on := 8, ground := Ground.data }, { on := 18, ground := Ground.data }], guard := none }) (v := ?_) rfl (by kernel_rfl) (by kernel_rfl) (by kernel_rfl) (fun _ _ _ h => h) (Or.inl ⟨by rfl, ?_⟩) (by assumption) ?_
              rotate_left 1
              · (intro w hSw; (try dsimp only at hSw); go_simp; (try with_reducible rfl))
              try simp only [Act.put, List.setIfInBounds_toArray, List.set_cons_zero, List.set_cons_succ]
              refine wpAnyH_take (i := 20) (oi := { dst := some 54, op := Op.move (Operand.tmp 53), type := 4, pos := "law.go:61", after := #[{ on := 19, ground := Ground.data }, { on := 17, ground := Ground.chain }], guard := none }) (v := ?_) rfl (by kernel_rfl) (by kernel_rfl) (by kernel_rfl) (fun _ _ _ h => h) (Or.inl ⟨by rfl, ?_⟩) (by assumption) ?_
              rotate_left 1
              · (intro w hSw; (try dsimp only at hSw); go_simp; (try with_reducible rfl))
              try simp only [Act.put, List.setIfInBounds_toArray, List.set_cons_zero, List.set_cons_succ]
              refine wpAnyH_take (i := 21) (oi := { dst := some 55, op := Op.indexAddr 25 (Operand.tmp 5) (Operand.const (Value.int IntKind.i64 0)), type := 0, pos := "law.go:61", after := #[{ on := 20, ground := Ground.guard }], guard := some (20, false) }) (v := ?_) rfl (by kernel_rfl) (by kernel_rfl) (by kernel_rfl) (fun _ _ _ h => h) (Or.inl ⟨by rfl, ?_⟩) (by assumption) ?_
              rotate_left 1
              · (intro w hSw; (try dsimp only at hSw); go_simp; (try with_reducible rfl))
              try simp only [Act.put, List.setIfInBounds_toArray, List.set_cons_zero, List.set_cons_succ]
              refine wpAnyH_take (i := 22) (oi := { dst := some 56, op := Op.load 3 (Operand.tmp 55), type := 3, pos := "law.go:61", after := #[{ on := 21, ground := Ground.data }, { on := 20, ground := Ground.guard }], guard := some (20, false) }) (v := ?_) rfl (by kernel_rfl) (by kernel_rfl) (by kernel_rfl) (fun _ _ _ h => h) (Or.inl ⟨by rfl, ?_⟩) (by assumption) ?_
              rotate_left 1
              · (intro w hSw; (try dsimp only at hSw); go_simp; (try with_reducible rfl))
              try simp only [Act.put, List.setIfInBounds_toArray, List.set_cons_zero, List.set_cons_succ]
              refine wpAnyH_take (i := 23) (oi := { dst := some 57, op := Op.fieldAddr 24 (Operand.tmp 3) 3, type := 0, pos := "law.go:61", after := #[{ on := 20, ground := Ground.guard }], guard := some (20, false) }) (v := ?_) rfl (by kernel_rfl) (by kernel_rfl) (by kernel_rfl) (fun _ _ _ h => h) (Or.inl ⟨by rfl, ?_⟩) (by assumption) ?_
              rotate_left 1
              · (intro w hSw; (try dsimp only at hSw); go_simp; (try with_reducible rfl))
              try simp only [Act.put, List.setIfInBounds_toArray, List.set_cons_zero, List.set_cons_succ]
              refine wpAnyH_take (i := 24) (oi := { dst := some 58, op := Op.load 3 (Operand.tmp 57), type := 3, pos := "law.go:61", after := #[{ on := 23, ground := Ground.data }, { on := 20, ground := Ground.guard }], guard := some (20, false) }) (v := ?_) rfl (by kernel_rfl) (by kernel_rfl) (by kernel_rfl) (fun _ _ _ h => h) (Or.inl ⟨by rfl, ?_⟩) (by assumption) ?_
              rotate_left 1
              · (intro w hSw; (try dsimp only at hSw); go_simp; (try with_reducible rfl))
              try simp only [Act.put, List.setIfInBounds_toArray, List.set_cons_zero, List.set_cons_succ]
              refine wpAnyH_take (i := 25) (oi := { dst := some 59, op := Op.fieldAddr 24 (Operand.tmp 4) 3, type := 0, pos := "law.go:61", after := #[{ on := 20, ground := Ground.guard }], guard := some (20, false) }) (v := ?_) rfl (by kernel_rfl) (by kernel_rfl) (by kernel_rfl) (fun _ _ _ h => h) (Or.inl ⟨by rfl, ?_⟩) (by assumption) ?_
              rotate_left 1
              · (intro w hSw; (try dsimp only at hSw); go_simp; (try with_reducible rfl))
              try simp only [Act.put, List.setIfInBounds_toArray, List.set_cons_zero, List.set_cons_succ]
              refine wpAnyH_take (i := 26) (oi := { dst := some 60, op := Op.load 3 (Operand.tmp 59), type := 3, pos := "law.go:61", after := #[{ on := 25, ground := Ground.data }, { on := 20, ground := Ground.guard }], guard := some (20, false) }) (v := ?_) rfl (by kernel_rfl) (by kernel_rfl) (by kernel_rfl) (fun _ _ _ h => h) (Or.inl ⟨by rfl, ?_⟩) (by assumption) ?_
              rotate_left 1
              · (intro w hSw; (try dsimp only at hSw); go_simp; (try with_reducible rfl))
              try simp only [Act.put, List.setIfInBounds_toArray, List.set_cons_zero, List.set_cons_succ]
              refine wpAnyH_ready (rs := [27]) (by kernel_rfl) (by simp) (AllReadyH.cons (o := { dst := some 61, op := Op.call { callee := Callee.builtin Builtin.min, args := #[Operand.tmp 58, Operand.tmp 60], argTypes := #[3, 3] }, type := 3, pos := "law.go:61", after := #[{ on := 24, ground := Ground.data }, { on := 26, ground := Ground.data }, { on := 20, ground := Ground.guard }], guard := some (20, false) }) rfl (fun K hK => ?_) AllReadyH.nil)
              go_simp
              refine hK.out _ _ ?_ (fun hHeld => ?_)
              · (try dsimp only); exact KEEP.out _ (by assumption)
              clear hK K
              try simp only [Act.put, List.setIfInBounds_toArray, List.set_cons_zero, List.set_cons_succ]
              refine wpAnyH_take (i := 28) (oi := { dst := some 62, op := Op.binOp BinOp.lss 3 (Operand.tmp 56) (Operand.tmp 61) 3, type := 4, pos := "law.go:61", after := #[{ on := 22, ground := Ground.data }, { on := 27, ground := Ground.data }, { on := 20, ground := Ground.guard }], guard := some (20, false) }) (v := ?_) rfl (by kernel_rfl) (by kernel_rfl) (by kernel_rfl) (fun _ _ _ h => h) (Or.inl ⟨by rfl, ?_⟩) (by assumption) ?_
              rotate_left 1
              · (intro w hSw; (try dsimp only at hSw); go_simp; (try with_reducible rfl))
              try simp only [Act.put, List.setIfInBounds_toArray, List.set_cons_zero, List.set_cons_succ]
              refine wpAnyH_take (i := 29) (oi := { dst := some 63, op := Op.move (Operand.tmp 62), type := 4, pos := "law.go:61", after := #[{ on := 28, ground := Ground.data }, { on := 20, ground := Ground.chain }, { on := 20, ground := Ground.guard }], guard := some (20, false) }) (v := ?_) rfl (by kernel_rfl) (by kernel_rfl) (by kernel_rfl) (fun _ _ _ h => h) (Or.inl ⟨by rfl, ?_⟩) (by assumption) ?_
              rotate_left 1
              · (intro w hSw; (try dsimp only at hSw); go_simp; (try with_reducible rfl))
              try simp only [Act.put, List.setIfInBounds_toArray, List.set_cons_zero, List.set_cons_succ]
              refine wpAnyH_take (i := 30) (oi := { dst := some 64, op := Op.move (Operand.tmp 7), type := 26, pos := "law.go:61", after := #[{ on := 29, ground := Ground.guard }], guard := some (29, true) }) (v := ?_) rfl (by kernel_rfl) (by kernel_rfl) (by kernel_rfl) (fun _ _ _ h => h) (Or.inl ⟨by rfl, ?_⟩) (by assumption) ?_
              rotate_left 1
              · (intro w hSw; (try dsimp only at hSw); go_simp; (try with_reducible rfl))
              try simp only [Act.put, List.setIfInBounds_toArray, List.set_cons_zero, List.set_cons_succ]
              refine wpAnyH_take (i := 31) (oi := { dst := some 65, op := Op.indexAddr 25 (Operand.tmp 5) (Operand.const (Value.int IntKind.i64 0)), type := 0, pos := "law.go:61", after := #[{ on := 29, ground := Ground.guard }], guard := some (29, true) }) (v := ?_) rfl (by kernel_rfl) (by kernel_rfl) (by kernel_rfl) (fun _ _ _ h => h) (Or.inl ⟨by rfl, ?_⟩) (by assumption) ?_
              rotate_left 1
              · (intro w hSw; (try dsimp only at hSw); go_simp; (try with_reducible rfl))
              try simp only [Act.put, List.setIfInBounds_toArray, List.set_cons_zero, List.set_cons_succ]
              refine wpAnyH_take (i := 32) (oi := { dst := some 66, op := Op.load 3 (Operand.tmp 65), type := 3, pos := "law.go:61", after := #[{ on := 31, ground := Ground.data }, { on := 29, ground := Ground.guard }], guard := some (29, true) }) (v := ?_) rfl (by kernel_rfl) (by kernel_rfl) (by kernel_rfl) (fun _ _ _ h => h) (Or.inl ⟨by rfl, ?_⟩) (by assumption) ?_
              rotate_left 1
              · (intro w hSw; (try dsimp only at hSw); go_simp; (try with_reducible rfl))
              try simp only [Act.put, List.setIfInBounds_toArray, List.set_cons_zero, List.set_cons_succ]
              refine wpAnyH_take (i := 33) (oi := { dst := some 67, op := Op.indexAddr 25 (Operand.tmp 5) (Operand.const (Value.int IntKind.i64 1)), type := 0, pos := "law.go:61", after := #[{ on := 29, ground := Ground.guard }], guard := some (29, true) }) (v := ?_) rfl (by kernel_rfl) (by kernel_rfl) (by kernel_rfl) (fun _ _ _ h => h) (Or.inl ⟨by rfl, ?_⟩) (by assumption) ?_
              rotate_left 1
              · (intro w hSw; (try dsimp only at hSw); go_simp; (try with_reducible rfl))
              try simp only [Act.put, List.setIfInBounds_toArray, List.set_cons_zero, List.set_cons_succ]
              refine wpAnyH_take (i := 34) (oi := { dst := some 68, op := Op.load 3 (Operand.tmp 67), type := 3, pos := "law.go:61", after := #[{ on := 33, ground := Ground.data }, { on := 29, ground := Ground.guard }], guard := some (29, true) }) (v := ?_) rfl (by kernel_rfl) (by kernel_rfl) (by kernel_rfl) (fun _ _ _ h => h) (Or.inl ⟨by rfl, ?_⟩) (by assumption) ?_
              rotate_left 1
              · (intro w hSw; (try dsimp only at hSw); go_simp; (try with_reducible rfl))
              try simp only [Act.put, List.setIfInBounds_toArray, List.set_cons_zero, List.set_cons_succ]
              refine wpAnyH_take (i := 36) (oi := { dst := some 70, op := Op.move (Operand.tmp 9), type := 26, pos := "law.go:61", after := #[{ on := 29, ground := Ground.guard }], guard := some (29, true) }) (v := ?_) rfl (by kernel_rfl) (by kernel_rfl) (by kernel_rfl) (fun _ _ _ h => h) (Or.inl ⟨by rfl, ?_⟩) (by assumption) ?_
              rotate_left 1
              · (intro w hSw; (try dsimp only at hSw); go_simp; (try with_reducible rfl))
              try simp only [Act.put, List.setIfInBounds_toArray, List.set_cons_zero, List.set_cons_succ]
              refine wpAnyH_take (i := 37) (oi := { dst := some 71, op := Op.indexAddr 25 (Operand.tmp 5) (Operand.const (Value.int IntKind.i64 0)), type := 0, pos := "law.go:61", after := #[{ on := 29, ground := Ground.guard }], guard := some (29, true) }) (v := ?_) rfl (by kernel_rfl) (by kernel_rfl) (by kernel_rfl) (fun _ _ _ h => h) (Or.inl ⟨by rfl, ?_⟩) (by assumption) ?_
              rotate_left 1
              · (intro w hSw; (try dsimp only at hSw); go_simp; (try with_reducible rfl))
              try simp only [Act.put, List.setIfInBounds_toArray, List.set_cons_zero, List.set_cons_succ]
              refine wpAnyH_take (i := 38) (oi := { dst := some 72, op := Op.load 3 (Operand.tmp 71), type := 3, pos := "law.go:61", after := #[{ on := 37, ground := Ground.data }, { on := 29, ground := Ground.guard }], guard := some (29, true) }) (v := ?_) rfl (by kernel_rfl) (by kernel_rfl) (by kernel_rfl) (fun _ _ _ h => h) (Or.inl ⟨by rfl, ?_⟩) (by assumption) ?_
              rotate_left 1
              · (intro w hSw; (try dsimp only at hSw); go_simp; (try with_reducible rfl))
              try simp only [Act.put, List.setIfInBounds_toArray, List.set_cons_zero, List.set_cons_succ]
              refine wpAnyH_take (i := 39) (oi := { dst := some 73, op := Op.indexAddr 25 (Operand.tmp 5) (Operand.const (Value.int IntKind.i64 1)), type := 0, pos := "law.go:61", after := #[{ on := 29, ground := Ground.guard }], guard := some (29, true) }) (v := ?_) rfl (by kernel_rfl) (by kernel_rfl) (by kernel_rfl) (fun _ _ _ h => h) (Or.inl ⟨by rfl, ?_⟩) (by assumption) ?_
              rotate_left 1
              · (intro w hSw; (try dsimp only at hSw); go_simp; (try with_reducible rfl))
              try simp only [Act.put, List.setIfInBounds_toArray, List.set_cons_zero, List.set_cons_succ]
              refine wpAnyH_take (i := 40) (oi := { dst := some 74, op := Op.load 3 (Operand.tmp 73), type := 3, pos := "law.go:61", after := #[{ on := 39, ground := Ground.data }, { on := 29, ground := Ground.guard }], guard := some (29, true) }) (v := ?_) rfl (by kernel_rfl) (by kernel_rfl) (by kernel_rfl) (fun _ _ _ h => h) (Or.inl ⟨by rfl, ?_⟩) (by assumption) ?_
              rotate_left 1
              · (intro w hSw; (try dsimp only at hSw); go_simp; (try with_reducible rfl))
              try simp only [Act.put, List.setIfInBounds_toArray, List.set_cons_zero, List.set_cons_succ]
              refine wpAnyH_ready (rs := [35]) (by kernel_rfl) (by simp) (AllReadyH.cons (o := { dst := some 69, op := Op.call { callee := Callee.value (Operand.func 11), args := #[Operand.tmp 64, Operand.tmp 66, Operand.tmp 68], argTypes := #[26, 3, 3] }, type := 35, pos := "law.go:61", after := #[{ on := 30, ground := Ground.data }, { on := 32, ground := Ground.data }, { on := 34, ground := Ground.data }, { on := 29, ground := Ground.chain }, { on := 29, ground := Ground.guard }], guard := some (29, true) }) rfl (fun K hK => ?_) AllReadyH.nil)
              go_simp
              (go_at_call 11; (with_reducible refine (R1.out (by go_split_ands; assumption)).mono ?_); rintro e w9 ⟨q1, k1, rfl, hr1, hbb, hbc⟩; (try have HQ2 := Lib.hid (Tl.below HQ2.out hbc)); have HQ1 := Lib.hid hr1; clear hr1 hbc)
              refine hK.out _ _ ?_ (fun hHeld => ?_)
              · (try dsimp only); exact KEEP.out _ (by assumption)
              clear hK K
              try simp only [Act.put, List.setIfInBounds_toArray, List.set_cons_zero, List.set_cons_succ]
              refine wpAnyH_ready (rs := [41]) (by kernel_rfl) (by simp) (AllReadyH.cons (o := { dst := some 75, op := Op.call { callee := Callee.value (Operand.func 11), args := #[Operand.tmp 70, Operand.tmp 72, Operand.tmp 74], argTypes := #[26, 3, 3] }, type := 35, pos := "law.go:61", after := #[{ on := 36, ground := Ground.data }, { on := 38, ground := Ground.data }, { on := 40, ground := Ground.data }, { on := 35, ground := Ground.chain }, { on := 29, ground := Ground.guard }], guard := some (29, true) }) rfl (fun K hK => ?_) AllReadyH.nil)
              go_simp
              (go_at_call 11; (with_reducible refine (R2.out (by go_split_ands; assumption)).mono ?_); rintro e w9 ⟨q2, k2, rfl, hr2, hbb, hbc⟩; (try have HQ1 := Lib.hid (Tl.below HQ1.out hbc)); have HQ2 := Lib.hid hr2; clear hr2 hbc)
              refine hK.out _ _ ?_ (fun hHeld => ?_)
              · (try dsimp only); exact KEEP.out _ (by assumption)
              clear hK K
              try simp only [Act.put, List.setIfInBounds_toArray, List.set_cons_zero, List.set_cons_succ]
              refine wpAnyH_ready (rs := [42]) (by kernel_rfl) (by simp) (AllReadyH.cons (o := { dst := some 76, op := Op.call { callee := Callee.value (Operand.func 10), args := #[Operand.tmp 69, Operand.tmp 75], argTypes := #[35, 35] }, type := 4, pos := "law.go:61", after := #[{ on := 35, ground := Ground.data }, { on := 41, ground := Ground.data }, { on := 41, ground := Ground.chain }, { on := 29, ground := Ground.guard }], guard := some (29, true) }) rfl (fun K hK => ?_) AllReadyH.nil)
              go_simp
              (go_at_call 10; (with_reducible refine (rows_same_in (by go_split_ands; assumption) HQ1 HQ2).mono ?_); rintro e w9 ⟨rfl, hbb⟩)
              refine hK.out _ _ ?_ (fun hHeld => ?_)
              · (try dsimp only); exact KEEP.out _ (by assumption)
              clear hK K
              try simp only [Act.put, List.setIfInBounds_toArray, List.set_cons_zero, List.set_cons_succ]
              refine wpAnyH_take (i := 43) (oi := { dst := some 77, op := Op.unOp UnOp.not 4 (Operand.tmp 76), type := 4, pos := "law.go:61", after := #[{ on := 42, ground := Ground.data }, { on := 29, ground := Ground.guard }], guard := some (29, true) }) (v := ?_) rfl (by kernel_rfl) (by kernel_rfl) (by kernel_rfl) (fun _ _ _ h => h) (Or.inl ⟨by rfl, ?_⟩) (by assumption) ?_
              rotate_left 1
              · (intro w hSw; (try dsimp only at hSw); go_simp; (try with_reducible rfl))
              try simp only [Act.put, List.setIfInBounds_toArray, List.set_cons_zero, List.set_cons_succ]
              refine wpAnyH_take (i := 44) (oi := { dst := some 78, op := Op.pick (Operand.tmp 63) (Operand.tmp 77) (Operand.const (Value.bool false)), type := 4, pos := "law.go:61", after := #[{ on := 29, ground := Ground.data }, { on := 43, ground := Ground.data }, { on := 20, ground := Ground.guard }], guard := some (20, false) }) (v := ?_) rfl (by kernel_rfl) (by kernel_rfl) (by kernel_rfl) (fun _ _ _ h => h) (Or.inl ⟨by rfl, ?_⟩) (by assumption) ?_
              rotate_left 1
              · (intro w hSw; (try dsimp only at hSw); go_simp; (try with_reducible rfl))
              try simp only [Act.put, List.setIfInBounds_toArray, List.set_cons_zero, List.set_cons_succ]
              refine wpAnyH_take (i := 45) (oi := { dst := some 79, op := Op.pick (Operand.tmp 54) (Operand.const (Value.bool true)) (Operand.tmp 78), type := 4, pos := "law.go:61", after := #[{ on := 20, ground := Ground.data }, { on := 44, ground := Ground.data }], guard := none }) (v := ?_) rfl (by kernel_rfl) (by kernel_rfl) (by kernel_rfl) (fun _ _ _ h => h) (Or.inl ⟨by rfl, ?_⟩) (by assumption) ?_
              rotate_left 1
              · (intro w hSw; (try dsimp only at hSw); go_simp; (try with_reducible rfl))
              try simp only [Act.put, List.setIfInBounds_toArray, List.set_cons_zero, List.set_cons_succ]
              refine wpAnyH_done (by kernel_rfl) ?_ _
              go_wp2
              go_meet
              exact ⟨rfl, by assumption⟩
            · have d2 : decide (x < ml) = false := decide_eq_false hx2
              rw [← HML.out] at d2
              clear im1 im2 hx2
              refine wp_region_held_drew (S := (fun w' => w'.cell? ⟨g2, 0, none⟩ = some (.int .i64 x) ∧ w'.cell? ⟨g2, 1, none⟩ = some (.int .i64 y) ∧ w'.cell? ⟨w.heap.size, 1, none⟩ = some (.int .i64 vocab) ∧ w'.cell? ⟨g1, 1, none⟩ = some (.int .i64 vocab') ∧ w'.cell? ⟨w.heap.size, 3, none⟩ = some (.int .i64 layers) ∧ w'.cell? ⟨g1, 3, none⟩ = some (.int .i64 layers') ∧ Hid (Below w2.heap.size w2 w'))) (by kernel_rfl) ?_ (fun hHeld => ?_)
              · (try dsimp only); exact KEEP.out _ (by assumption)
              refine wpAnyH_take (i := 0) (oi := { dst := some 34, op := Op.indexAddr 25 (Operand.tmp 5) (Operand.const (Value.int IntKind.i64 0)), type := 0, pos := "law.go:61", after := #[], guard := none }) (v := ?_) rfl (by kernel_rfl) (by kernel_rfl) (by kernel_rfl) (fun _ _ _ h => h) (Or.inl ⟨by rfl, ?_⟩) (by assumption) ?_
              rotate_left 1
              · (intro w hSw; (try dsimp only at hSw); go_simp; (try with_reducible rfl))
              try simp only [Act.put, List.setIfInBounds_toArray, List.set_cons_zero, List.set_cons_succ]
              refine wpAnyH_take (i := 1) (oi := { dst := some 35, op := Op.load 3 (Operand.tmp 34), type := 3, pos := "law.go:61", after := #[{ on := 0, ground := Ground.data }], guard := none }) (v := ?_) rfl (by kernel_rfl) (by kernel_rfl) (by kernel_rfl) (fun _ _ _ h => h) (Or.inl ⟨by rfl, ?_⟩) (by assumption) ?_
              rotate_left 1
              · (intro w hSw; (try dsimp only at hSw); go_simp; (try with_reducible rfl))
              try simp only [Act.put, List.setIfInBounds_toArray, List.set_cons_zero, List.set_cons_succ]
              refine wpAnyH_take (i := 2) (oi := { dst := some 36, op := Op.fieldAddr 24 (Operand.tmp 3) 1, type := 0, pos := "law.go:61", after := #[], guard := none }) (v := ?_) rfl (by kernel_rfl) (by kernel_rfl) (by kernel_rfl) (fun _ _ _ h => h) (Or.inl ⟨by rfl, ?_⟩) (by assumption) ?_
              rotate_left 1
              · (intro w hSw; (try dsimp only at hSw); go_simp; (try with_reducible rfl))
              try simp only [Act.put, List.setIfInBounds_toArray, List.set_cons_zero, List.set_cons_succ]
              refine wpAnyH_take (i := 3) (oi := { dst := some 37, op := Op.load 3 (Operand.tmp 36), type := 3, pos := "law.go:61", after := #[{ on := 2, ground := Ground.data }], guard := none }) (v := ?_) rfl (by kernel_rfl) (by kernel_rfl) (by kernel_rfl) (fun _ _ _ h => h) (Or.inl ⟨by rfl, ?_⟩) (by assumption) ?_
              rotate_left 1
              · (intro w hSw; (try dsimp only at hSw); go_simp; (try with_reducible rfl))
              try simp only [Act.put, List.setIfInBounds_toArray, List.set_cons_zero, List.set_cons_succ]
              refine wpAnyH_take (i := 4) (oi := { dst := some 38, op := Op.fieldAddr 24 (Operand.tmp 4) 1, type := 0, pos := "law.go:61", after := #[], guard := none }) (v := ?_) rfl (by kernel_rfl) (by kernel_rfl) (by kernel_rfl) (fun _ _ _ h => h) (Or.inl ⟨by rfl, ?_⟩) (by assumption) ?_
              rotate_left 1
              · (intro w hSw; (try dsimp only at hSw); go_simp; (try with_reducible rfl))
              try simp only [Act.put, List.setIfInBounds_toArray, List.set_cons_zero, List.set_cons_succ]
              refine wpAnyH_take (i := 5) (oi := { dst := some 39, op := Op.load 3 (Operand.tmp 38), type := 3, pos := "law.go:61", after := #[{ on := 4, ground := Ground.data }], guard := none }) (v := ?_) rfl (by kernel_rfl) (by kernel_rfl) (by kernel_rfl) (fun _ _ _ h => h) (Or.inl ⟨by rfl, ?_⟩) (by assumption) ?_
              rotate_left 1
              · (intro w hSw; (try dsimp only at hSw); go_simp; (try with_reducible rfl))
              try simp only [Act.put, List.setIfInBounds_toArray, List.set_cons_zero, List.set_cons_succ]
              refine wpAnyH_ready (rs := [6]) (by kernel_rfl) (by simp) (AllReadyH.cons (o := { dst := some 40, op := Op.call { callee := Callee.builtin Builtin.min, args := #[Operand.tmp 37, Operand.tmp 39], argTypes := #[3, 3] }, type := 3, pos := "law.go:61", after := #[{ on := 3, ground := Ground.data }, { on := 5, ground := Ground.data }], guard := none }) rfl (fun K hK => ?_) AllReadyH.nil)
              go_simp
              refine hK.out _ _ ?_ (fun hHeld => ?_)
              · (try dsimp only); exact KEEP.out _ (by assumption)
              clear hK K
              try simp only [Act.put, List.setIfInBounds_toArray, List.set_cons_zero, List.set_cons_succ]
              refine wpAnyH_take (i := 7) (oi := { dst := some 41, op := Op.binOp BinOp.lss 3 (Operand.tmp 35) (Operand.tmp 40) 3, type := 4, pos := "law.go:61", after := #[{ on := 1, ground := Ground.data }, { on := 6, ground := Ground.data }], guard := none }) (v := ?_) rfl (by kernel_rfl) (by kernel_rfl) (by kernel_rfl) (fun _ _ _ h => h) (Or.inl ⟨by rfl, ?_⟩) (by assumption) ?_
              rotate_left 1
              · (intro w hSw; (try dsimp only at hSw); go_simp; (try with_reducible rfl))
              try simp only [Act.put, List.setIfInBounds_toArray, List.set_cons_zero, List.set_cons_succ]
              refine wpAnyH_take (i := 8) (oi := { dst := some 42, op := Op.move (Operand.tmp 41), type := 4, pos := "law.go:61", after := #[{ on := 7, ground := Ground.data }], guard := none }) (v := ?_) rfl (by kernel_rfl) (by kernel_rfl) (by kernel_rfl) (fun _ _ _ h => h) (Or.inl ⟨by rfl, ?_⟩) (by assumption) ?_
              rotate_left 1
              · (intro w hSw; (try dsimp only at hSw); go_simp; (try with_reducible rfl))
              try simp only [Act.put, List.setIfInBounds_toArray, List.set_cons_zero, List.set_cons_succ]
              refine wpAnyH_take (i := 9) (oi := { dst := some 43, op := Op.move (Operand.tmp 7), type := 26, pos := "law.go:61", after := #[{ on := 8, ground := Ground.guard }], guard := some (8, true) }) (v := undef) rfl (by kernel_rfl) (by kernel_rfl) (by kernel_rfl) (fun _ _ _ h => h) (Or.inr ⟨by rfl, rfl⟩) (by assumption) ?_
              try simp only [Act.put, List.setIfInBounds_toArray, List.set_cons_zero, List.set_cons_succ]
              refine wpAnyH_take (i := 10) (oi := { dst := some 44, op := Op.indexAddr 25 (Operand.tmp 5) (Operand.const (Value.int IntKind.i64 0)), type := 0, pos := "law.go:61", after := #[{ on := 8, ground := Ground.guard }], guard := some (8, true) }) (v := undef) rfl (by kernel_rfl) (by kernel_rfl) (by kernel_rfl) (fun _ _ _ h => h) (Or.inr ⟨by rfl, rfl⟩) (by assumption) ?_
              try simp only [Act.put, List.setIfInBounds_toArray, List.set_cons_zero, List.set_cons_succ]
              refine wpAnyH_take (i := 11) (oi := { dst := some 45, op := Op.load 3 (Operand.tmp 44), type := 3, pos := "law.go:61", after := #[{ on := 10, ground := Ground.data }, { on := 8, ground := Ground.guard }], guard := some (8, true) }) (v := undef) rfl (by kernel_rfl) (by kernel_rfl) (by kernel_rfl) (fun _ _ _ h => h) (Or.inr ⟨by rfl, rfl⟩) (by assumption) ?_
              try simp only [Act.put, List.setIfInBounds_toArray, List.set_cons_zero, List.set_cons_succ]
              refine wpAnyH_take (i := 12) (oi := { dst := some 46, op := Op.call { callee := Callee.value (Operand.func 9), args := #[Operand.tmp 43, Operand.tmp 45], argTypes := #[26, 3] }, type := 32, pos := "law.go:61", after := #[{ on := 9, ground := Ground.data }, { on := 11, ground := Ground.data }, { on := 8, ground := Ground.chain }, { on := 8, ground := Ground.guard }], guard := some (8, true) }) (v := undef) rfl (by kernel_rfl) (by kernel_rfl) (by kernel_rfl) (fun _ _ _ h => h) (Or.inr ⟨by rfl, rfl⟩) (by assumption) ?_
              try simp only [Act.put, List.setIfInBounds_toArray, List.set_cons_zero, List.set_cons_succ]
              refine wpAnyH_take (i := 13) (oi := { dst := some 47, op := Op.move (Operand.tmp 9), type := 26, pos := "law.go:61", after := #[{ on := 8, ground := Ground.guard }], guard := some (8, true) }) (v := undef) rfl (by kernel_rfl) (by kernel_rfl) (by kernel_rfl) (fun _ _ _ h => h) (Or.inr ⟨by rfl, rfl⟩) (by assumption) ?_
              try simp only [Act.put, List.setIfInBounds_toArray, List.set_cons_zero, List.set_cons_succ]
              refine wpAnyH_take (i := 14) (oi := { dst := some 48, op := Op.indexAddr 25 (Operand.tmp 5) (Operand.const (Value.int IntKind.i64 0)), type := 0, pos := "law.go:61", after := #[{ on := 8, ground := Ground.guard }], guard := some (8, true) }) (v := undef) rfl (by kernel_rfl) (by kernel_rfl) (by kernel_rfl) (fun _ _ _ h => h) (Or.inr ⟨by rfl, rfl⟩) (by assumption) ?_
              try simp only [Act.put, List.setIfInBounds_toArray, List.set_cons_zero, List.set_cons_succ]
              refine wpAnyH_take (i := 15) (oi := { dst := some 49, op := Op.load 3 (Operand.tmp 48), type := 3, pos := "law.go:61", after := #[{ on := 14, ground := Ground.data }, { on := 8, ground := Ground.guard }], guard := some (8, true) }) (v := undef) rfl (by kernel_rfl) (by kernel_rfl) (by kernel_rfl) (fun _ _ _ h => h) (Or.inr ⟨by rfl, rfl⟩) (by assumption) ?_
              try simp only [Act.put, List.setIfInBounds_toArray, List.set_cons_zero, List.set_cons_succ]
              refine wpAnyH_take (i := 16) (oi := { dst := some 50, op := Op.call { callee := Callee.value (Operand.func 9), args := #[Operand.tmp 47, Operand.tmp 49], argTypes := #[26, 3] }, type := 32, pos := "law.go:61", after := #[{ on := 13, ground := Ground.data }, { on := 15, ground := Ground.data }, { on := 12, ground := Ground.chain }, { on := 8, ground := Ground.guard }], guard := some (8, true) }) (v := undef) rfl (by kernel_rfl) (by kernel_rfl) (by kernel_rfl) (fun _ _ _ h => h) (Or.inr ⟨by rfl, rfl⟩) (by assumption) ?_
              try simp only [Act.put, List.setIfInBounds_toArray, List.set_cons_zero, List.set_cons_succ]
              refine wpAnyH_take (i := 17) (oi := { dst := some 51, op := Op.call { callee := Callee.value (Operand.func 8), args := #[Operand.tmp 46, Operand.tmp 50], argTypes := #[32, 32] }, type := 4, pos := "law.go:61", after := #[{ on := 12, ground := Ground.data }, { on := 16, ground := Ground.data }, { on := 16, ground := Ground.chain }, { on := 8, ground := Ground.guard }], guard := some (8, true) }) (v := undef) rfl (by kernel_rfl) (by kernel_rfl) (by kernel_rfl) (fun _ _ _ h => h) (Or.inr ⟨by rfl, rfl⟩) (by assumption) ?_
              try simp only [Act.put, List.setIfInBounds_toArray, List.set_cons_zero, List.set_cons_succ]
              refine wpAnyH_take (i := 18) (oi := { dst := some 52, op := Op.unOp UnOp.not 4 (Operand.tmp 51), type := 4, pos := "law.go:61", after := #[{ on := 17, ground := Ground.data }, { on := 8, ground := Ground.guard }], guard := some (8, true) }) (v := undef) rfl (by kernel_rfl) (by kernel_rfl) (by kernel_rfl) (fun _ _ _ h => h) (Or.inr ⟨by rfl, rfl⟩) (by assumption) ?_
              try simp only [Act.put, List.setIfInBounds_toArray, List.set_cons_zero, List.set_cons_succ]
              refine wpAnyH_take (i := 19) (oi := { dst := some 53, op := Op.pick (Operand.tmp 42) (Operand.tmp 52) (Operand.const (Value.bool false)), type := 4, pos := "law.go:61", after := #[{ on := 8, ground := Ground.data }, { on := 18, ground := Ground.data }], guard := none }) (v := ?_) rfl (by kernel_rfl) (by kernel_rfl) (by kernel_rfl) (fun _ _ _ h => h) (Or.inl ⟨by rfl, ?_⟩) (by assumption) ?_
              rotate_left 1
              · (intro w hSw; (try dsimp only at hSw); go_simp; (try with_reducible rfl))
              try simp only [Act.put, List.setIfInBounds_toArray, List.set_cons_zero, List.set_cons_succ]
              refine wpAnyH_take (i := 20) (oi := { dst := some 54, op := Op.move (Operand.tmp 53), type := 4, pos := "law.go:61", after := #[{ on := 19, ground := Ground.data }, { on := 17, ground := Ground.chain }], guard := none }) (v := ?_) rfl (by kernel_rfl) (by kernel_rfl) (by kernel_rfl) (fun _ _ _ h => h) (Or.inl ⟨by rfl, ?_⟩) (by assumption) ?_
              rotate_left 1
              · (intro w hSw; (try dsimp only at hSw); go_simp; (try with_reducible rfl))
              try simp only [Act.put, List.setIfInBounds_toArray, List.set_cons_zero, List.set_cons_succ]
              refine wpAnyH_take (i := 21) (oi := { dst := some 55, op := Op.indexAddr 25 (Operand.tmp 5) (Operand.const (Value.int IntKind.i64 0)), type := 0, pos := "law.go:61", after := #[{ on := 20, ground := Ground.guard }], guard := some (20, false) }) (v := ?_) rfl (by kernel_rfl) (by kernel_rfl) (by kernel_rfl) (fun _ _ _ h => h) (Or.inl ⟨by rfl, ?_⟩) (by assumption) ?_
              rotate_left 1
              · (intro w hSw; (try dsimp only at hSw); go_simp; (try with_reducible rfl))
              try simp only [Act.put, List.setIfInBounds_toArray, List.set_cons_zero, List.set_cons_succ]
              refine wpAnyH_take (i := 22) (oi := { dst := some 56, op := Op.load 3 (Operand.tmp 55), type := 3, pos := "law.go:61", after := #[{ on := 21, ground := Ground.data }, { on := 20, ground := Ground.guard }], guard := some (20, false) }) (v := ?_) rfl (by kernel_rfl) (by kernel_rfl) (by kernel_rfl) (fun _ _ _ h => h) (Or.inl ⟨by rfl, ?_⟩) (by assumption) ?_
              rotate_left 1
              · (intro w hSw; (try dsimp only at hSw); go_simp; (try with_reducible rfl))
              try simp only [Act.put, List.setIfInBounds_toArray, List.set_cons_zero, List.set_cons_succ]
              refine wpAnyH_take (i := 23) (oi := { dst := some 57, op := Op.fieldAddr 24 (Operand.tmp 3) 3, type := 0, pos := "law.go:61", after := #[{ on := 20, ground := Ground.guard }], guard := some (20, false) }) (v := ?_) rfl (by kernel_rfl) (by kernel_rfl) (by kernel_rfl) (fun _ _ _ h => h) (Or.inl ⟨by rfl, ?_⟩) (by assumption) ?_
              rotate_left 1
              · (intro w hSw; (try dsimp only at hSw); go_simp; (try with_reducible rfl))
              try simp only [Act.put, List.setIfInBounds_toArray, List.set_cons_zero, List.set_cons_succ]
              refine wpAnyH_take (i := 24) (oi := { dst := some 58, op := Op.load 3 (Operand.tmp 57), type := 3, pos := "law.go:61", after := #[{ on := 23, ground := Ground.data }, { on := 20, ground := Ground.guard }], guard := some (20, false) }) (v := ?_) rfl (by kernel_rfl) (by kernel_rfl) (by kernel_rfl) (fun _ _ _ h => h) (Or.inl ⟨by rfl, ?_⟩) (by assumption) ?_
              rotate_left 1
              · (intro w hSw; (try dsimp only at hSw); go_simp; (try with_reducible rfl))
              try simp only [Act.put, List.setIfInBounds_toArray, List.set_cons_zero, List.set_cons_succ]
              refine wpAnyH_take (i := 25) (oi := { dst := some 59, op := Op.fieldAddr 24 (Operand.tmp 4) 3, type := 0, pos := "law.go:61", after := #[{ on := 20, ground := Ground.guard }], guard := some (20, false) }) (v := ?_) rfl (by kernel_rfl) (by kernel_rfl) (by kernel_rfl) (fun _ _ _ h => h) (Or.inl ⟨by rfl, ?_⟩) (by assumption) ?_
              rotate_left 1
              · (intro w hSw; (try dsimp only at hSw); go_simp; (try with_reducible rfl))
              try simp only [Act.put, List.setIfInBounds_toArray, List.set_cons_zero, List.set_cons_succ]
              refine wpAnyH_take (i := 26) (oi := { dst := some 60, op := Op.load 3 (Operand.tmp 59), type := 3, pos := "law.go:61", after := #[{ on := 25, ground := Ground.data }, { on := 20, ground := Ground.guard }], guard := some (20, false) }) (v := ?_) rfl (by kernel_rfl) (by kernel_rfl) (by kernel_rfl) (fun _ _ _ h => h) (Or.inl ⟨by rfl, ?_⟩) (by assumption) ?_
              rotate_left 1
              · (intro w hSw; (try dsimp only at hSw); go_simp; (try with_reducible rfl))
              try simp only [Act.put, List.setIfInBounds_toArray, List.set_cons_zero, List.set_cons_succ]
              refine wpAnyH_ready (rs := [27]) (by kernel_rfl) (by simp) (AllReadyH.cons (o := { dst := some 61, op := Op.call { callee := Callee.builtin Builtin.min, args := #[Operand.tmp 58, Operand.tmp 60], argTypes := #[3, 3] }, type := 3, pos := "law.go:61", after := #[{ on := 24, ground := Ground.data }, { on := 26, ground := Ground.data }, { on := 20, ground := Ground.guard }], guard := some (20, false) }) rfl (fun K hK => ?_) AllReadyH.nil)
              go_simp
              refine hK.out _ _ ?_ (fun hHeld => ?_)
              · (try dsimp only); exact KEEP.out _ (by assumption)
              clear hK K
              try simp only [Act.put, List.setIfInBounds_toArray, List.set_cons_zero, List.set_cons_succ]
              refine wpAnyH_take (i := 28) (oi := { dst := some 62, op := Op.binOp BinOp.lss 3 (Operand.tmp 56) (Operand.tmp 61) 3, type := 4, pos := "law.go:61", after := #[{ on := 22, ground := Ground.data }, { on := 27, ground := Ground.data }, { on := 20, ground := Ground.guard }], guard := some (20, false) }) (v := ?_) rfl (by kernel_rfl) (by kernel_rfl) (by kernel_rfl) (fun _ _ _ h => h) (Or.inl ⟨by rfl, ?_⟩) (by assumption) ?_
              rotate_left 1
              · (intro w hSw; (try dsimp only at hSw); go_simp; (try with_reducible rfl))
              try simp only [Act.put, List.setIfInBounds_toArray, List.set_cons_zero, List.set_cons_succ]
              refine wpAnyH_take (i := 29) (oi := { dst := some 63, op := Op.move (Operand.tmp 62), type := 4, pos := "law.go:61", after := #[{ on := 28, ground := Ground.data }, { on := 20, ground := Ground.chain }, { on := 20, ground := Ground.guard }], guard := some (20, false) }) (v := ?_) rfl (by kernel_rfl) (by kernel_rfl) (by kernel_rfl) (fun _ _ _ h => h) (Or.inl ⟨by rfl, ?_⟩) (by assumption) ?_
              rotate_left 1
              · (intro w hSw; (try dsimp only at hSw); go_simp; (try with_reducible rfl))
              try simp only [Act.put, List.setIfInBounds_toArray, List.set_cons_zero, List.set_cons_succ]
              refine wpAnyH_take (i := 30) (oi := { dst := some 64, op := Op.move (Operand.tmp 7), type := 26, pos := "law.go:61", after := #[{ on := 29, ground := Ground.guard }], guard := some (29, true) }) (v := undef) rfl (by kernel_rfl) (by kernel_rfl) (by kernel_rfl) (fun _ _ _ h => h) (Or.inr ⟨by rfl, rfl⟩) (by assumption) ?_
              try simp only [Act.put, List.setIfInBounds_toArray, List.set_cons_zero, List.set_cons_succ]
              refine wpAnyH_take (i := 31) (oi := { dst := some 65, op := Op.indexAddr 25 (Operand.tmp 5) (Operand.const (Value.int IntKind.i64 0)), type := 0, pos := "law.go:61", after := #[{ on := 29, ground := Ground.guard }], guard := some (29, true) }) (v := undef) rfl (by kernel_rfl) (by kernel_rfl) (by kernel_rfl) (fun _ _ _ h => h) (Or.inr ⟨by rfl, rfl⟩) (by assumption) ?_
              try simp only [Act.put, List.setIfInBounds_toArray, List.set_cons_zero, List.set_cons_succ]
              refine wpAnyH_take (i := 32) (oi := { dst := some 66, op := Op.load 3 (Operand.tmp 65), type := 3, pos := "law.go:61", after := #[{ on := 31, ground := Ground.data }, { on := 29, ground := Ground.guard }], guard := some (29, true) }) (v := undef) rfl (by kernel_rfl) (by kernel_rfl) (by kernel_rfl) (fun _ _ _ h => h) (Or.inr ⟨by rfl, rfl⟩) (by assumption) ?_
              try simp only [Act.put, List.setIfInBounds_toArray, List.set_cons_zero, List.set_cons_succ]
              refine wpAnyH_take (i := 33) (oi := { dst := some 67, op := Op.indexAddr 25 (Operand.tmp 5) (Operand.const (Value.int IntKind.i64 1)), type := 0, pos := "law.go:61", after := #[{ on := 29, ground := Ground.guard }], guard := some (29, true) }) (v := undef) rfl (by kernel_rfl) (by kernel_rfl) (by kernel_rfl) (fun _ _ _ h => h) (Or.inr ⟨by rfl, rfl⟩) (by assumption) ?_
              try simp only [Act.put, List.setIfInBounds_toArray, List.set_cons_zero, List.set_cons_succ]
              refine wpAnyH_take (i := 34) (oi := { dst := some 68, op := Op.load 3 (Operand.tmp 67), type := 3, pos := "law.go:61", after := #[{ on := 33, ground := Ground.data }, { on := 29, ground := Ground.guard }], guard := some (29, true) }) (v := undef) rfl (by kernel_rfl) (by kernel_rfl) (by kernel_rfl) (fun _ _ _ h => h) (Or.inr ⟨by rfl, rfl⟩) (by assumption) ?_
              try simp only [Act.put, List.setIfInBounds_toArray, List.set_cons_zero, List.set_cons_succ]
              refine wpAnyH_take (i := 35) (oi := { dst := some 69, op := Op.call { callee := Callee.value (Operand.func 11), args := #[Operand.tmp 64, Operand.tmp 66, Operand.tmp 68], argTypes := #[26, 3, 3] }, type := 35, pos := "law.go:61", after := #[{ on := 30, ground := Ground.data }, { on := 32, ground := Ground.data }, { on := 34, ground := Ground.data }, { on := 29, ground := Ground.chain }, { on := 29, ground := Ground.guard }], guard := some (29, true) }) (v := undef) rfl (by kernel_rfl) (by kernel_rfl) (by kernel_rfl) (fun _ _ _ h => h) (Or.inr ⟨by rfl, rfl⟩) (by assumption) ?_
              try simp only [Act.put, List.setIfInBounds_toArray, List.set_cons_zero, List.set_cons_succ]
              refine wpAnyH_take (i := 36) (oi := { dst := some 70, op := Op.move (Operand.tmp 9), type := 26, pos := "law.go:61", after := #[{ on := 29, ground := Ground.guard }], guard := some (29, true) }) (v := undef) rfl (by kernel_rfl) (by kernel_rfl) (by kernel_rfl) (fun _ _ _ h => h) (Or.inr ⟨by rfl, rfl⟩) (by assumption) ?_
              try simp only [Act.put, List.setIfInBounds_toArray, List.set_cons_zero, List.set_cons_succ]
              refine wpAnyH_take (i := 37) (oi := { dst := some 71, op := Op.indexAddr 25 (Operand.tmp 5) (Operand.const (Value.int IntKind.i64 0)), type := 0, pos := "law.go:61", after := #[{ on := 29, ground := Ground.guard }], guard := some (29, true) }) (v := undef) rfl (by kernel_rfl) (by kernel_rfl) (by kernel_rfl) (fun _ _ _ h => h) (Or.inr ⟨by rfl, rfl⟩) (by assumption) ?_
              try simp only [Act.put, List.setIfInBounds_toArray, List.set_cons_zero, List.set_cons_succ]
              refine wpAnyH_take (i := 38) (oi := { dst := some 72, op := Op.load 3 (Operand.tmp 71), type := 3, pos := "law.go:61", after := #[{ on := 37, ground := Ground.data }, { on := 29, ground := Ground.guard }], guard := some (29, true) }) (v := undef) rfl (by kernel_rfl) (by kernel_rfl) (by kernel_rfl) (fun _ _ _ h => h) (Or.inr ⟨by rfl, rfl⟩) (by assumption) ?_
              try simp only [Act.put, List.setIfInBounds_toArray, List.set_cons_zero, List.set_cons_succ]
              refine wpAnyH_take (i := 39) (oi := { dst := some 73, op := Op.indexAddr 25 (Operand.tmp 5) (Operand.const (Value.int IntKind.i64 1)), type := 0, pos := "law.go:61", after := #[{ on := 29, ground := Ground.guard }], guard := some (29, true) }) (v := undef) rfl (by kernel_rfl) (by kernel_rfl) (by kernel_rfl) (fun _ _ _ h => h) (Or.inr ⟨by rfl, rfl⟩) (by assumption) ?_
              try simp only [Act.put, List.setIfInBounds_toArray, List.set_cons_zero, List.set_cons_succ]
              refine wpAnyH_take (i := 40) (oi := { dst := some 74, op := Op.load 3 (Operand.tmp 73), type := 3, pos := "law.go:61", after := #[{ on := 39, ground := Ground.data }, { on := 29, ground := Ground.guard }], guard := some (29, true) }) (v := undef) rfl (by kernel_rfl) (by kernel_rfl) (by kernel_rfl) (fun _ _ _ h => h) (Or.inr ⟨by rfl, rfl⟩) (by assumption) ?_
              try simp only [Act.put, List.setIfInBounds_toArray, List.set_cons_zero, List.set_cons_succ]
              refine wpAnyH_take (i := 41) (oi := { dst := some 75, op := Op.call { callee := Callee.value (Operand.func 11), args := #[Operand.tmp 70, Operand.tmp 72, Operand.tmp 74], argTypes := #[26, 3, 3] }, type := 35, pos := "law.go:61", after := #[{ on := 36, ground := Ground.data }, { on := 38, ground := Ground.data }, { on := 40, ground := Ground.data }, { on := 35, ground := Ground.chain }, { on := 29, ground := Ground.guard }], guard := some (29, true) }) (v := undef) rfl (by kernel_rfl) (by kernel_rfl) (by kernel_rfl) (fun _ _ _ h => h) (Or.inr ⟨by rfl, rfl⟩) (by assumption) ?_
              try simp only [Act.put, List.setIfInBounds_toArray, List.set_cons_zero, List.set_cons_succ]
              refine wpAnyH_take (i := 42) (oi := { dst := some 76, op := Op.call { callee := Callee.value (Operand.func 10), args := #[Operand.tmp 69, Operand.tmp 75], argTypes := #[35, 35] }, type := 4, pos := "law.go:61", after := #[{ on := 35, ground := Ground.data }, { on := 41, ground := Ground.data }, { on := 41, ground := Ground.chain }, { on := 29, ground := Ground.guard }], guard := some (29, true) }) (v := undef) rfl (by kernel_rfl) (by kernel_rfl) (by kernel_rfl) (fun _ _ _ h => h) (Or.inr ⟨by rfl, rfl⟩) (by assumption) ?_
              try simp only [Act.put, List.setIfInBounds_toArray, List.set_cons_zero, List.set_cons_succ]
              refine wpAnyH_take (i := 43) (oi := { dst := some 77, op := Op.unOp UnOp.not 4 (Operand.tmp 76), type := 4, pos := "law.go:61", after := #[{ on := 42, ground := Ground.data }, { on := 29, ground := Ground.guard }], guard := some (29, true) }) (v := undef) rfl (by kernel_rfl) (by kernel_rfl) (by kernel_rfl) (fun _ _ _ h => h) (Or.inr ⟨by rfl, rfl⟩) (by assumption) ?_
              try simp only [Act.put, List.setIfInBounds_toArray, List.set_cons_zero, List.set_cons_succ]
              refine wpAnyH_take (i := 44) (oi := { dst := some 78, op := Op.pick (Operand.tmp 63) (Operand.tmp 77) (Operand.const (Value.bool false)), type := 4, pos := "law.go:61", after := #[{ on := 29, ground := Ground.data }, { on := 43, ground := Ground.data }, { on := 20, ground := Ground.guard }], guard := some (20, false) }) (v := ?_) rfl (by kernel_rfl) (by kernel_rfl) (by kernel_rfl) (fun _ _ _ h => h) (Or.inl ⟨by rfl, ?_⟩) (by assumption) ?_
              rotate_left 1
              · (intro w hSw; (try dsimp only at hSw); go_simp; (try with_reducible rfl))
              try simp only [Act.put, List.setIfInBounds_toArray, List.set_cons_zero, List.set_cons_succ]
              refine wpAnyH_take (i := 45) (oi := { dst := some 79, op := Op.pick (Operand.tmp 54) (Operand.const (Value.bool true)) (Operand.tmp 78), type := 4, pos := "law.go:61", after := #[{ on := 20, ground := Ground.data }, { on := 44, ground := Ground.data }], guard := none }) (v := ?_) rfl (by kernel_rfl) (by kernel_rfl) (by kernel_rfl) (fun _ _ _ h => h) (Or.inl ⟨by rfl, ?_⟩) (by assumption) ?_
              rotate_left 1
              · (intro w hSw; (try dsimp only at hSw); go_simp; (try with_reducible rfl))
              try simp only [Act.put, List.setIfInBounds_toArray, List.set_cons_zero, List.set_cons_succ]
              refine wpAnyH_done (by kernel_rfl) ?_ _
              go_wp2
              go_meet
              exact ⟨rfl, by assumption⟩
        case rest =>
          obtain ⟨rfl, HWC⟩ := hcut
          have HWD : Hid (Below w2.heap.size w2 wc.drew) := Lib.hid (below_drew HWC.out)
          have HFIN : Hid (∀ w', Hid (Below w2.heap.size w2 w') → Below w.heap.size w w') := Lib.hid (fun w' h => HHL.out.trans (h.out.mono HHL.out.size))
          have KEEP8 : Hid (∀ w' : World, Hid (Below w2.heap.size w2 w') → w'.cell? ⟨g2, 1, none⟩ = some (.int .i64 y) ∧ Hid (Below w2.heap.size w2 w')) := Lib.hid (fun w' h => ⟨(KEEP.out w' h).2.1, h⟩)
          clear KEEP K1 K2 R1 R2 HVQ HLQ HMV HML HFR HDRAW HHL HWC
          obtain ⟨lp, HLP⟩ : ∃ l, Hid (want c dim' 256 1 y = l) := ⟨_, rfl⟩
          rw [HLP.out] at P1 P2
          go_upto_region 8 with (fail)
          go_region_held3 (fun w' => w'.cell? ⟨g2, 1, none⟩ = some (.int .i64 y) ∧ Hid (Below w2.heap.size w2 w')) (exact KEEP8.out _ (by assumption)) (first | (go_at_call 12; (with_reducible refine (P1.out (by go_split_ands; assumption)).mono ?_); rintro e w9 ⟨a1, c1, rfl, hr1, hbb, hbc⟩; (try have HA1 := Lib.hid (rd_on HA1.out hbc)); (try have HA2 := Lib.hid (rd_on HA2.out hbc)); have HA1 := Lib.hid hr1; clear hr1 hbc) | (go_at_call 12; (with_reducible refine (P2.out (by go_split_ands; assumption)).mono ?_); rintro e w9 ⟨a2, c2, rfl, hr2, hbb, hbc⟩; (try have HA2 := Lib.hid (rd_on HA2.out hbc)); (try have HA1 := Lib.hid (rd_on HA1.out hbc)); have HA2 := Lib.hid hr2; clear hr2 hbc) | (go_at_call 8; (with_reducible refine (same_in (by go_split_ands; assumption) HA1 HA2).mono ?_); rintro e w9 ⟨rfl, hbb⟩) | (go_at_call 7; (with_reducible refine (alive_in (by go_split_ands; assumption)).mono ?_); rintro e w9 ⟨rfl, hbb⟩))
          all_goals go_wp2
          all_goals go_ret
          all_goals exact ⟨rfl, HFIN.out _ (by assumption)⟩
end
end Go.Proofs.Ytpcanolanhdfeaa.MdP
