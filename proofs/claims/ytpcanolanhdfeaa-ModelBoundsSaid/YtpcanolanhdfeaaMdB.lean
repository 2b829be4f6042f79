/-
  ModelBounds: weights are from -One to One; what is answered may be written over; a model that nobody made has nothing.
-/
import Derived.Test.YtpcanolanhdfeaaMdQ
namespace Go.Proofs.Ytpcanolanhdfeaa.MdB
open Go.RowKit Go.Proofs.Ytpcanolanhdfeaa.Kit Go.Proofs.Ytpcanolanhdfeaa.Math Go.Proofs.Ytpcanolanhdfeaa.MdR Go.Proofs.Ytpcanolanhdfeaa.MdW Go.Proofs.Ytpcanolanhdfeaa.MdT Go.Proofs.Ytpcanolanhdfeaa.MdM Go.Proofs.Ytpcanolanhdfeaa.MdN Go.Proofs.Ytpcanolanhdfeaa.MdV Go.Proofs.Ytpcanolanhdfeaa.MdL Go.Proofs.Ytpcanolanhdfeaa.MdP
attribute [local go_sem high] max_imax min_imin
attribute [local go_sem ↓] Go.wp_at_zero Go.wp_at_succ
set_option linter.unusedVariables false
set_option linter.unusedSimpArgs false

/-! Rows that may be written over. -/
def Fine (l : List Int) : Prop := ∀ x ∈ l, -65536 ≤ x ∧ x ≤ 65536
abbrev Rw := Option Addr × Nat × Nat
def Rg (w : World) (B : Nat) (p : Rw) : Prop := ∃ xs : List Int, Own w B 2 1 p.1 p.2.1 p.2.2 (ints xs) ∧ Fine xs
def rc (R : List Rw) : List Value := R.map fun p => .slice p.1 p.2.1 p.2.2
theorem fine_map (n : Nat) (f : Nat → Int) (hf : ∀ i, -65536 ≤ f i ∧ f i ≤ 65536) : Fine ((List.range n).map f) := by
  intro x hx
  obtain ⟨i, _, e⟩ := List.mem_map.1 hx
  have := hf i
  omega
theorem fine_qtr {l : List Int} (h : Fine l) : Fine (l.map qtr) := by
  intro x hx
  obtain ⟨y, hy, e⟩ := List.mem_map.1 hx
  have := h y hy
  unfold qtr at e
  omega
theorem wrow_fine (s : BitVec 64) (dim r : Nat) : Fine (wrow s dim r) := fine_map dim (Wt s r) (fun i => ⟨Wt_lo s r i, Wt_hi s r i⟩)
theorem frow_fine (c : Cfg) (dim t r : Nat) : Fine (frow c dim t r) := by
  by_cases h : t = 1
  · have e : frow c dim t r = (wrow (tseed c 1) dim r).map qtr := if_pos h
    rw [e]
    exact fine_qtr (wrow_fine _ _ _)
  · have e : frow c dim t r = wrow (tseed c t) dim r := if_neg h
    rw [e]
    exact wrow_fine _ _ _
theorem want_fine (c : Cfg) (dim rows t : Nat) (r : Int) : Fine (want c dim rows t r) := by
  unfold want
  split
  · exact frow_fine _ _ _ _
  · intro x hx
    cases hx
section
variable {w w' : World} {B : Nat} {p : Rw}
theorem Rg.chg {S : Nat → Prop} (h : Rg w B p) (hc : Chg S w w') (hs : ∀ x, ob p.1 = some x → ¬ S x) : Rg w' B p := by
  obtain ⟨xs, h1, h2⟩ := h
  exact ⟨xs, h1.chg hc hs, h2⟩
theorem Rg.set (h : Rg w B p) (g j : Nat) : Rg (w.setCell ⟨g, j, none⟩ (.int .i64 9)) B p := by
  obtain ⟨⟨a, n, c⟩, rfl⟩ : ∃ q : Rw, q = p := ⟨_, rfl⟩
  by_cases hg : ob a = some g
  · obtain ⟨xs, h1, h2⟩ := h
    obtain ⟨_, ⟨h0, _⟩ | ⟨g', cur, h0, _⟩⟩ := h1.form
    · simp only at h0
      rw [h0] at hg
      cases hg
    · simp only at h0 h1
      subst h0
      have e : g' = g := by simpa [ob] using hg
      subst e
      have := own_set h1 j (.int .i64 9)
      rw [ints_set] at this
      refine ⟨_, this, fun x hx => ?_⟩
      rcases List.mem_or_eq_of_mem_set hx with hx | rfl
      · exact h2 x hx
      · omega
  · exact h.chg ((Chg.refl (fun x => x = g) w).set (p := ⟨g, j, none⟩) (.inl rfl) _) (fun x hx e => hg (by rw [← e]; exact hx))

theorem blk_below {g : Nat} {t : TypeId} {cs : Array Value} (h : Blk w g t cs) (hb : Below w.heap.size w w') : Blk w' g t cs := (hb.block _ h.lt).trans h
def zeroM : Array Value := #[.int .u64 0, .int .i64 0, .int .i64 0, .int .i64 0, .int .i64 0, .int .i64 0, .slice none 0 0]
set_option maxHeartbeats 4000000 in
theorem law_any (c : Cfg) (t wh : Int) : Calls Try.prog 5 #[.agg (cf c), .int .i64 t, .int .i64 wh] w fun e w' => e = .returned (.bool true) ∧ Below w.heap.size w w' := by
  obtain ⟨u, HU⟩ : ∃ x, Hid (U c.seed = x) := ⟨_, rfl⟩
  have HC : Hid (cf c = #[.int .u64 u, .int .i64 c.vocab, .int .i64 c.dim, .int .i64 c.layers, .int .i64 c.top, .int .i64 c.heat]) := Lib.hid (by unfold cf; rw [HU.out])
  have B0 : Blk (((w.alloc (.cells (cf c) 24)).alloc (.cells zeroM 45)).alloc (.cells #[.pointer none, .pointer (some ⟨w.heap.size + 1, 0, none⟩)] 26)) w.heap.size 24 (cf c) := ((Blk.new w (cf c) 24).alloc _).alloc _
  have B1 : Blk (((w.alloc (.cells (cf c) 24)).alloc (.cells zeroM 45)).alloc (.cells #[.pointer none, .pointer (some ⟨w.heap.size + 1, 0, none⟩)] 26)) (w.heap.size + 1) 45 zeroM := by
    have := (Blk.new (w.alloc (.cells (cf c) 24)) zeroM 45).alloc (.cells #[.pointer none, .pointer (some ⟨w.heap.size + 1, 0, none⟩)] 26)
    simpa using this
  have B2 : Blk (((w.alloc (.cells (cf c) 24)).alloc (.cells zeroM 45)).alloc (.cells #[.pointer none, .pointer (some ⟨w.heap.size + 1, 0, none⟩)] 26)) (w.heap.size + 1 + 1) 26 #[.pointer none, .pointer (some ⟨w.heap.size + 1, 0, none⟩)] := by
    have := Blk.new ((w.alloc (.cells (cf c) 24)).alloc (.cells zeroM 45)) #[.pointer none, .pointer (some ⟨w.heap.size + 1, 0, none⟩)] 26
    simpa using this
  have L0 : Below w.heap.size w (((w.alloc (.cells (cf c) 24)).alloc (.cells zeroM 45)).alloc (.cells #[.pointer none, .pointer (some ⟨w.heap.size + 1, 0, none⟩)] 26)) := (((Below.refl _ w).alloc (Nat.le_refl _) _).alloc (by simp) _).alloc (by simp; omega) _
  obtain ⟨W, HW⟩ : ∃ W, Hid (((w.alloc (.cells (cf c) 24)).alloc (.cells zeroM 45)).alloc (.cells #[.pointer none, .pointer (some ⟨w.heap.size + 1, 0, none⟩)] 26) = W) := ⟨_, rfl⟩
  rw [HW.out] at B0 B1 B2 L0
  have HW2 := HW.out
  rw [HC.out] at HW2
  unfold zeroM at HW2
  obtain ⟨g1, HG1⟩ : ∃ g1, Hid (w.heap.size + 1 = g1) := ⟨_, rfl⟩
  obtain ⟨g2, HG2⟩ : ∃ g1, Hid (w.heap.size + 1 + 1 = g1) := ⟨_, rfl⟩
  have h01 : w.heap.size < g1 := by have := HG1.out; omega
  have h02 : w.heap.size < g2 := by have := HG2.out; omega
  rw [HG2.out, HG1.out] at B2
  rw [HG1.out] at B1
  rw [HC.out] at B0 ⊢
  have HB0 := Lib.hid B0
  have HB1 := Lib.hid B1
  have HB2 := Lib.hid B2
  have HL0 := Lib.hid L0
  clear HW B0 B1 B2 L0
  go_enter Try.func5, Try.ntmps5
  go_upto_region 2 with (fail)
  rw [HG2.out, HG1.out]
  clear HW2
  go_loopw [22] (fun i wr => ∃ k : Nat, k ≤ 2 ∧ i = .int .i64 k ∧ Hid (Blk wr w.heap.size 24 #[.int .u64 u, .int .i64 c.vocab, .int .i64 c.dim, .int .i64 c.layers, .int .i64 c.top, .int .i64 c.heat]) ∧ Hid (Blk wr g1 45 zeroM) ∧ Hid (Blk wr g2 26 #[.pointer none, .pointer (some ⟨g1, 0, none⟩)]) ∧ Hid (Below w.heap.size w wr)) (fun i _ => 2 - (intOf i).toNat)
  case atStart => exact ⟨0, by omega, rfl, HB0, HB1, HB2, HL0⟩
  case round =>
    obtain ⟨k, hk, rfl, HC0, HC1, HC2, HCL⟩ := hrel
    by_cases hlt : k < 2
    · obtain ⟨v, HV, hck, HOK⟩ : ∃ v, Hid (#[Value.pointer none, .pointer (some ⟨g1, 0, none⟩)][k]? = some v) ∧ wr.cell? ⟨g2, k, none⟩ = some v ∧ Hid (∀ w', Below wr.heap.size wr w' → Calls Try.prog 22 #[v] w' fun e w'' => e = .returned (.bool false) ∧ w' = w'') := by
        rcases (show k = 0 ∨ k = 1 by omega) with rfl | rfl
        · exact ⟨_, Lib.hid rfl, HC2.out.cell 0 rfl, Lib.hid (fun w' _ => ok_nil)⟩
        · exact ⟨_, Lib.hid rfl, HC2.out.cell 1 rfl, Lib.hid (fun w' h => ok_zero (Blk.cell ((h.block _ HC1.out.lt).trans HC1.out) 6 rfl))⟩
      have TC := Lib.hid (MdF.config_not (w := wr) (v := v) (HOK.out _ ((Below.refl _ _).alloc (Nat.le_refl _) _)))
      have k0 : (0 : Int) ≤ (k : Int) := by omega
      have k1 : (k : Int) < 2 := by omega
      go_wp2_with fail
      refine TC.out.mono ?_
      rintro e w1 ⟨rfl, hb1⟩
      have T1 := Lib.hid (token_not (HOK.out _ hb1) t)
      have T2 := Lib.hid (place_not (HOK.out _ hb1) t)
      have T3 := Lib.hid (rows_not (HOK.out _ hb1) t wh)
      unfold MdF.zeroC
      have HD0 := Lib.hid (blk_below HC0.out hb1)
      have HD1 := Lib.hid (blk_below HC1.out hb1)
      have HD2 := Lib.hid (blk_below HC2.out hb1)
      have HDL := Lib.hid (HCL.out.trans (hb1.mono HCL.out.size))
      clear hb1 hck TC
      go_wp2_with fail
      refine T1.out.mono ?_
      rintro e w2 ⟨rfl, rfl⟩
      go_wp2_with fail
      refine T2.out.mono ?_
      rintro e w2 ⟨rfl, rfl⟩
      go_wp2_with fail
      refine T3.out.mono ?_
      rintro e w2 ⟨rfl, rfl⟩
      go_wp2
      go_roundw
      case rel => exact ⟨k + 1, by omega, by go_num, HD0, HD1, HD2, HDL⟩
      case measure => simp [intOf]; omega
    · have hke : k = 2 := by omega
      subst hke
      have b0 := HC0.out
      have t0 : wr.cell? ⟨w.heap.size, 0, none⟩ = some (.int .u64 u) := b0.cell 0 rfl
      have t1 : wr.cell? ⟨w.heap.size, 1, none⟩ = some (.int .i64 c.vocab) := b0.cell 1 rfl
      have t2 : wr.cell? ⟨w.heap.size, 2, none⟩ = some (.int .i64 c.dim) := b0.cell 2 rfl
      have t3 : wr.cell? ⟨w.heap.size, 3, none⟩ = some (.int .i64 c.layers) := b0.cell 3 rfl
      have t4 : wr.cell? ⟨w.heap.size, 4, none⟩ = some (.int .i64 c.top) := b0.cell 4 rfl
      have t5 : wr.cell? ⟨w.heap.size, 5, none⟩ = some (.int .i64 c.heat) := b0.cell 5 rfl
      have TN := Lib.hid (new_any (w := wr) c)
      have TN' := Lib.hid TN.out
      rw [HC.out] at TN'
      clear TN b0 HB0 HB1 HB2 HL0
      go_wp2_with fail
      refine TN'.out.mono ?_
      rintro e W0 ⟨hb1, p1, er1, rfl, hr1⟩
      have HE0 := Lib.hid (blk_below HC0.out hb1)
      have HEL := Lib.hid (HCL.out.trans (hb1.mono HCL.out.size))
      have HR1 := Lib.hid hr1
      clear hr1 hb1 t0 t1 t2 t3 t4 t5 TN' HC0 HC1 HC2 HCL
      rcases HR1.out with ⟨rfl, hm, rfl⟩ | ⟨rfl, hm, m1, vocab, dim, layers, a1, n1, k1, T1, rfl, hN, hm1⟩
      · go_wp2_with fail
        refine alive_any.mono ?_
        rintro e w3 ⟨rfl, hb3⟩
        go_wp2
        go_ret
        exact ⟨rfl, HEL.out.trans (hb3.mono HEL.out.size)⟩
      · have v1 := hN.v1
        have d1 := hN.d1
        have l1 := hN.l1
        have HN := Lib.hid hN
        have HM := Lib.hid hm1
        clear hm HR1 hN hm1
        go_wp2_with fail
        refine (token_any HM.out (by omega) (by omega) (by omega) (by omega) t).mono ?_
        rintro e w1 ⟨aa, ca, rfl, hoa, hba⟩
        have hfa := want_fine c dim vocab 0 t
        obtain ⟨la, HLA⟩ : ∃ l, Hid (want c dim vocab 0 t = l) := ⟨_, rfl⟩
        rw [HLA.out] at hoa hfa ⊢
        have HOA := Lib.hid hoa
        have HBA := Lib.hid hba
        have HFA := Lib.hid hfa
        clear hoa hba hfa
        go_wp2_with fail
        refine (rows_any (HM.out.below HBA.out) HN.out.el rfl (by omega) (by omega) (by omega) t wh).mono ?_
        rintro e w2 ⟨al, cl, L, rfl, hL, hol, htl, hbl⟩
        have hfl : ∀ r, Fine (rowsF c dim t wh r) := fun r => frow_fine _ _ _ _
        obtain ⟨nl, HNL⟩ : ∃ l, Hid (rowsN layers dim t wh = l) := ⟨_, rfl⟩
        obtain ⟨fl, HFL⟩ : ∃ l, Hid (rowsF c dim t wh = l) := ⟨_, rfl⟩
        rw [HNL.out] at hL hol ⊢
        rw [HFL.out] at htl hfl
        have hnl : nl ≤ 16 := by rw [← HNL.out]; unfold rowsN; split <;> omega
        have HOL := Lib.hid hol
        have HTL := Lib.hid htl
        have HBL := Lib.hid hbl
        have HFL2 := Lib.hid hfl
        have HLL := Lib.hid hL
        have HOA2 := Lib.hid (HOA.out.chg (Chg.of_below hbl (fun _ => False)) (fun _ _ => id))
        have hla : la.length ≤ 16 := by rw [← HLA.out]; unfold want; split <;> simp [frow_len]; omega
        have HSZ : Hid (W0.heap.size ≤ w2.heap.size) := Lib.hid (Nat.le_trans HBA.out.size hbl.size)
        have HB2 := Lib.hid (HBA.out.trans (hbl.mono HBA.out.size))
        clear hL hol htl hbl hfl
        go_wp2_with (at_builtin; refine wpList_app ints32 (by omega) rfl (.const (.slice none 0 0)) (.tmp 64) rfl (B := W0.heap.size) (by rfl) (Own.none_ w2 W0.heap.size 2 1) (by rfl) HOA2.out.rd (ints_one la) (by omega) (by omega) HSZ.out ?_; intro ab cb w3 ho3 hg3 ha3)
        rw [List.nil_append] at ho3
        rw [Nat.zero_add] at ho3
        have hc3 : Below w2.heap.size w2 w3 := (Chg.of_grown hg3 (S := fun _ => False) (fun k hk => by simp [ob] at hk)).none
        have HAB : Hid (∀ x, ob ab = some x → w2.heap.size ≤ x ∧ x < w3.heap.size) := Lib.hid (fun x hx => by
          refine ⟨?_, (ho3.lt x hx).2⟩
          rcases ha3 with h | h
          · rw [h] at hx
            simp [ob] at hx
          · rw [h] at hx
            injection hx with hx
            omega)
        have HOB := Lib.hid ho3
        have HB3 := Lib.hid (HB2.out.trans (hc3.mono HB2.out.size))
        have HC3 := Lib.hid hc3
        clear ho3 hg3 ha3 hc3
        go_wp2_with fail
        refine (place_any (HM.out.below HB3.out) (by omega) (by omega) (by omega) (by omega) t).mono ?_
        rintro e w4 ⟨ap, cp, rfl, hop, hbp⟩
        have hfp := want_fine c dim 256 1 t
        have hlp : (want c dim 256 1 t).length ≤ 16 := by unfold want; split <;> simp [frow_len]; omega
        obtain ⟨lp, HLP⟩ : ∃ l, Hid (want c dim 256 1 t = l) := ⟨_, rfl⟩
        rw [HLP.out] at hop hfp hlp ⊢
        have hz4 : Below w4.heap.size w4 (w4.alloc (.cells #[.slice aa la.length ca, .slice ap lp.length cp] 32)) := (Below.refl _ _).alloc (Nat.le_refl _) _
        have hB4 := HB3.out.trans (hbp.mono HB3.out.size)
        have HOZ := Lib.hid (Own.made (B := W0.heap.size) (size := 1) w4 #[.slice aa la.length ca, .slice ap lp.length cp] 32 2 hB4.size (by unfold maxLen; omega) rfl)
        have h24 : Below w2.heap.size w2 w4 := HC3.out.trans (hbp.mono HC3.out.size)
        have h2Z := h24.trans (hz4.mono h24.size)
        have HRZ := Lib.hid (HOL.out.chg (Chg.of_below h2Z (fun _ => False)) (fun _ _ => id)).rd
        have HSZ4 : Hid (W0.heap.size ≤ (w4.alloc (.cells #[.slice aa la.length ca, .slice ap lp.length cp] 32)).heap.size) := Lib.hid (Nat.le_trans hB4.size hz4.size)
        have HFP := Lib.hid hfp
        have HOP := Lib.hid hop
        have HB4 := Lib.hid hB4
        have HBP := Lib.hid hbp
        have H24 := Lib.hid h24
        have HSS := Lib.hid (sl_one dim L)
        clear hop hfp hbp hz4 hB4 h24 h2Z
        go_wp2_with (at_builtin; refine wpList_app rows35 (by omega) rfl (.tmp 70) (.tmp 71) rfl (B := W0.heap.size) (by rfl) HOZ.out (by rfl) HRZ.out HSS.out (by omega) (by omega) HSZ4.out ?_; intro a5 c5 w5 ho5 hg5 ha5)
        have hB45 : Below w4.heap.size w4 w5 := ((Below.refl w4.heap.size w4).alloc (Nat.le_refl _) _).grown hg5 (by simp) (fun k hk => by simp [ob] at hk; omega)
        have hB25 : Below w2.heap.size w2 w5 := H24.out.trans (hB45.mono H24.out.size)
        have hB5 : Below W0.heap.size W0 w5 := HB4.out.trans (hB45.mono HB4.out.size)
        have hab := HAB.out
        have h12 := HBL.out.size
        have h02 := HBA.out.size
        have h34 := HBP.out.size
        have hlow3 := HB3.out.size
        obtain ⟨R, hRl, hRo, hRg, hRx⟩ : ∃ R : List Rw, R.length = 2 + nl ∧ Own w5 W0.heap.size 32 1 a5 (2 + nl) c5 (rc R) ∧ (∀ p ∈ R, Rg w5 W0.heap.size p) ∧ (∀ p ∈ R, ∀ x, ob p.1 = some x → ob ab ≠ some x) := by
          refine ⟨(aa, la.length, ca) :: (ap, lp.length, cp) :: L.map (fun q => (q.1, dim, q.2)), by simp [HLL.out]; omega, ?_, ?_, ?_⟩
          · have e : rc ((aa, la.length, ca) :: (ap, lp.length, cp) :: L.map (fun q => (q.1, dim, q.2))) = (#[Value.slice aa la.length ca, .slice ap lp.length cp] : Array Value).toList ++ sl dim L := by simp [rc, sl]
            rw [e]
            exact ho5
          · intro p hp
            simp only [List.mem_cons, List.mem_map] at hp
            rcases hp with rfl | rfl | ⟨q, hq, rfl⟩
            · exact ⟨la, HOA2.out.chg (Chg.of_below hB25 (fun _ => False)) (fun _ _ => id), HFA.out⟩
            · exact ⟨lp, (HOP.out.lower hlow3).chg (Chg.of_below hB45 (fun _ => False)) (fun _ _ => id), HFP.out⟩
            · obtain ⟨i, hi, rfl⟩ := List.getElem_of_mem hq
              exact ⟨fl i, ((HTL.out i _ (List.getElem?_eq_getElem hi)).lower h02).chg (Chg.of_below hB25 (fun _ => False)) (fun _ _ => id), HFL2.out i⟩
          · intro p hp x hx e
            have h1 := hab x e
            simp only [List.mem_cons, List.mem_map] at hp
            rcases hp with rfl | rfl | ⟨q, hq, rfl⟩
            · have := (HOA.out.lt x hx).2
              omega
            · have := (HOP.out.lt x hx).1
              omega
            · have := (HTL.out.lt q hq x hx).2
              omega
        have HOV := Lib.hid (HOB.out.chg (Chg.of_below (HBP.out.trans (hB45.mono HBP.out.size)) (fun _ => False)) (fun _ _ => id))
        have HRL := Lib.hid hRl
        have HRO := Lib.hid hRo
        have HRG := Lib.hid hRg
        have HRX := Lib.hid hRx
        have HB5 := Lib.hid hB5
        clear hB45 hB25 hB5 hab h12 h02 h34 hlow3 hRl hRo hRg hRx ho5 hg5 ha5 HOA HBA HFA HOL HTL HBL HFL2 HLL HOA2 HSZ HB2 HAB HOB HB3 HC3 HOZ HRZ HSZ4 HFP HOP HB4 HBP H24 HSS HNL HFL HLP
        have n0 : (0 : Int) ≤ (nl : Int) := by omega
        have n1 : (nl : Int) ≤ 16 := by omega
        clear hnl hla hlp
        obtain ⟨nn, HNN, hn2⟩ : ∃ nn, Hid (2 + nl = nn) ∧ nn ≤ 18 := ⟨_, Lib.hid rfl, by omega⟩
        rw [HNN.out] at HRL HRO ⊢
        go_loopw [74] (fun i wr => ∃ k : Nat, k ≤ nn ∧ i = .int .i64 k ∧ Hid (Own wr W0.heap.size 32 1 a5 nn c5 (rc R)) ∧ Hid (∀ p ∈ R, Rg wr W0.heap.size p) ∧ Hid (Own wr W0.heap.size 2 1 ab la.length cb (ints la)) ∧ Hid (Below W0.heap.size W0 wr)) (fun i _ => nn - (intOf i).toNat)
        case atStart => exact ⟨0, Nat.zero_le _, rfl, HRO, HRG, HOV, HB5⟩
        case round =>
          obtain ⟨k, hk, rfl, HO6, HG6, HV6, HB6⟩ := hrel
          by_cases hlt : k < nn
          · obtain ⟨⟨ra, rn, rk⟩, hp⟩ : ∃ p, R[k]? = some p := ⟨_, List.getElem?_eq_getElem (by rw [HRL.out]; exact hlt)⟩
            have hpm := List.mem_of_getElem? hp
            obtain ⟨gT, hT, hck⟩ := own_cell HO6.out (i := k) (v := .slice ra rn rk) (by simp [rc, hp])
            subst hT
            have hmax : rn ≤ maxLen := by
              obtain ⟨xs, h1, _⟩ := HG6.out _ hpm
              exact Nat.le_trans h1.rd.cap h1.rd.max
            unfold maxLen at hmax
            have HPM := Lib.hid hpm
            have k0 : (0 : Int) ≤ (k : Int) := by omega
            have k1 : (k : Int) < (nn : Int) := by omega
            have k2 : (k : Int) < 2 + (nl : Int) := by have := HNN.out; omega
            clear hp hpm
            go_wp2_with fail
            obtain ⟨wo, HWO⟩ : ∃ wo, Hid (wr = wo) := ⟨_, rfl⟩
            rw [HWO.out] at HO6 HG6 HV6 HB6 ⊢
            clear hck HWO
            go_loopw [80] (fun i wr => ∃ j : Nat, j ≤ rn ∧ i = .int .i64 j ∧ Hid (Own wr W0.heap.size 32 1 (some ⟨gT, 0, none⟩) nn c5 (rc R)) ∧ Hid (∀ p ∈ R, Rg wr W0.heap.size p) ∧ Hid (Own wr W0.heap.size 2 1 ab la.length cb (ints la)) ∧ Hid (Below W0.heap.size W0 wr)) (fun i _ => rn - (intOf i).toNat)
            case atStart => exact ⟨0, Nat.zero_le _, rfl, HO6, HG6, HV6, HB6⟩
            case round =>
              obtain ⟨j, hj, rfl, HO7, HG7, HV7, HB7⟩ := hrel
              by_cases hjl : j < rn
              · obtain ⟨xs, hxo, hxf⟩ := HG7.out _ HPM.out
                simp only at hxo
                obtain ⟨gr, u, hra, hu, hcu⟩ : ∃ gr x, ra = some ⟨gr, 0, none⟩ ∧ xs[j]? = some x ∧ wr.cell? ⟨gr, j, none⟩ = some (.int .i64 x) := by
                  have hl : j < xs.length := by have := hxo.form.1; simp [ints] at this; omega
                  obtain ⟨gr, e, hc⟩ := own_cell hxo (i := j) (v := .int .i64 xs[j]) (by simp [ints, List.getElem?_eq_getElem hl])
                  exact ⟨gr, xs[j], e, List.getElem?_eq_getElem hl, hc⟩
                subst hra
                have hr := hxf u (List.mem_of_getElem? hu)
                have fj : wr.frozen? ⟨gr, j, none⟩ = false := by
                  obtain ⟨_, ⟨h, _⟩ | ⟨g', cur, h, _, hh, _⟩⟩ := hxo.form
                  · cases h
                  · injection h with h
                    injection h with h
                    subst h
                    exact (show Blk wr gr 2 cur from hh).frozen j
                have hr0 := hr.1
                have hr1 := hr.2
                have hBg := (hxo.lt gr rfl).1
                have n1 := own_ne HO7.out hxo (by decide)
                have n2 := HRX.out _ HPM.out gr rfl
                have hset := (Chg.refl (fun x => x = gr) wr).set (p := ⟨gr, j, none⟩) (.inl rfl) (.int .i64 9)
                have FIN : Hid (Hid (Own (wr.setCell ⟨gr, j, none⟩ (.int .i64 9)) W0.heap.size 32 1 (some ⟨gT, 0, none⟩) nn c5 (rc R)) ∧ Hid (∀ p ∈ R, Rg (wr.setCell ⟨gr, j, none⟩ (.int .i64 9)) W0.heap.size p) ∧ Hid (Own (wr.setCell ⟨gr, j, none⟩ (.int .i64 9)) W0.heap.size 2 1 ab la.length cb (ints la)) ∧ Hid (Below W0.heap.size W0 (wr.setCell ⟨gr, j, none⟩ (.int .i64 9)))) :=
                  Lib.hid ⟨Lib.hid (HO7.out.chg hset (fun x hx e => n1 x hx (by rw [e]; rfl))), Lib.hid (fun p hp => (HG7.out p hp).set gr j), Lib.hid (HV7.out.chg hset (fun x hx e => n2 (by rw [hx, e]))), Lib.hid (hset.below HB7.out HB7.out.size (fun x hx => by omega))⟩
                have j0 : (0 : Int) ≤ (j : Int) := by omega
                have j1 : (j : Int) < (rn : Int) := by omega
                clear hxo hxf hu hr n1 n2 hset
                go_wp2_with fail
                go_roundw
                case rel => exact ⟨j + 1, by omega, by go_num, FIN.out⟩
                case measure => simp [intOf]; omega
              · have hje : j = rn := by omega
                subst hje
                go_wp2
                go_roundw
                case rel => exact ⟨k + 1, by omega, by go_num, HO7, HG7, HV7, HB7⟩
                case measure => simp [intOf]; omega
          · have hke : k = nn := by omega
            subst hke
            have k2 : 2 + (nl : Int) ≤ (k : Int) := by have := HNN.out; omega
            have b0 : Blk wr w.heap.size 24 #[.int .u64 u, .int .i64 c.vocab, .int .i64 c.dim, .int .i64 c.layers, .int .i64 c.top, .int .i64 c.heat] := blk_below HE0.out HB6.out
            have u0 : wr.cell? ⟨w.heap.size, 0, none⟩ = some (.int .u64 u) := b0.cell 0 rfl
            have u1 : wr.cell? ⟨w.heap.size, 1, none⟩ = some (.int .i64 c.vocab) := b0.cell 1 rfl
            have u2 : wr.cell? ⟨w.heap.size, 2, none⟩ = some (.int .i64 c.dim) := b0.cell 2 rfl
            have u3 : wr.cell? ⟨w.heap.size, 3, none⟩ = some (.int .i64 c.layers) := b0.cell 3 rfl
            have u4 : wr.cell? ⟨w.heap.size, 4, none⟩ = some (.int .i64 c.top) := b0.cell 4 rfl
            have u5 : wr.cell? ⟨w.heap.size, 5, none⟩ = some (.int .i64 c.heat) := b0.cell 5 rfl
            have KEEP : Hid (∀ w' : World, Hid (Below wr.heap.size wr w') → w'.cell? ⟨w.heap.size, 0, none⟩ = some (.int .u64 u) ∧ w'.cell? ⟨w.heap.size, 1, none⟩ = some (.int .i64 c.vocab) ∧ w'.cell? ⟨w.heap.size, 2, none⟩ = some (.int .i64 c.dim) ∧ w'.cell? ⟨w.heap.size, 3, none⟩ = some (.int .i64 c.layers) ∧ w'.cell? ⟨w.heap.size, 4, none⟩ = some (.int .i64 c.top) ∧ w'.cell? ⟨w.heap.size, 5, none⟩ = some (.int .i64 c.heat) ∧ Hid (Below wr.heap.size wr w')) := Lib.hid (fun w' h => ⟨(h.out.cell (p := ⟨w.heap.size, 0, none⟩) b0.lt).trans u0, (h.out.cell (p := ⟨w.heap.size, 1, none⟩) b0.lt).trans u1, (h.out.cell (p := ⟨w.heap.size, 2, none⟩) b0.lt).trans u2, (h.out.cell (p := ⟨w.heap.size, 3, none⟩) b0.lt).trans u3, (h.out.cell (p := ⟨w.heap.size, 4, none⟩) b0.lt).trans u4, (h.out.cell (p := ⟨w.heap.size, 5, none⟩) b0.lt).trans u5, h⟩)
            have HWL := Lib.hid (HEL.out.trans (HB6.out.mono HEL.out.size))
            have HFIN : Hid (∀ w', Hid (Below wr.heap.size wr w') → Below w.heap.size w w') := Lib.hid (fun w' h => HWL.out.trans (h.out.mono HWL.out.size))
            have hmr := HM.out.below HB6.out
            have K1 : Hid (∀ {w} (hb : Hid (Below wr.heap.size wr w)), Calls Try.prog 9 #[.pointer (some ⟨m1, 0, none⟩), .int .i64 t] w (MdP.Told wr w la)) := Lib.hid (fun hb => by
              have := token_in hmr HN.out t hb
              rw [HLA.out] at this
              exact this)
            have R1 : Hid (∀ {w} (hb : Hid (Below wr.heap.size wr w)), Calls Try.prog 11 #[.pointer (some ⟨m1, 0, none⟩), .int .i64 t, .int .i64 wh] w (TolT wr w (rowsN layers dim t wh) dim (rowsF c dim t wh))) := Lib.hid (fun hb => rows_in hmr HN.out t wh hb)
            have R2 : Hid (∀ {w} (hb : Hid (Below wr.heap.size wr w)), Calls Try.prog 18 #[.agg #[.int .u64 u, .int .i64 c.vocab, .int .i64 c.dim, .int .i64 c.layers, .int .i64 c.top, .int .i64 c.heat], .int .i64 t, .int .i64 wh] w (TolT wr w (rowsN layers dim t wh) dim (rowsF c dim t wh))) := Lib.hid (fun hb => by
              have := MdQ.rrows_in HN.out t wh hb
              rw [HC.out] at this
              exact this)
            have HV := Lib.hid (HV6.out.rd.drew)
            have HDRAW : Hid (Below wr.heap.size wr wr.drew) := Lib.hid (below_drew (Below.refl _ _))
            obtain ⟨nr, HNR⟩ : ∃ l, Hid (rowsN layers dim t wh = l) := ⟨_, rfl⟩
            obtain ⟨fr, HFR⟩ : ∃ l, Hid (rowsF c dim t wh = l) := ⟨_, rfl⟩
            rw [HNR.out, HFR.out] at R1 R2
            clear hmr HM HN HO6 HG6 HV6 HB6 HE0 HEL b0 u0 u1 u2 u3 u4 u5 HNR HFR HRL HRO HRG HRX HOV HB5 HC HU
            go_upto_region 23 with (fail)
            go_region_held3 (fun w' => w'.cell? ⟨w.heap.size, 0, none⟩ = some (.int .u64 u) ∧ w'.cell? ⟨w.heap.size, 1, none⟩ = some (.int .i64 c.vocab) ∧ w'.cell? ⟨w.heap.size, 2, none⟩ = some (.int .i64 c.dim) ∧ w'.cell? ⟨w.heap.size, 3, none⟩ = some (.int .i64 c.layers) ∧ w'.cell? ⟨w.heap.size, 4, none⟩ = some (.int .i64 c.top) ∧ w'.cell? ⟨w.heap.size, 5, none⟩ = some (.int .i64 c.heat) ∧ Hid (Below wr.heap.size wr w')) (exact KEEP.out _ (by assumption)) (first | (go_at_call 9; (with_reducible refine (K1.out (by go_split_ands; assumption)).mono ?_); rintro e w9 ⟨q1, k1, rfl, hr1, hbb, hbc⟩; have HV := Lib.hid (rd_on HV.out hbc); have HA1 := Lib.hid hr1; clear hr1 hbc) | (go_at_call 8; (with_reducible refine (same_in (by go_split_ands; assumption) HA1 HV).mono ?_); rintro e w9 ⟨rfl, hbb⟩) | (go_at_call 11; (with_reducible refine (R1.out (by go_split_ands; assumption)).mono ?_); rintro e w9 ⟨q1, k1, rfl, hr1, hbb, hbc⟩; (try have HQ2 := Lib.hid (Tl.below HQ2.out hbc)); have HQ1 := Lib.hid hr1; clear hr1 hbc) | (go_at_call 18; (with_reducible refine (R2.out (by go_split_ands; assumption)).mono ?_); rintro e w9 ⟨q2, k2, rfl, hr2, hbb, hbc⟩; (try have HQ1 := Lib.hid (Tl.below HQ1.out hbc)); have HQ2 := Lib.hid hr2; clear hr2 hbc) | (go_at_call 10; (with_reducible refine (rows_same_in (by go_split_ands; assumption) HQ1 HQ2).mono ?_); rintro e w9 ⟨rfl, hbb⟩) | (go_at_call 7; (with_reducible refine (alive_in (by go_split_ands; assumption)).mono ?_); rintro e w9 ⟨rfl, hbb⟩))
            all_goals go_wp2
            all_goals go_ret
            all_goals exact ⟨rfl, HFIN.out _ (by assumption)⟩
theorem entry (W : World) (v0 v1 v2 : Value) (g0 : Arg W MdE.cfgSh v0) (g1 : Arg W (.int .i64) v1) (g2 : Arg W (.int .i64) v2) : Calls Try.prog 5 #[v0, v1, v2] W fun e w' => e = .returned (.bool true) ∧ Below W.heap.size W w' := by
  obtain ⟨c, rfl⟩ := MdE.isCfg W v0 g0
  obtain ⟨x, hx, _⟩ := g1
  injection hx with hx
  subst hx
  obtain ⟨y, hy, _⟩ := g2
  injection hy with hy
  subst hy
  exact law_any c x y
end
end Go.Proofs.Ytpcanolanhdfeaa.MdB
