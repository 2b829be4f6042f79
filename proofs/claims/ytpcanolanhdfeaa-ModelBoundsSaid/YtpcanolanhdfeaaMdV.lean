/-
  Walks over the model: what reads it: ok, Config, row, Token, Place, Rows.
-/
import Derived.Test.YtpcanolanhdfeaaMdN
namespace Go.Proofs.Ytpcanolanhdfeaa.MdV
open Go.RowKit Go.Proofs.Ytpcanolanhdfeaa.Kit Go.Proofs.Ytpcanolanhdfeaa.Math Go.Proofs.Ytpcanolanhdfeaa.MdR Go.Proofs.Ytpcanolanhdfeaa.MdW Go.Proofs.Ytpcanolanhdfeaa.MdT Go.Proofs.Ytpcanolanhdfeaa.MdM Go.Proofs.Ytpcanolanhdfeaa.MdN
attribute [local go_sem high] max_imax min_imin
attribute [local go_sem ↓] Go.wp_at_zero Go.wp_at_succ
set_option linter.unusedVariables false

section
variable {w : World} {B g : Nat} {c : Cfg} {vocab dim m : Nat} {a : Option Addr} {n k : Nat} {T : List (Nat × Nat)}

theorem own_cell {e : TypeId} {xs : List Value} (h : Own w B e 1 a n k xs) {i : Nat} {v : Value} (hv : xs[i]? = some v) : ∃ gT, a = some ⟨gT, 0, none⟩ ∧ w.cell? ⟨gT, i, none⟩ = some v := by
  obtain ⟨hl, ⟨rfl, rfl, _⟩ | ⟨gT, cur, rfl, _⟩⟩ := h.form
  · have := (List.getElem?_eq_some_iff.1 hv).1
    omega
  · refine ⟨gT, rfl, ?_⟩
    have := h.row.cells (g := gT) rfl i v hv
    rw [Go.WideShapes.add_plain, Nat.zero_add] at this
    exact this
theorem mo_table (h : Mo w B g c vocab dim m a n k T) {i : Nat} {p : Nat × Nat} (hp : T[i]? = some p) : ∃ gT, a = some ⟨gT, 0, none⟩ ∧ w.cell? ⟨gT, i, none⟩ = some (.slice (some ⟨p.1, 0, none⟩) p.2 p.2) :=
  own_cell h.own (by simp [tsl, hp])
theorem tab_row {p : Nat × Nat} {f : Nat → List Int} (h : TabAt w B dim p f) {r : Nat} (hr : r < p.2) : ∃ q : Option Addr × Nat, w.cell? ⟨p.1, r, none⟩ = some (.slice q.1 dim q.2) ∧ Own w B 2 1 q.1 dim q.2 (ints (f r)) := by
  obtain ⟨L, h1, h2, h3⟩ := h
  obtain ⟨q, hq⟩ : ∃ q, L[r]? = some q := ⟨_, List.getElem?_eq_getElem (by omega)⟩
  obtain ⟨gT, e, hc⟩ := own_cell h2 (sl_get hq)
  injection e with e
  injection e with e
  subst e
  exact ⟨q, hc, h3 r q hq⟩

theorem ok_any (h : Mo w B g c vocab dim m a n k T) (hm : 0 < m) : Calls Try.prog 22 #[.pointer (some ⟨g, 0, none⟩)] w fun e w' => e = .returned (.bool true) ∧ w = w' := by
  have hn := h.n
  have c6 : w.cell? ⟨g, 6, none⟩ = some (.slice a n k) := h.blk.cell 6 rfl
  have n0 : 0 < n := by omega
  clear h hn
  go_enter Try.func22, Try.ntmps22
  go_wp2
  go_ret
  exact ⟨rfl, rfl⟩
theorem ok_nil : Calls Try.prog 22 #[.pointer none] w fun e w' => e = .returned (.bool false) ∧ w = w' := by
  go_enter Try.func22, Try.ntmps22
  go_wp2
  go_ret
  exact ⟨rfl, rfl⟩
theorem ok_zero (c6 : w.cell? ⟨g, 6, none⟩ = some (.slice none 0 0)) : Calls Try.prog 22 #[.pointer (some ⟨g, 0, none⟩)] w fun e w' => e = .returned (.bool false) ∧ w = w' := by
  go_enter Try.func22, Try.ntmps22
  go_wp2
  go_ret
  exact ⟨rfl, rfl⟩

/-- Row r of a table of so many rows. -/
def want (c : Cfg) (dim rows t : Nat) (r : Int) : List Int := if 0 ≤ r ∧ r < rows then frow c dim t r.toNat else []
theorem frow_len (c : Cfg) (dim t r : Nat) : (frow c dim t r).length = dim := by
  unfold frow
  split <;> simp [wrow_len]

theorem row_any (h : Mo w B g c vocab dim m a n k T) {t : Nat} (ht : t < m) (hm : m ≤ 100) (hv : vocab ≤ 1000) (hd : dim ≤ 1000) (r : Int) :
    Calls Try.prog 21 #[.pointer (some ⟨g, 0, none⟩), .int .i64 t, .int .i64 r] w (Cloned w (want c dim (trows c vocab dim t) t r).length (want c dim (trows c vocab dim t) t r)) := by
  have hn := h.n
  obtain ⟨p, hp⟩ : ∃ p, T[t]? = some p := ⟨_, List.getElem?_eq_getElem (by rw [h.len]; exact ht)⟩
  have HOK := Lib.hid (ok_any h (by omega))
  have c6 : w.cell? ⟨g, 6, none⟩ = some (.slice a n k) := h.blk.cell 6 rfl
  obtain ⟨gT, rfl, ct⟩ := mo_table h hp
  have hpr := h.rows t p hp
  have hta := h.tabs t p hp
  rw [← hpr]
  obtain ⟨pg, pn⟩ := p
  simp only at ct hpr hta ⊢
  have hpn : pn ≤ 1000 := by rw [hpr]; unfold trows; split <;> (try split) <;> omega
  have t0 : (0 : Int) ≤ (t : Int) := by omega
  have t1 : (t : Int) < (n : Int) := by omega
  clear h hn hpr hp
  by_cases hr : 0 ≤ r ∧ r < pn
  · obtain ⟨r, rfl⟩ : ∃ q : Nat, r = q := ⟨r.toNat, by omega⟩
    obtain ⟨q, cr, hq⟩ := tab_row hta (r := r) (by show r < pn; omega)
    simp only at cr
    have e : want c dim pn t r = frow c dim t r := by unfold want; rw [if_pos hr, Int.toNat_natCast]
    rw [e, frow_len]
    have r0 : (0 : Int) ≤ (r : Int) := by omega
    have r1 : (r : Int) < (pn : Int) := by omega
    have T := Lib.hid (clone_any (l := frow c dim t r) hq.rd (by omega))
    clear hr e hta hq
    go_enter Try.func21, Try.ntmps21
    go_wp2_with fail
    refine HOK.out.mono ?_
    rintro e w' ⟨rfl, rfl⟩
    go_wp2_with fail
    refine T.out.mono ?_
    rintro e w' ⟨a', c', rfl, ho, hb⟩
    have HO := Lib.hid ho
    have HB := Lib.hid hb
    clear ho hb
    go_wp2
    go_ret
    exact ⟨a', c', rfl, HO.out, HB.out⟩
  · have e : want c dim pn t r = [] := by unfold want; rw [if_neg hr]
    rw [e]
    have hcl : Cloned w 0 [] (.returned (.slice none 0 0)) w := ⟨none, 0, rfl, Own.none_ _ _ _ _, Below.refl _ _⟩
    by_cases h0 : r < 0
    · clear hr hta e
      go_enter Try.func21, Try.ntmps21
      go_wp2_with fail
      refine HOK.out.mono ?_
      rintro e w' ⟨rfl, rfl⟩
      go_wp2
      go_ret
      exact hcl
    · have h1 : (pn : Int) ≤ r := by omega
      have h2 : 0 ≤ r := by omega
      clear hr hta e h0
      go_enter Try.func21, Try.ntmps21
      go_wp2_with fail
      refine HOK.out.mono ?_
      rintro e w' ⟨rfl, rfl⟩
      go_wp2
      go_ret
      exact hcl
theorem row_not {v : Value} (h : Calls Try.prog 22 #[v] w fun e w' => e = .returned (.bool false) ∧ w = w') (t r : Int) :
    Calls Try.prog 21 #[v, .int .i64 t, .int .i64 r] w fun e w' => e = .returned (.slice none 0 0) ∧ w = w' := by
  have H := Lib.hid h
  clear h
  go_enter Try.func21, Try.ntmps21
  go_wp2_with fail
  refine H.out.mono ?_
  rintro e w' ⟨rfl, rfl⟩
  go_wp2
  go_ret
  exact ⟨rfl, rfl⟩

theorem token_any (h : Mo w B g c vocab dim m a n k T) (h2 : 2 ≤ m) (hm : m ≤ 100) (hv : vocab ≤ 1000) (hd : dim ≤ 1000) (r : Int) :
    Calls Try.prog 9 #[.pointer (some ⟨g, 0, none⟩), .int .i64 r] w (Cloned w (want c dim vocab 0 r).length (want c dim vocab 0 r)) := by
  have H := Lib.hid (row_any h (t := 0) (by omega) hm hv hd r)
  have e : trows c vocab dim 0 = vocab := rfl
  rw [e] at H
  clear h e
  obtain ⟨l, HL⟩ : ∃ l, Hid (want c dim vocab 0 r = l) := ⟨_, rfl⟩
  rw [HL.out] at H ⊢
  go_enter Try.func9, Try.ntmps9
  go_wp2_with fail
  refine H.out.mono ?_
  rintro e w' ⟨a', c', rfl, ho, hb⟩
  have HO := Lib.hid ho
  have HB := Lib.hid hb
  clear ho hb
  go_wp2
  go_ret
  exact ⟨a', c', rfl, HO.out, HB.out⟩
theorem place_any (h : Mo w B g c vocab dim m a n k T) (h2 : 2 ≤ m) (hm : m ≤ 100) (hv : vocab ≤ 1000) (hd : dim ≤ 1000) (r : Int) :
    Calls Try.prog 12 #[.pointer (some ⟨g, 0, none⟩), .int .i64 r] w (Cloned w (want c dim 256 1 r).length (want c dim 256 1 r)) := by
  have H := Lib.hid (row_any h (t := 1) (by omega) hm hv hd r)
  have e : trows c vocab dim 1 = 256 := rfl
  rw [e] at H
  clear h e
  obtain ⟨l, HL⟩ : ∃ l, Hid (want c dim 256 1 r = l) := ⟨_, rfl⟩
  rw [HL.out] at H ⊢
  go_enter Try.func12, Try.ntmps12
  go_wp2_with fail
  refine H.out.mono ?_
  rintro e w' ⟨a', c', rfl, ho, hb⟩
  have HO := Lib.hid ho
  have HB := Lib.hid hb
  clear ho hb
  go_wp2
  go_ret
  exact ⟨a', c', rfl, HO.out, HB.out⟩
theorem token_not {v : Value} (h : Calls Try.prog 22 #[v] w fun e w' => e = .returned (.bool false) ∧ w = w') (r : Int) :
    Calls Try.prog 9 #[v, .int .i64 r] w fun e w' => e = .returned (.slice none 0 0) ∧ w = w' := by
  have H := Lib.hid (row_not h 0 r)
  clear h
  go_enter Try.func9, Try.ntmps9
  go_wp2_with fail
  refine H.out.mono ?_
  rintro e w' ⟨rfl, rfl⟩
  go_wp2
  go_ret
  exact ⟨rfl, rfl⟩
theorem place_not {v : Value} (h : Calls Try.prog 22 #[v] w fun e w' => e = .returned (.bool false) ∧ w = w') (r : Int) :
    Calls Try.prog 12 #[v, .int .i64 r] w fun e w' => e = .returned (.slice none 0 0) ∧ w = w' := by
  have H := Lib.hid (row_not h 1 r)
  clear h
  go_enter Try.func12, Try.ntmps12
  go_wp2_with fail
  refine H.out.mono ?_
  rintro e w' ⟨rfl, rfl⟩
  go_wp2
  go_ret
  exact ⟨rfl, rfl⟩

/-- A table as an answer. -/
def RowsR (w : World) (n dim : Nat) (f : Nat → List Int) (e : Ending) (w' : World) : Prop :=
  ∃ a k L, e = .returned (.slice a n k) ∧ L.length = n ∧ Own w' w.heap.size 32 1 a n k (sl dim L) ∧ Tb w' w.heap.size dim L f ∧ Below w.heap.size w w'
theorem rowsR_nil (w : World) (dim : Nat) (f : Nat → List Int) : RowsR w 0 dim f (.returned (.slice none 0 0)) w :=
  ⟨none, 0, [], rfl, rfl, Own.none_ _ _ _ _, Tb.none_ _ _ _ _, Below.refl _ _⟩
/-- One row more. -/
theorem rows_push {w0 wr Z w9 : World} {B Bo : Nat} {a a9 : Option Addr} {n k n9 k9 : Nat} {L : List (Option Addr × Nat)} {f : Nat → List Int} (hB : B ≤ Bo) (hL : L.length = n) (ho : Own wr B 32 1 a n k (sl dim L)) (ht : Tb wr B dim L f) (hl : Below B w0 wr)
    {q : Option Addr} {qc : Nat} (hz : Below wr.heap.size wr Z) (hq : Own Z Bo 2 1 q dim qc (ints (f n))) (hg : Z.grownBy w9 (ob a)) (hn9 : n9 = n + 1) (h9 : Own w9 B 32 1 a9 n9 k9 (sl dim L ++ [.slice q dim qc])) (hw : B ≤ wr.heap.size) :
    (L ++ [(q, qc)]).length = n9 ∧ Own w9 B 32 1 a9 n9 k9 (sl dim (L ++ [(q, qc)])) ∧ Tb w9 B dim (L ++ [(q, qc)]) f ∧ Below B w0 w9 := by
  have c1 : Chg (fun x => ob a = some x) Z w9 := Chg.of_grown' hg
  have cz := Chg.of_below hz (fun _ => False)
  have hoZ := ho.chg cz (fun _ _ => id)
  refine ⟨by simp [hL, hn9], by rw [sl_append]; exact h9, ?_, ?_⟩
  · refine Tb.chg ?_ c1 (fun p hp x hx e => ?_) (w := Z)
    · refine (ht.chg cz (fun _ _ _ _ => id)).snoc ?_
      rw [hL]
      exact hq.lower hB
    · rw [List.mem_append] at hp
      rcases hp with hp | hp
      · obtain ⟨i, hi, rfl⟩ := List.getElem_of_mem hp
        exact own_ne ((ht.chg cz (fun _ _ _ _ => id)) i _ (List.getElem?_eq_getElem hi)) hoZ (by decide) x hx e
      · simp at hp
        subst hp
        exact own_ne hq hoZ (by decide) x hx e
  · exact c1.below (hl.trans (hz.mono hw)) (Nat.le_trans hw hz.size) (fun x hx => (hoZ.lt x hx).1)

/-- Which table Rows tells. -/
def isIn (layers layer which : Int) : Bool := inB layer 0 (layers - 1) && inB which 0 5
set_option maxHeartbeats 1000000 in
theorem rows_yes (h : Mo w B g c vocab dim m a n k T) {layers : Nat} (hl : c.layers = layers) (hm : m = 2 + 6 * layers) (hl4 : layers ≤ 4) (hv : vocab ≤ 1000) (hd : dim ≤ 1000) (ly wh : Nat) (h1 : ly < layers) (h2 : wh ≤ 5) :
    Calls Try.prog 11 #[.pointer (some ⟨g, 0, none⟩), .int .i64 ly, .int .i64 wh] w (RowsR w dim dim (frow c dim (2 + 6 * ly + wh))) := by
  have hn := h.n
  obtain ⟨t, HT⟩ : ∃ t, Hid (2 + 6 * ly + wh = t) := ⟨_, rfl⟩
  have ht : t < m := by have := HT.out; omega
  have ht2 : 2 ≤ t := by have := HT.out; omega
  rw [HT.out]
  obtain ⟨p, hp⟩ : ∃ p, T[t]? = some p := ⟨_, List.getElem?_eq_getElem (by rw [h.len]; exact ht)⟩
  have HOK := Lib.hid (ok_any h (by omega))
  have HI1 := fun w => Lib.hid (in_any (w := w) (ly : Int) 0 ((layers : Int) - 1))
  have HI2 := fun w => Lib.hid (in_any (w := w) (wh : Int) 0 5)
  have e1 : inB (ly : Int) 0 ((layers : Int) - 1) = true := by simp [inB]; omega
  have e2 : inB (wh : Int) 0 5 = true := by simp [inB]; omega
  rw [e1] at HI1
  rw [e2] at HI2
  have c3 : w.cell? ⟨g, 3, none⟩ = some (.int .i64 layers) := by rw [← hl]; exact h.blk.cell 3 rfl
  have c6 : w.cell? ⟨g, 6, none⟩ = some (.slice a n k) := h.blk.cell 6 rfl
  obtain ⟨gT, rfl, ct⟩ := mo_table h hp
  have hpr := h.rows t p hp
  have hta := h.tabs t p hp
  obtain ⟨pg, pn⟩ := p
  simp only at ct hpr hta ⊢
  have hpn : pn = dim := by rw [hpr]; unfold trows; rw [if_neg (by omega), if_neg (by omega)]
  subst hpn
  have ly0 : (0 : Int) ≤ (ly : Int) := by omega
  have ly1 : (ly : Int) < (layers : Int) := by omega
  have l4 : (layers : Int) ≤ 4 := by omega
  have wh0 : (0 : Int) ≤ (wh : Int) := by omega
  have wh1 : (wh : Int) ≤ 5 := by omega
  have s1 : (2 : Int) + 6 * (ly : Int) + (wh : Int) = (t : Int) := by have := HT.out; omega
  have t0 : (0 : Int) ≤ (t : Int) := by omega
  have t1 : (t : Int) < (n : Int) := by omega
  have d0 : (0 : Int) ≤ (pn : Int) := by omega
  have d1 : (pn : Int) ≤ 1000 := by omega
  have HTA := Lib.hid hta
  have t2 : (2 : Int) + 6 * (ly : Int) + (wh : Int) < (n : Int) := by omega
  rw [← HT.out] at ct
  clear h hn hpr hp hta e1 e2 hm hl s1
  go_enter Try.func11, Try.ntmps11
  go_wp2_with fail
  refine HOK.out.mono ?_
  rintro e w' ⟨rfl, rfl⟩
  go_wp2_with fail
  refine (HI1 _).out.mono ?_
  rintro e w' ⟨rfl, rfl⟩
  go_wp2_with fail
  refine (HI2 _).out.mono ?_
  rintro e w' ⟨rfl, rfl⟩
  go_wp2_with fail
  go_loopw [41, 7] (fun i v wr => ∃ (r : Nat) (a : Option Addr) (k : Nat) (L : List (Option Addr × Nat)), r ≤ pn ∧ i = .int .i64 r ∧ v = .slice a r k ∧ Hid (L.length = r) ∧ Hid (Own wr w.heap.size 32 1 a r k (sl pn L)) ∧ Hid (Tb wr w.heap.size pn L (frow c pn t)) ∧ Hid (Below w.heap.size w wr)) (fun i _ _ => pn - (intOf i).toNat)
  case atStart => exact ⟨0, _, _, [], Nat.zero_le _, rfl, rfl, Lib.hid rfl, Lib.hid (Own.none_ _ _ _ _), Lib.hid (Tb.none_ _ _ _ _), Lib.hid (Below.refl _ _)⟩
  case round =>
    obtain ⟨r, ar, kr, L, hr, rfl, rfl, HL, HO, HT2, HB⟩ := hrel
    by_cases hrl : r < pn
    · have hsz := HB.out.size
      have r0 : (0 : Int) ≤ (r : Int) := by omega
      have r1 : (r : Int) < (pn : Int) := by omega
      obtain ⟨q, cr, hq⟩ := tab_row (HTA.out.below HB.out) (r := r) (by show r < pn; omega)
      simp only at cr
      have TC := Lib.hid (clone_any (l := frow c pn t r) hq.rd (by omega))
      clear hq
      go_wp2_with fail
      refine TC.out.mono ?_
      rintro e w5 ⟨a5, c5, rfl, ho5, hb5⟩
      have HZ := Lib.hid (hb5.alloc hb5.size (.cells #[.slice a5 pn c5] 32))
      have HQ := Lib.hid (Own.alloc' ho5 (.cells #[.slice a5 pn c5] 32))
      have HOZ := Lib.hid (HO.out.chg (Chg.of_below HZ.out (fun _ => False)) (fun _ _ => id))
      have HRZ := Lib.hid (rd_new w5 (.slice a5 pn c5) 32)
      have H1C := Lib.hid (show ∀ u ∈ [Value.slice a5 pn c5], u.oneCell' = true by simp [Value.oneCell'])
      have hs5 := hb5.size
      clear ho5 hb5
      go_wp2_with (at_builtin; refine wpList_app rows35 (by omega) rfl (.tmp 45) (.tmp 48) rfl (B := w.heap.size) (by rfl) HOZ.out (by rfl) HRZ.out H1C.out (by omega) (by omega) (by simp; omega) ?_; intro a' c' w' hown hg hat)
      go_roundw
      case rel =>
        have hps := rows_push (f := frow c pn t) hsz HL.out HO.out HT2.out HB.out HZ.out HQ.out hg rfl hown hsz
        exact ⟨r + 1, a', c', _, by omega, by go_num, rfl, Lib.hid hps.1, Lib.hid hps.2.1, Lib.hid hps.2.2.1, Lib.hid hps.2.2.2⟩
      case measure => simp [intOf]; omega
    · have hre : r = pn := by omega
      subst hre
      go_wp2
      go_ret
      exact ⟨ar, kr, L, rfl, HL.out, HO.out, HT2.out, HB.out⟩

theorem rows_no (h : Mo w B g c vocab dim m a n k T) (hm : 0 < m) {layers : Nat} (hl : c.layers = layers) (hl4 : layers ≤ 4) (ly wh : Int) (hno : ¬ (0 ≤ ly ∧ ly < layers ∧ 0 ≤ wh ∧ wh ≤ 5)) :
    Calls Try.prog 11 #[.pointer (some ⟨g, 0, none⟩), .int .i64 ly, .int .i64 wh] w fun e w' => e = .returned (.slice none 0 0) ∧ w = w' := by
  have HOK := Lib.hid (ok_any h hm)
  have HI1 := fun w => Lib.hid (in_any (w := w) ly 0 ((layers : Int) - 1))
  have HI2 := fun w => Lib.hid (in_any (w := w) wh 0 5)
  have c3 : w.cell? ⟨g, 3, none⟩ = some (.int .i64 layers) := by rw [← hl]; exact h.blk.cell 3 rfl
  have l0 : (0 : Int) ≤ (layers : Int) := by omega
  have l4 : (layers : Int) ≤ 4 := by omega
  clear h hl
  by_cases h1 : 0 ≤ ly ∧ ly < layers
  · have e1 : inB ly 0 ((layers : Int) - 1) = true := by simp [inB]; omega
    have e2 : inB wh 0 5 = false := by simp [inB]; omega
    rw [e1] at HI1
    rw [e2] at HI2
    clear e1 e2 h1 hno
    go_enter Try.func11, Try.ntmps11
    go_wp2_with fail
    refine HOK.out.mono ?_
    rintro e w' ⟨rfl, rfl⟩
    go_wp2_with fail
    refine (HI1 _).out.mono ?_
    rintro e w' ⟨rfl, rfl⟩
    go_wp2_with fail
    refine (HI2 _).out.mono ?_
    rintro e w' ⟨rfl, rfl⟩
    go_wp2
    go_ret
    exact ⟨rfl, rfl⟩
  · have e1 : inB ly 0 ((layers : Int) - 1) = false := by simp [inB]; omega
    rw [e1] at HI1
    clear e1 h1 hno
    go_enter Try.func11, Try.ntmps11
    go_wp2_with fail
    refine HOK.out.mono ?_
    rintro e w' ⟨rfl, rfl⟩
    go_wp2_with fail
    refine (HI1 _).out.mono ?_
    rintro e w' ⟨rfl, rfl⟩
    go_wp2
    go_ret
    exact ⟨rfl, rfl⟩
theorem rows_not {v : Value} (h : Calls Try.prog 22 #[v] w fun e w' => e = .returned (.bool false) ∧ w = w') (ly wh : Int) :
    Calls Try.prog 11 #[v, .int .i64 ly, .int .i64 wh] w fun e w' => e = .returned (.slice none 0 0) ∧ w = w' := by
  have H := Lib.hid h
  clear h
  go_enter Try.func11, Try.ntmps11
  go_wp2_with fail
  refine H.out.mono ?_
  rintro e w' ⟨rfl, rfl⟩
  go_wp2
  go_ret
  exact ⟨rfl, rfl⟩

/-- What Rows tells: how many rows. -/
def rowsN (layers dim : Nat) (ly wh : Int) : Nat := if 0 ≤ ly ∧ ly < layers ∧ 0 ≤ wh ∧ wh ≤ 5 then dim else 0
def rowsF (c : Cfg) (dim : Nat) (ly wh : Int) : Nat → List Int := frow c dim (2 + 6 * ly.toNat + wh.toNat)
theorem rows_any (h : Mo w B g c vocab dim m a n k T) {layers : Nat} (hl : c.layers = layers) (hm : m = 2 + 6 * layers) (hl4 : layers ≤ 4) (hv : vocab ≤ 1000) (hd : dim ≤ 1000) (ly wh : Int) :
    Calls Try.prog 11 #[.pointer (some ⟨g, 0, none⟩), .int .i64 ly, .int .i64 wh] w (RowsR w (rowsN layers dim ly wh) dim (rowsF c dim ly wh)) := by
  by_cases hx : 0 ≤ ly ∧ ly < layers ∧ 0 ≤ wh ∧ wh ≤ 5
  · have e1 : ly = (ly.toNat : Nat) := by omega
    have e2 : wh = (wh.toNat : Nat) := by omega
    have e3 : rowsN layers dim ly wh = dim := if_pos hx
    have := rows_yes h hl hm hl4 hv hd ly.toNat wh.toNat (by omega) (by omega)
    rw [← e1, ← e2] at this
    rw [e3]
    exact this
  · have e3 : rowsN layers dim ly wh = 0 := if_neg hx
    rw [e3]
    refine (rows_no h (by omega) hl hl4 ly wh hx).mono ?_
    rintro e w' ⟨rfl, rfl⟩
    exact rowsR_nil _ _ _
end
end Go.Proofs.Ytpcanolanhdfeaa.MdV
