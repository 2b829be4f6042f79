/-
  Walks over the stops: Ended, Held; a match of none.
-/
import Derived.Test.YtcjhlkndcgldjaaStR
namespace Go.Proofs.Ytcjhlkndcgldjaa.StE
open Go.RowKit Go.Proofs.Ytcjhlkndcgldjaa.Kit Go.Proofs.Ytcjhlkndcgldjaa.StP Go.Proofs.Ytcjhlkndcgldjaa.StM Go.Proofs.Ytcjhlkndcgldjaa.StK Go.Proofs.Ytcjhlkndcgldjaa.StN Go.Proofs.Ytcjhlkndcgldjaa.StR
attribute [local go_sem high] max_imax min_imin
attribute [local go_sem ↓] Go.wp_at_zero Go.wp_at_succ
set_option linter.unusedVariables false

theorem endOf_yes {S : List Wd} {p : Wd} (h : 0 ≤ endsI S p) : endOf S p = endsI S p := by
  cases p with
  | nil => rfl
  | cons a r => unfold endOf; rw [if_pos h]
/-- Along the backs: the number that is told in the end. -/
def endO (S : List Wd) : Option Wd → Int
  | none => -1
  | some p => endOf S p
theorem endO_bk {S : List Wd} {p : Wd} (h : endsI S p < 0) : endO S (bk S p) = endOf S p := by
  cases p with
  | nil =>
    show -1 = endsI S []
    rw [(endsI_no h).1]
  | cons a r =>
    show endOf S (lsuf S r) = _
    rw [endOf_lsuf]
    conv => rhs; unfold endOf
    rw [if_neg (by omega)]
def heldO (S : List Wd) : Option Wd → Nat
  | none => 0
  | some p => heldOf S p
theorem heldOf_yes {S : List Wd} {p : Wd} (h : kidB S p = true) : heldOf S p = p.length := by
  cases p with
  | nil => rfl
  | cons a r => unfold heldOf; rw [if_pos h]; rfl
theorem heldO_bk {S : List Wd} {p : Wd} (h : kidB S p = false) : heldO S (bk S p) = heldOf S p := by
  cases p with
  | nil => rfl
  | cons a r =>
    show heldOf S (lsuf S r) = _
    rw [heldOf_lsuf]
    conv => rhs; unfold heldOf
    rw [if_neg (by simp [h])]
theorem ptr_at {A : Adr} {p : Wd} {g m : Nat} (h : A p = some (g, m)) : ptr (atO A (some p)) = .pointer (some ⟨g, 0, none⟩) := by
  show ptr (at_ A p) = _
  rw [at_some h]
  rfl

section
variable {w : World} {B gs c g0 m0 : Nat} {S : List Wd} {A : Adr}

theorem next_none (t : Int) : Calls Try.prog 19 #[.agg (mt none none), .int .i64 t] w fun e w' => e = .returned (.agg (mt none none)) ∧ Below w.heap.size w w' := by
  have m1 : Blk ((w.alloc (.cells (mt none none) 37)).alloc (.cells (mt none none) 37)) w.heap.size 37 (mt none none) := (Blk.new w _ 37).alloc _
  have z0 : Blk ((w.alloc (.cells (mt none none) 37)).alloc (.cells (mt none none) 37)) (w.heap.size + 1) 37 (mt none none) := by
    have := Blk.new (w.alloc (.cells (mt none none) 37)) (mt none none) 37
    simpa using this
  have l0 : Below w.heap.size w ((w.alloc (.cells (mt none none) 37)).alloc (.cells (mt none none) 37)) := ((Below.refl w.heap.size w).alloc (Nat.le_refl _) _).alloc (by simp) _
  obtain ⟨Z, HZ⟩ : ∃ Z, Hid ((w.alloc (.cells (mt none none) 37)).alloc (.cells (mt none none) 37) = Z) := ⟨_, rfl⟩
  rw [HZ.out] at m1 z0 l0
  obtain ⟨g1, HG1⟩ : ∃ g1, Hid (w.heap.size + 1 = g1) := ⟨_, rfl⟩
  rw [HG1.out] at z0
  have hlt : w.heap.size < g1 := by have := HG1.out; omega
  have s0 : Z.cell? ⟨w.heap.size, 0, none⟩ = some (.pointer none) := m1.cell 0 rfl
  have s1 : Z.cell? ⟨w.heap.size, 1, none⟩ = some (.pointer none) := m1.cell 1 rfl
  have t0 : Z.cell? ⟨w.heap.size + 1, 0, none⟩ = some (.pointer none) := by rw [HG1.out]; exact z0.cell 0 rfl
  have t1 : Z.cell? ⟨w.heap.size + 1, 1, none⟩ = some (.pointer none) := by rw [HG1.out]; exact z0.cell 1 rfl
  have f0 : Z.frozen? ⟨w.heap.size + 1, 0, none⟩ = false := by rw [HG1.out]; exact z0.frozen 0
  have f1 : Z.frozen? ⟨w.heap.size + 1, 1, none⟩ = false := by rw [HG1.out]; exact z0.frozen 1
  have b5 : Blk ((Z.setCell ⟨g1, 0, none⟩ (.pointer none)).setCell ⟨g1, 1, none⟩ (.pointer none)) g1 37 (mt none none) := (z0.set 0 _).set 1 _
  have h5 := ((Chg.refl (fun i => i = g1) Z).set (p := ⟨g1, 0, none⟩) (.inl rfl) (.pointer none)).set (p := ⟨g1, 1, none⟩) (.inl rfl) (.pointer none)
  have HL := Lib.hid l0
  have HB5 := Lib.hid b5
  have H5 := Lib.hid h5
  have HZ' := HZ.out
  unfold StR.mt at HZ'
  clear z0 m1 b5 h5 l0 HZ
  unfold StR.mt
  go_enter Try.func19, Try.ntmps19
  go_wp2
  rw [HG1.out]
  obtain ⟨w5, HW5⟩ : ∃ w5, Hid ((Z.setCell ⟨g1, 0, none⟩ (.pointer none)).setCell ⟨g1, 1, none⟩ (.pointer none) = w5) := ⟨_, rfl⟩
  rw [HW5.out] at HB5 H5 ⊢
  have e0 : w5.cell? ⟨g1, 0, none⟩ = some (.pointer none) := HB5.out.cell 0 rfl
  have e1 : w5.cell? ⟨g1, 1, none⟩ = some (.pointer none) := HB5.out.cell 1 rfl
  exact bodyPost_ret (v := .agg #[.pointer none, .pointer none]) (by simp [results, Try.results19, go_sem, e0, e1]) rfl ⟨rfl, H5.out.below HL.out HL.out.size (fun x hx => by omega)⟩
theorem ended_none : Calls Try.prog 15 #[.agg (mt none none)] w fun e w' => e = .returned (.tuple #[.int .i64 (-1), .bool false]) ∧ Below w.heap.size w w' := by
  unfold StR.mt
  go_enter Try.func15, Try.ntmps15
  go_wp2_with fail
  go_loopg [4] 1 (fun k v wr => v = .pointer none ∧ Hid (Below w.heap.size w wr))
  case atStart => exact ⟨rfl, Lib.hid ((Below.refl _ w).alloc (Nat.le_refl _) _)⟩
  case round =>
    obtain ⟨rfl, HB⟩ := hrel
    go_wp2_with fail
    go_ret2
    exact ⟨rfl, HB.out⟩
theorem held_none : Calls Try.prog 17 #[.agg (mt none none)] w fun e w' => e = .returned (.int .i64 0) ∧ Below w.heap.size w w' := by
  unfold StR.mt
  go_enter Try.func17, Try.ntmps17
  go_wp2_with fail
  go_loopg [3] 1 (fun k v wr => v = .pointer none ∧ Hid (Below w.heap.size w wr))
  case atStart => exact ⟨rfl, Lib.hid ((Below.refl _ w).alloc (Nat.le_refl _) _)⟩
  case round =>
    obtain ⟨rfl, HB⟩ := hrel
    go_wp2_with fail
    go_ret
    exact ⟨rfl, HB.out⟩

theorem ended_any (h : SetM w B gs S A c g0 m0) {p : Wd} (hp : wd S p = true) {g m : Nat} (hA : A p = some (g, m)) :
    Calls Try.prog 15 #[.agg (mt (some ⟨gs, 0, none⟩) (some ⟨g, 0, none⟩))] w fun e w' => e = .returned (.tuple #[.int .i64 (endOf S p), .bool (decide (0 ≤ endOf S p))]) ∧ Below w.heap.size w w' := by
  have hb := (Below.refl w.heap.size w).alloc (Nat.le_refl _) (.cells (mt (some ⟨gs, 0, none⟩) (some ⟨g, 0, none⟩)) 37)
  have HM := Lib.hid (h.on hb)
  have HB := Lib.hid hb
  have HP := Lib.hid hp
  have HA := Lib.hid hA
  obtain ⟨v, HV⟩ : ∃ v, Hid (endOf S p = v) := ⟨_, rfl⟩
  rw [HV.out]
  have z1 := Blk.new w (mt (some ⟨gs, 0, none⟩) (some ⟨g, 0, none⟩)) 37
  obtain ⟨Z, HZ⟩ : ∃ Z, Hid (w.alloc (.cells (mt (some ⟨gs, 0, none⟩) (some ⟨g, 0, none⟩)) 37) = Z) := ⟨_, rfl⟩
  rw [HZ.out] at HM HB z1
  have s1 : Z.cell? ⟨w.heap.size, 1, none⟩ = some (.pointer (some ⟨g, 0, none⟩)) := z1.cell 1 rfl
  clear z1
  have HZ' := HZ.out
  unfold StR.mt at HZ' ⊢
  clear h hb hp hA HZ
  go_enter Try.func15, Try.ntmps15
  go_wp2_with fail
  go_loopg [4] (p.length + 2) (fun k u wr => ∃ q : Option Wd, Hid (u = ptr (atO A q)) ∧ Hid (∀ p', q = some p' → wd S p' = true ∧ p'.length + 1 < k) ∧ 0 < k ∧ Hid (endO S q = v) ∧ wr = Z)
  case atStart => exact ⟨some p, Lib.hid (ptr_at HA.out).symm, Lib.hid (fun p' hp' => by injection hp' with hp'; subst hp'; exact ⟨HP.out, by omega⟩), by omega, Lib.hid HV.out, rfl⟩
  case round =>
    obtain ⟨q, HU, HQ, hk0, HE, rfl⟩ := hrel
    rw [HU.out]
    cases q with
    | none =>
      have e2 : ptr (atO A (none : Option Wd)) = .pointer none := rfl
      have e3 : v = -1 := HE.out.symm
      rw [e2]
      subst e3
      go_wp2_with fail
      go_ret2
      exact ⟨rfl, HB.out⟩
    | some p' =>
      obtain ⟨hp1, hp2⟩ := HQ.out p' rfl
      obtain ⟨g', m', hA'⟩ := SetM.get HM.out hp1
      have hnode := HM.out.tree.node p' g' m' hA'
      have c1 : wr.cell? ⟨g', 1, none⟩ = some (.int .i64 (endsI S p')) := hnode.cell 1 rfl
      have c3 : wr.cell? ⟨g', 3, none⟩ = some (ptr (atO A (bk S p'))) := hnode.cell 3 rfl
      have e2 := ptr_at hA'
      rw [e2]
      obtain ⟨e, HEE⟩ : ∃ e, Hid (endsI S p' = e) := ⟨_, rfl⟩
      rw [HEE.out] at c1
      obtain ⟨ub, HUB⟩ : ∃ ub, Hid (ptr (atO A (bk S p')) = ub) := ⟨_, rfl⟩
      rw [HUB.out] at c3
      clear hnode e2 hp1 hA'
      by_cases he : 0 ≤ e
      · have e4 : v = e := by
          rw [← HE.out, ← HEE.out]
          exact endOf_yes (by rw [HEE.out]; exact he)
        subst e4
        clear c3
        go_wp2_with fail
        go_ret2
        exact ⟨by simp [he], HB.out⟩
      · have HE2 := Lib.hid ((endO_bk (S := S) (p := p') (by rw [HEE.out]; omega)).trans HE.out)
        have he2 : e < 0 := by omega
        have HN : Hid (∀ q, bk S p' = some q → wd S q = true ∧ q.length + 1 < gk - 1) := Lib.hid (fun q hq => ⟨bk_in hq, by have := bk_len hq; omega⟩)
        clear he
        go_wp2_with fail
        go_roundg (gk - 1)
        case measure => omega
        case rel => exact ⟨bk S p', Lib.hid HUB.out.symm, HN, by omega, HE2, rfl⟩

theorem held_any (h : SetM w B gs S A c g0 m0) {p : Wd} (hp : wd S p = true) {g m : Nat} (hA : A p = some (g, m)) :
    Calls Try.prog 17 #[.agg (mt (some ⟨gs, 0, none⟩) (some ⟨g, 0, none⟩))] w fun e w' => e = .returned (.int .i64 (heldOf S p : Int)) ∧ Below w.heap.size w w' := by
  have hb := (Below.refl w.heap.size w).alloc (Nat.le_refl _) (.cells (mt (some ⟨gs, 0, none⟩) (some ⟨g, 0, none⟩)) 37)
  have HM := Lib.hid (h.on hb)
  have HB := Lib.hid hb
  have HP := Lib.hid hp
  have HA := Lib.hid hA
  obtain ⟨v, HV⟩ : ∃ v, Hid (heldOf S p = v) := ⟨_, rfl⟩
  rw [HV.out]
  have z1 := Blk.new w (mt (some ⟨gs, 0, none⟩) (some ⟨g, 0, none⟩)) 37
  obtain ⟨Z, HZ⟩ : ∃ Z, Hid (w.alloc (.cells (mt (some ⟨gs, 0, none⟩) (some ⟨g, 0, none⟩)) 37) = Z) := ⟨_, rfl⟩
  rw [HZ.out] at HM HB z1
  have s1 : Z.cell? ⟨w.heap.size, 1, none⟩ = some (.pointer (some ⟨g, 0, none⟩)) := z1.cell 1 rfl
  clear z1
  have HZ' := HZ.out
  unfold StR.mt at HZ' ⊢
  clear h hb hp hA HZ
  go_enter Try.func17, Try.ntmps17
  go_wp2_with fail
  go_loopg [3] (p.length + 2) (fun k u wr => ∃ q : Option Wd, Hid (u = ptr (atO A q)) ∧ Hid (∀ p', q = some p' → wd S p' = true ∧ p'.length + 1 < k) ∧ 0 < k ∧ Hid (heldO S q = v) ∧ wr = Z)
  case atStart => exact ⟨some p, Lib.hid (ptr_at HA.out).symm, Lib.hid (fun p' hp' => by injection hp' with hp'; subst hp'; exact ⟨HP.out, by omega⟩), by omega, Lib.hid HV.out, rfl⟩
  case round =>
    obtain ⟨q, HU, HQ, hk0, HE, rfl⟩ := hrel
    rw [HU.out]
    cases q with
    | none =>
      have e2 : ptr (atO A (none : Option Wd)) = .pointer none := rfl
      have e3 : v = 0 := HE.out.symm
      rw [e2]
      subst e3
      go_wp2_with fail
      go_ret
      exact ⟨rfl, HB.out⟩
    | some p' =>
      obtain ⟨hp1, hp2⟩ := HQ.out p' rfl
      obtain ⟨g', m', hA'⟩ := SetM.get HM.out hp1
      have hnode := HM.out.tree.node p' g' m' hA'
      have c0 : wr.cell? ⟨g', 0, none⟩ = some (.int .i64 (p'.length : Int)) := hnode.cell 0 rfl
      have c2 : wr.cell? ⟨g', 2, none⟩ = some (.map (some m')) := hnode.cell 2 rfl
      have c3 : wr.cell? ⟨g', 3, none⟩ = some (ptr (atO A (bk S p'))) := hnode.cell 3 rfl
      obtain ⟨D, hown, hlen, hle⟩ := lenD (HM.out.tree.map p' g' m' hA')
      have hkid : 0 < Maps.size D ↔ kidB S p' = true := by
        rw [hlen, kidB_snoc]
        constructor
        · rintro ⟨x, _, hx⟩
          refine ⟨x, (HM.out.dom _).1 (fun h => hx ?_)⟩
          unfold kids at_
          rw [h]
          rfl
        · rintro ⟨t, ht⟩
          obtain ⟨g2, m2, h2⟩ := SetM.get HM.out ht
          exact ⟨t, HM.out.tree.wf p' t (by rw [h2]; simp), by unfold kids; rw [at_some h2]; simp⟩
      have e2 := ptr_at hA'
      rw [e2]
      obtain ⟨ub, HUB⟩ : ∃ ub, Hid (ptr (atO A (bk S p')) = ub) := ⟨_, rfl⟩
      rw [HUB.out] at c3
      obtain ⟨sz, HSZ⟩ : ∃ sz, Hid (Maps.size D = sz) := ⟨_, rfl⟩
      have HOWN := Lib.hid hown
      rw [HSZ.out] at hkid
      have HKID := Lib.hid hkid
      clear hnode e2 hp1 hA' hown hlen hkid
      by_cases he : 0 < sz
      · have e4 : v = p'.length := by
          rw [← HE.out]
          exact heldOf_yes (HKID.out.1 he)
        subst e4
        have he2 : (0 : Int) < (sz : Int) := by omega
        clear c3
        go_wp2_with (first | (at_len; refine wpList_len_own _ rfl (.tmp 15) 49 rfl 3 35 Try.underlying49 pR m' c D rfl HOWN.out ?_; rw [HSZ.out]) | go_in)
        go_ret
        exact ⟨rfl, HB.out⟩
      · have HE2 := Lib.hid ((heldO_bk (S := S) (p := p') (by
          cases hk : kidB S p' with
          | false => rfl
          | true => exact absurd (HKID.out.2 hk) he)).trans HE.out)
        have he2 : sz = 0 := by omega
        subst he2
        have HN : Hid (∀ q, bk S p' = some q → wd S q = true ∧ q.length + 1 < gk - 1) := Lib.hid (fun q hq => ⟨bk_in hq, by have := bk_len hq; omega⟩)
        clear he
        go_wp2_with (first | (at_len; refine wpList_len_own _ rfl (.tmp 15) 49 rfl 3 35 Try.underlying49 pR m' c D rfl HOWN.out ?_; rw [HSZ.out]) | go_in)
        go_roundg (gk - 1)
        case measure => omega
        case rel => exact ⟨bk S p', Lib.hid HUB.out.symm, HN, by omega, HE2, rfl⟩
end
end Go.Proofs.Ytcjhlkndcgldjaa.StE
