/-
  Walks over the stops: Len, Start, Next, Ended, Held.
-/
import Derived.Test.YtcjhlkndcgldjaaStN
namespace Go.Proofs.Ytcjhlkndcgldjaa.StR
open Go.RowKit Go.Proofs.Ytcjhlkndcgldjaa.Kit Go.Proofs.Ytcjhlkndcgldjaa.StP Go.Proofs.Ytcjhlkndcgldjaa.StM Go.Proofs.Ytcjhlkndcgldjaa.StK Go.Proofs.Ytcjhlkndcgldjaa.StN
attribute [local go_sem high] max_imax min_imin
attribute [local go_sem ↓] Go.wp_at_zero Go.wp_at_succ
set_option linter.unusedVariables false

section
variable {w : World} {B gs c g0 m0 : Nat} {S : List Wd} {A : Adr}

theorem len_any (h : SetM w B gs S A c g0 m0) : Calls Try.prog 13 #[.pointer (some ⟨gs, 0, none⟩)] w fun e w' => e = .returned (.int .i64 (S.length : Int)) ∧ w = w' := by
  have c1 : w.cell? ⟨gs, 1, none⟩ = some (.int .i64 (S.length : Int)) := h.blk.cell 1 rfl
  clear h
  go_enter Try.func13, Try.ntmps13
  go_wp2
  go_ret
  exact ⟨rfl, rfl⟩
theorem len_nil : Calls Try.prog 13 #[.pointer none] w fun e w' => e = .returned (.int .i64 0) ∧ w = w' := by
  go_enter Try.func13, Try.ntmps13
  go_wp2
  go_ret
  exact ⟨rfl, rfl⟩
theorem len_zero (h : w.cell? ⟨gs, 1, none⟩ = some (.int .i64 0)) : Calls Try.prog 13 #[.pointer (some ⟨gs, 0, none⟩)] w fun e w' => e = .returned (.int .i64 0) ∧ w = w' := by
  go_enter Try.func13, Try.ntmps13
  go_wp2
  go_ret
  exact ⟨rfl, rfl⟩

/-- A match: at a node of a set, or of none. -/
def mt (s p : Option Addr) : Array Value := #[.pointer s, .pointer p]
theorem start_any (h : SetM w B gs S A c g0 m0) : Calls Try.prog 14 #[.pointer (some ⟨gs, 0, none⟩)] w fun e w' => e = .returned (.agg (mt (some ⟨gs, 0, none⟩) (some ⟨g0, 0, none⟩))) ∧ Below w.heap.size w w' := by
  have z0 := Blk.new w (mt none none) 37
  have l0 := (Below.refl w.heap.size w).alloc (Nat.le_refl _) (.cells (mt none none) 37)
  have b0 := h.blk.alloc (.cells (mt none none) 37)
  obtain ⟨Z, HZ⟩ : ∃ Z, Hid (w.alloc (.cells (mt none none) 37) = Z) := ⟨_, rfl⟩
  rw [HZ.out] at z0 l0 b0
  have c0 : Z.cell? ⟨gs, 0, none⟩ = some (.pointer (some ⟨g0, 0, none⟩)) := b0.cell 0 rfl
  have t0 : Z.cell? ⟨w.heap.size, 0, none⟩ = some (.pointer none) := z0.cell 0 rfl
  have t1 : Z.cell? ⟨w.heap.size, 1, none⟩ = some (.pointer none) := z0.cell 1 rfl
  have f0 := z0.frozen 0
  have f1 := z0.frozen 1
  have b5 : Blk ((Z.setCell ⟨w.heap.size, 0, none⟩ (.pointer (some ⟨gs, 0, none⟩))).setCell ⟨w.heap.size, 1, none⟩ (.pointer (some ⟨g0, 0, none⟩))) w.heap.size 37 (mt (some ⟨gs, 0, none⟩) (some ⟨g0, 0, none⟩)) := (z0.set 0 _).set 1 _
  have h5 := ((Chg.refl (fun i => i = w.heap.size) Z).set (p := ⟨w.heap.size, 0, none⟩) (.inl rfl) (.pointer (some ⟨gs, 0, none⟩))).set (p := ⟨w.heap.size, 1, none⟩) (.inl rfl) (.pointer (some ⟨g0, 0, none⟩))
  have HL := Lib.hid l0
  have HB5 := Lib.hid b5
  have H5 := Lib.hid h5
  have HZ' := HZ.out
  unfold mt at HZ'
  clear z0 b0 b5 h5 l0 h HZ
  go_enter Try.func14, Try.ntmps14
  go_wp2
  obtain ⟨w5, HW5⟩ : ∃ w5, Hid ((Z.setCell ⟨w.heap.size, 0, none⟩ (.pointer (some ⟨gs, 0, none⟩))).setCell ⟨w.heap.size, 1, none⟩ (.pointer (some ⟨g0, 0, none⟩)) = w5) := ⟨_, rfl⟩
  rw [HW5.out] at HB5 H5 ⊢
  have e0 : w5.cell? ⟨w.heap.size, 0, none⟩ = some (.pointer (some ⟨gs, 0, none⟩)) := HB5.out.cell 0 rfl
  have e1 : w5.cell? ⟨w.heap.size, 1, none⟩ = some (.pointer (some ⟨g0, 0, none⟩)) := HB5.out.cell 1 rfl
  exact bodyPost_ret (v := .agg (mt (some ⟨gs, 0, none⟩) (some ⟨g0, 0, none⟩))) (by simp [mt, results, Try.results14, go_sem, e0, e1]) rfl ⟨rfl, H5.out.below HL.out HL.out.size (fun x hx => by omega)⟩

theorem start_not {v : Option Addr} (h : v = none ∨ ∃ g, v = some ⟨g, 0, none⟩ ∧ w.cell? ⟨g, 0, none⟩ = some (.pointer none)) : Calls Try.prog 14 #[.pointer v] w fun e w' => e = .returned (.agg (mt none none)) ∧ Below w.heap.size w w' := by
  have z0 := Blk.new w (mt none none) 37
  have l0 := (Below.refl w.heap.size w).alloc (Nat.le_refl _) (.cells (mt none none) 37)
  have h' : v = none ∨ ∃ g, v = some ⟨g, 0, none⟩ ∧ (w.alloc (.cells (mt none none) 37)).cell? ⟨g, 0, none⟩ = some (.pointer none) := h.imp id (fun ⟨g, h1, h2⟩ => ⟨g, h1, (l0.cell (p := ⟨g, 0, none⟩) (World.block_lt_of_cell? w _ h2)).trans h2⟩)
  obtain ⟨Z, HZ⟩ : ∃ Z, Hid (w.alloc (.cells (mt none none) 37) = Z) := ⟨_, rfl⟩
  rw [HZ.out] at z0 l0 h'
  have t0 : Z.cell? ⟨w.heap.size, 0, none⟩ = some (.pointer none) := z0.cell 0 rfl
  have t1 : Z.cell? ⟨w.heap.size, 1, none⟩ = some (.pointer none) := z0.cell 1 rfl
  have f0 := z0.frozen 0
  have f1 := z0.frozen 1
  have b5 : Blk ((Z.setCell ⟨w.heap.size, 0, none⟩ (.pointer none)).setCell ⟨w.heap.size, 1, none⟩ (.pointer none)) w.heap.size 37 (mt none none) := (z0.set 0 _).set 1 _
  have h5 := ((Chg.refl (fun i => i = w.heap.size) Z).set (p := ⟨w.heap.size, 0, none⟩) (.inl rfl) (.pointer none)).set (p := ⟨w.heap.size, 1, none⟩) (.inl rfl) (.pointer none)
  have HL := Lib.hid l0
  have HB5 := Lib.hid b5
  have H5 := Lib.hid h5
  have HZ' := HZ.out
  unfold mt at HZ'
  clear z0 b5 h5 l0 h HZ
  rcases h' with rfl | ⟨g, rfl, c0⟩
  · go_enter Try.func14, Try.ntmps14
    go_wp2
    obtain ⟨w5, HW5⟩ : ∃ w5, Hid ((Z.setCell ⟨w.heap.size, 0, none⟩ (.pointer none)).setCell ⟨w.heap.size, 1, none⟩ (.pointer none) = w5) := ⟨_, rfl⟩
    rw [HW5.out] at HB5 H5 ⊢
    have e0 : w5.cell? ⟨w.heap.size, 0, none⟩ = some (.pointer none) := HB5.out.cell 0 rfl
    have e1 : w5.cell? ⟨w.heap.size, 1, none⟩ = some (.pointer none) := HB5.out.cell 1 rfl
    exact bodyPost_ret (v := .agg (mt none none)) (by simp [mt, results, Try.results14, go_sem, e0, e1]) rfl ⟨rfl, H5.out.below HL.out HL.out.size (fun x hx => by omega)⟩
  · go_enter Try.func14, Try.ntmps14
    go_wp2
    obtain ⟨w5, HW5⟩ : ∃ w5, Hid ((Z.setCell ⟨w.heap.size, 0, none⟩ (.pointer none)).setCell ⟨w.heap.size, 1, none⟩ (.pointer none) = w5) := ⟨_, rfl⟩
    rw [HW5.out] at HB5 H5 ⊢
    have e0 : w5.cell? ⟨w.heap.size, 0, none⟩ = some (.pointer none) := HB5.out.cell 0 rfl
    have e1 : w5.cell? ⟨w.heap.size, 1, none⟩ = some (.pointer none) := HB5.out.cell 1 rfl
    exact bodyPost_ret (v := .agg (mt none none)) (by simp [mt, results, Try.results14, go_sem, e0, e1]) rfl ⟨rfl, H5.out.below HL.out HL.out.size (fun x hx => by omega)⟩

theorem SetM.get (h : SetM w B gs S A c g0 m0) {p : Wd} (hp : wd S p = true) : ∃ g m, A p = some (g, m) := h.tree.get ((h.dom p).2 hp)

theorem next_any (h : SetM w B gs S A c g0 m0) {p : Wd} (hp : wd S p = true) {g m : Nat} (hA : A p = some (g, m)) {t : Int} (ht : okT t) {gr mr : Nat} (hr : A (lsuf S (p ++ [t])) = some (gr, mr)) :
    Calls Try.prog 19 #[.agg (mt (some ⟨gs, 0, none⟩) (some ⟨g, 0, none⟩)), .int .i64 t] w fun e w' => e = .returned (.agg (mt (some ⟨gs, 0, none⟩) (some ⟨gr, 0, none⟩))) ∧ Below w.heap.size w w' := by
  have m1 : Blk ((w.alloc (.cells (mt (some ⟨gs, 0, none⟩) (some ⟨g, 0, none⟩)) 37)).alloc (.cells (mt none none) 37)) w.heap.size 37 (mt (some ⟨gs, 0, none⟩) (some ⟨g, 0, none⟩)) := (Blk.new w _ 37).alloc _
  have z0 : Blk ((w.alloc (.cells (mt (some ⟨gs, 0, none⟩) (some ⟨g, 0, none⟩)) 37)).alloc (.cells (mt none none) 37)) (w.heap.size + 1) 37 (mt none none) := by
    have := Blk.new (w.alloc (.cells (mt (some ⟨gs, 0, none⟩) (some ⟨g, 0, none⟩)) 37)) (mt none none) 37
    simpa using this
  have l0 : Below w.heap.size w ((w.alloc (.cells (mt (some ⟨gs, 0, none⟩) (some ⟨g, 0, none⟩)) 37)).alloc (.cells (mt none none) 37)) := ((Below.refl w.heap.size w).alloc (Nat.le_refl _) _).alloc (by simp) _
  obtain ⟨Z, HZ⟩ : ∃ Z, Hid ((w.alloc (.cells (mt (some ⟨gs, 0, none⟩) (some ⟨g, 0, none⟩)) 37)).alloc (.cells (mt none none) 37) = Z) := ⟨_, rfl⟩
  rw [HZ.out] at m1 z0 l0
  have hm : SetM Z B gs S A c g0 m0 := h.on l0
  have hb : ∀ p, A p ≠ none → p.length ≤ p.length → bk S p = bk S p := fun _ _ _ => rfl
  have hmd : SetM Z.drew B gs S A c g0 m0 := hm.on (below_drew (Below.refl _ _))
  have TS := Lib.hid (step_any (L := p.length) hmd.tree hmd.blk hmd.root hmd.dom (fun q _ _ => rfl) (q := some p) (fun q hq => by injection hq with hq; subst hq; exact ⟨hp, Nat.le_refl _⟩) ht hr)
  have ep : ptr (atO A (some p)) = .pointer (some ⟨g, 0, none⟩) := by show ptr (at_ A p) = _; rw [at_some hA]; rfl
  rw [ep] at TS
  obtain ⟨g1, HG1⟩ : ∃ g1, Hid (w.heap.size + 1 = g1) := ⟨_, rfl⟩
  rw [HG1.out] at z0
  have hlt : w.heap.size < g1 := by have := HG1.out; omega
  have s0 : Z.cell? ⟨w.heap.size, 0, none⟩ = some (.pointer (some ⟨gs, 0, none⟩)) := m1.cell 0 rfl
  have s1 : Z.cell? ⟨w.heap.size, 1, none⟩ = some (.pointer (some ⟨g, 0, none⟩)) := m1.cell 1 rfl
  have t0 : Z.cell? ⟨g1, 0, none⟩ = some (.pointer none) := z0.cell 0 rfl
  have t1 : Z.cell? ⟨g1, 1, none⟩ = some (.pointer none) := z0.cell 1 rfl
  have f0 := z0.frozen 0
  have f1 := z0.frozen 1
  have b5 : Blk ((Z.setCell ⟨g1, 0, none⟩ (.pointer (some ⟨gs, 0, none⟩))).setCell ⟨g1, 1, none⟩ (.pointer (some ⟨gr, 0, none⟩))).drew g1 37 (mt (some ⟨gs, 0, none⟩) (some ⟨gr, 0, none⟩)) := ((z0.set 0 _).set 1 _).drew
  have h5 := (((Chg.refl (fun i => i = g1) Z).set (p := ⟨g1, 0, none⟩) (.inl rfl) (.pointer (some ⟨gs, 0, none⟩))).set (p := ⟨g1, 1, none⟩) (.inl rfl) (.pointer (some ⟨gr, 0, none⟩))).drew
  have hne1 : w.heap.size ≠ g1 := by omega
  have hne2 : g1 ≠ w.heap.size := by omega
  have HL := Lib.hid l0
  have HB5 := Lib.hid b5
  have H5 := Lib.hid h5
  have HZ' := HZ.out
  unfold mt at HZ'
  clear z0 m1 b5 h5 l0 h HZ hm hb hmd ep hp hA ht hr
  unfold mt
  go_enter Try.func19, Try.ntmps19
  go_upto_region 3 with (fail)
  rw [HG1.out]
  go_region_held3 (fun w' => w'.cell? ⟨w.heap.size, 0, none⟩ = some (.pointer (some ⟨gs, 0, none⟩)) ∧ w'.cell? ⟨w.heap.size, 1, none⟩ = some (.pointer (some ⟨g, 0, none⟩))) (first | go_keep | exact ⟨by assumption, by assumption⟩) (first | (go_at_call 24; refine TS.out.mono ?_; rintro e w' ⟨rfl, rfl⟩))
  go_wp2
  obtain ⟨w5, HW5⟩ : ∃ w5, Hid (((Z.setCell ⟨g1, 0, none⟩ (.pointer (some ⟨gs, 0, none⟩))).setCell ⟨g1, 1, none⟩ (.pointer (some ⟨gr, 0, none⟩))).drew = w5) := ⟨_, rfl⟩
  rw [HW5.out] at HB5 H5 ⊢
  have e0 : w5.cell? ⟨g1, 0, none⟩ = some (.pointer (some ⟨gs, 0, none⟩)) := HB5.out.cell 0 rfl
  have e1 : w5.cell? ⟨g1, 1, none⟩ = some (.pointer (some ⟨gr, 0, none⟩)) := HB5.out.cell 1 rfl
  exact bodyPost_ret (v := .agg #[.pointer (some ⟨gs, 0, none⟩), .pointer (some ⟨gr, 0, none⟩)]) (by simp [results, Try.results19, go_sem, e0, e1]) rfl ⟨rfl, H5.out.below HL.out HL.out.size (fun x hx => by omega)⟩
end
end Go.Proofs.Ytcjhlkndcgldjaa.StR
