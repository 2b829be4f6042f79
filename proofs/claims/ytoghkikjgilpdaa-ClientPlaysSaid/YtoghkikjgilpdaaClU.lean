/-
  Walks over the client: ask, take, Tick, Cancel, Arrive.
-/
import Derived.Test.YtoghkikjgilpdaaClV
namespace Go.Proofs.Ytoghkikjgilpdaa.ClU
open Go.RowKit Go.Proofs.Ytoghkikjgilpdaa.Kit Go.Proofs.Ytoghkikjgilpdaa.ClW Go.Proofs.Ytoghkikjgilpdaa.ClV
attribute [local go_sem high] max_imax min_imin
set_option linter.unusedVariables false

section
variable {B g : Nat} {k : Ck} {pl tl : List Int} {w w' : World}

def Asked (w : World) (k : Ck) (pl : List Int) (e : Ending) (w' : World) : Prop := ∃ a c, e = .returned (.agg (mc (askM k a c))) ∧ Own w' w.heap.size 3 1 a k.jn c (ints pl) ∧ Below w.heap.size w w'
theorem ask (h : Cl w B g k pl tl) : Calls Try.prog 30 #[.pointer (some ⟨g, 0, none⟩)] w (Asked w k pl) := by
  have HC := Lib.hid h
  have hj := h.jfew
  clear h
  obtain ⟨js, H1⟩ : ∃ n, Hid (k.js = n) := ⟨_, rfl⟩
  obtain ⟨ja, H2⟩ : ∃ n, Hid (k.ja = n) := ⟨_, rfl⟩
  obtain ⟨jn, H3⟩ : ∃ n, Hid (k.jn = n) := ⟨_, rfl⟩
  obtain ⟨jc, H4⟩ : ∃ n, Hid (k.jc = n) := ⟨_, rfl⟩
  obtain ⟨jm, H5⟩ : ∃ n, Hid (k.jm = n) := ⟨_, rfl⟩
  have HF : ∀ a c, Hid (askM k a c = ⟨1, 3, 4, 0, 0, 0, 0, 0, js, a, jn, c, jm, none, 0, 0⟩) := fun a c => by
    show askM k a c = _
    unfold askM
    rw [H1.out, H3.out, H5.out]
  rw [H3.out] at hj
  obtain ⟨Z, HZ⟩ : ∃ Z, Hid (w.alloc (.cells #[.int .i64 0, .int .u64 0, .int .u64 0, .int .u64 0, .int .u64 0, .int .u64 0, .int .u64 0, .int .i64 0, .int .u64 0, .slice none 0 0, .int .i64 0, .slice none 0 0] 39) = Z) := ⟨_, rfl⟩
  have hzb := Blk.new w #[.int .i64 0, .int .u64 0, .int .u64 0, .int .u64 0, .int .u64 0, .int .u64 0, .int .u64 0, .int .i64 0, .int .u64 0, .slice none 0 0, .int .i64 0, .slice none 0 0] 39
  have hzc := HC.out.alloc (.cells #[.int .i64 0, .int .u64 0, .int .u64 0, .int .u64 0, .int .u64 0, .int .u64 0, .int .u64 0, .int .i64 0, .int .u64 0, .slice none 0 0, .int .i64 0, .slice none 0 0] 39)
  have hzl := (Below.refl w.heap.size w).alloc (Nat.le_refl _) (.cells #[.int .i64 0, .int .u64 0, .int .u64 0, .int .u64 0, .int .u64 0, .int .u64 0, .int .u64 0, .int .i64 0, .int .u64 0, .slice none 0 0, .int .i64 0, .slice none 0 0] 39)
  have hzs : (w.alloc (.cells #[.int .i64 0, .int .u64 0, .int .u64 0, .int .u64 0, .int .u64 0, .int .u64 0, .int .u64 0, .int .i64 0, .int .u64 0, .slice none 0 0, .int .i64 0, .slice none 0 0] 39)).heap.size = w.heap.size + 1 := by simp
  rw [HZ.out] at hzb hzc hzl hzs
  go_enter Try.func30, Try.ntmps30
  go_upto_region 1 with (fail)
  rw [HZ.out]
  have c2 : Z.cell? ⟨g, 2, none⟩ = some (.int .u64 js) := by rw [← H1.out]; exact hzc.blk.cell 2 rfl
  have c3 : Z.cell? ⟨g, 3, none⟩ = some (.slice ja jn jc) := by rw [← H2.out, ← H3.out, ← H4.out]; exact hzc.blk.cell 3 rfl
  have c4 : Z.cell? ⟨g, 4, none⟩ = some (.int .i64 jm) := by rw [← H5.out]; exact hzc.blk.cell 4 rfl
  have HZB := Lib.hid hzb
  have HZC := Lib.hid hzc
  have HZL := Lib.hid hzl
  have HZS := Lib.hid hzs
  clear hzb hzc hzl hzs
  go_upto_region 2 with (fail)
  have b2 := Blk.new Z #[.int .u64 js, .slice ja jn jc, .int .i64 jm] 30
  have z2 := HZB.out.alloc (.cells #[.int .u64 js, .slice ja jn jc, .int .i64 jm] 30)
  have k2 := HZC.out.alloc (.cells #[.int .u64 js, .slice ja jn jc, .int .i64 jm] 30)
  have l2 := HZL.out.alloc (by rw [HZS.out]; omega) (.cells #[.int .u64 js, .slice ja jn jc, .int .i64 jm] 30)
  have hs2 : (Z.alloc (.cells #[.int .u64 js, .slice ja jn jc, .int .i64 jm] 30)).heap.size = w.heap.size + 1 + 1 := by simp [HZS.out]
  rw [HZS.out] at b2 ⊢
  obtain ⟨Z2, HZ2⟩ : ∃ Z2, Hid (Z.alloc (.cells #[.int .u64 js, .slice ja jn jc, .int .i64 jm] 30) = Z2) := ⟨_, rfl⟩
  rw [HZ2.out] at b2 z2 k2 l2 hs2 ⊢
  clear HZB HZC HZL HZS HZ2 c2 c3 c4 HZ
  have r2 : Rd Z2 1 ja jn jc (ints pl) := by
    have := k2.job.rd
    rw [H2.out, H3.out, H4.out] at this
    exact this
  have R2 := Lib.hid r2
  have B2 := Lib.hid b2
  have ZB2 := Lib.hid z2
  have K2 := Lib.hid k2
  have L2 := Lib.hid l2
  have HS2 := Lib.hid hs2
  have q1 : Z2.cell? ⟨w.heap.size + 1, 1, none⟩ = some (.slice ja jn jc) := b2.cell 1 rfl
  clear r2 b2 z2 k2 l2 hs2
  go_wp2_with fail
  refine (clone_any R2.out hj).mono ?_
  rintro e w3 ⟨a3, c3, rfl, ho3, hb3⟩
  have b3 : Blk w3 (w.heap.size + 1) 30 #[.int .u64 js, .slice ja jn jc, .int .i64 jm] := (hb3.block _ B2.out.lt).trans B2.out
  have z3 : Blk w3 w.heap.size 39 _ := (hb3.block _ ZB2.out.lt).trans ZB2.out
  have k3 := K2.out.below hb3
  have l3 := L2.out.trans (hb3.mono (by rw [HS2.out]; omega))
  have hs3 := hb3.size
  rw [HS2.out] at hs3 ho3
  have f1 := b3.frozen 1
  have p1 : w3.cell? ⟨w.heap.size + 1, 1, none⟩ = some (.slice ja jn jc) := b3.cell 1 rfl
  have B3 := Lib.hid b3
  have Z3 := Lib.hid z3
  have K3 := Lib.hid k3
  have L3 := Lib.hid l3
  have O3 := Lib.hid ho3
  clear b3 z3 k3 l3 ho3 hb3 q1
  go_upto_region 3 with (fail)
  have b4 := B3.out.set 1 (.slice a3 jn c3)
  have h4 := (Chg.refl (fun i => i = w.heap.size + 1) w3).set (p := ⟨w.heap.size + 1, 1, none⟩) (.inl rfl) (.slice a3 jn c3)
  obtain ⟨w4, HW4⟩ : ∃ w4, Hid (w3.setCell ⟨w.heap.size + 1, 1, none⟩ (.slice a3 jn c3) = w4) := ⟨_, rfl⟩
  rw [HW4.out] at b4 h4 ⊢
  clear HW4 f1 p1
  have hg : g < w.heap.size := HC.out.blk.lt
  have k4b := h4.blk K3.out.blk (by show ¬ g = w.heap.size + 1; omega)
  have z4 := h4.blk Z3.out (by show ¬ w.heap.size = w.heap.size + 1; omega)
  have o4 := O3.out.chg h4 (fun x hx e => by have := (O3.out.lt x hx).1; omega)
  have l4 := h4.below L3.out (by omega) (fun x hx => by omega)
  have hs4 := h4.size
  have u0 : w4.cell? ⟨g, 0, none⟩ = some (.int .u64 3) := k4b.cell 0 rfl
  have u1 : w4.cell? ⟨g, 1, none⟩ = some (.int .u64 4) := k4b.cell 1 rfl
  have v0 : w4.cell? ⟨w.heap.size + 1, 0, none⟩ = some (.int .u64 js) := b4.cell 0 rfl
  have v1 : w4.cell? ⟨w.heap.size + 1, 1, none⟩ = some (.slice a3 jn c3) := b4.cell 1 rfl
  have v2 : w4.cell? ⟨w.heap.size + 1, 2, none⟩ = some (.int .i64 jm) := b4.cell 2 rfl
  have Z4 := Lib.hid z4
  have O4 := Lib.hid o4
  have L4 := Lib.hid l4
  clear k4b z4 o4 l4 b4 h4
  have z0 : w4.cell? ⟨w.heap.size, 0, none⟩ = some (.int .i64 0) := Z4.out.cell 0 rfl
  have y0 := Z4.out.frozen 0
  have z1 : w4.cell? ⟨w.heap.size, 1, none⟩ = some (.int .u64 0) := Z4.out.cell 1 rfl
  have y1 := Z4.out.frozen 1
  have z2 : w4.cell? ⟨w.heap.size, 2, none⟩ = some (.int .u64 0) := Z4.out.cell 2 rfl
  have y2 := Z4.out.frozen 2
  have z3 : w4.cell? ⟨w.heap.size, 3, none⟩ = some (.int .u64 0) := Z4.out.cell 3 rfl
  have y3 := Z4.out.frozen 3
  have z4 : w4.cell? ⟨w.heap.size, 4, none⟩ = some (.int .u64 0) := Z4.out.cell 4 rfl
  have y4 := Z4.out.frozen 4
  have z5 : w4.cell? ⟨w.heap.size, 5, none⟩ = some (.int .u64 0) := Z4.out.cell 5 rfl
  have y5 := Z4.out.frozen 5
  have z6 : w4.cell? ⟨w.heap.size, 6, none⟩ = some (.int .u64 0) := Z4.out.cell 6 rfl
  have y6 := Z4.out.frozen 6
  have z7 : w4.cell? ⟨w.heap.size, 7, none⟩ = some (.int .i64 0) := Z4.out.cell 7 rfl
  have y7 := Z4.out.frozen 7
  have z8 : w4.cell? ⟨w.heap.size, 8, none⟩ = some (.int .u64 0) := Z4.out.cell 8 rfl
  have y8 := Z4.out.frozen 8
  have z9 : w4.cell? ⟨w.heap.size, 9, none⟩ = some (.slice none 0 0) := Z4.out.cell 9 rfl
  have y9 := Z4.out.frozen 9
  have z10 : w4.cell? ⟨w.heap.size, 10, none⟩ = some (.int .i64 0) := Z4.out.cell 10 rfl
  have y10 := Z4.out.frozen 10
  have z11 : w4.cell? ⟨w.heap.size, 11, none⟩ = some (.slice none 0 0) := Z4.out.cell 11 rfl
  have y11 := Z4.out.frozen 11
  have b5 : Blk ((((((((((((w4.setCell ⟨w.heap.size, 0, none⟩ (.int .i64 1)).setCell ⟨w.heap.size, 1, none⟩ (.int .u64 3)).setCell ⟨w.heap.size, 2, none⟩ (.int .u64 4)).setCell ⟨w.heap.size, 3, none⟩ (.int .u64 0)).setCell ⟨w.heap.size, 4, none⟩ (.int .u64 0)).setCell ⟨w.heap.size, 5, none⟩ (.int .u64 0)).setCell ⟨w.heap.size, 6, none⟩ (.int .u64 0)).setCell ⟨w.heap.size, 7, none⟩ (.int .i64 0)).setCell ⟨w.heap.size, 8, none⟩ (.int .u64 js)).setCell ⟨w.heap.size, 9, none⟩ (.slice a3 jn c3)).setCell ⟨w.heap.size, 10, none⟩ (.int .i64 jm)).setCell ⟨w.heap.size, 11, none⟩ (.slice none 0 0)).drew w.heap.size 39 (mc ⟨1, 3, 4, 0, 0, 0, 0, 0, js, a3, jn, c3, jm, none, 0, 0⟩) := ((((((((((((Z4.out.set 0 (.int .i64 1)).set 1 (.int .u64 3)).set 2 (.int .u64 4)).set 3 (.int .u64 0)).set 4 (.int .u64 0)).set 5 (.int .u64 0)).set 6 (.int .u64 0)).set 7 (.int .i64 0)).set 8 (.int .u64 js)).set 9 (.slice a3 jn c3)).set 10 (.int .i64 jm)).set 11 (.slice none 0 0)).drew
  have h5 := (((((((((((((Chg.refl (fun i => i = w.heap.size) w4).set (p := ⟨w.heap.size, 0, none⟩) (.inl rfl) (.int .i64 1)).set (p := ⟨w.heap.size, 1, none⟩) (.inl rfl) (.int .u64 3)).set (p := ⟨w.heap.size, 2, none⟩) (.inl rfl) (.int .u64 4)).set (p := ⟨w.heap.size, 3, none⟩) (.inl rfl) (.int .u64 0)).set (p := ⟨w.heap.size, 4, none⟩) (.inl rfl) (.int .u64 0)).set (p := ⟨w.heap.size, 5, none⟩) (.inl rfl) (.int .u64 0)).set (p := ⟨w.heap.size, 6, none⟩) (.inl rfl) (.int .u64 0)).set (p := ⟨w.heap.size, 7, none⟩) (.inl rfl) (.int .i64 0)).set (p := ⟨w.heap.size, 8, none⟩) (.inl rfl) (.int .u64 js)).set (p := ⟨w.heap.size, 9, none⟩) (.inl rfl) (.slice a3 jn c3)).set (p := ⟨w.heap.size, 10, none⟩) (.inl rfl) (.int .i64 jm)).set (p := ⟨w.heap.size, 11, none⟩) (.inl rfl) (.slice none 0 0)).drew
  go_region
  go_wp2
  obtain ⟨w5, HW5⟩ : ∃ w5, Hid (((((((((((((w4.setCell ⟨w.heap.size, 0, none⟩ (.int .i64 1)).setCell ⟨w.heap.size, 1, none⟩ (.int .u64 3)).setCell ⟨w.heap.size, 2, none⟩ (.int .u64 4)).setCell ⟨w.heap.size, 3, none⟩ (.int .u64 0)).setCell ⟨w.heap.size, 4, none⟩ (.int .u64 0)).setCell ⟨w.heap.size, 5, none⟩ (.int .u64 0)).setCell ⟨w.heap.size, 6, none⟩ (.int .u64 0)).setCell ⟨w.heap.size, 7, none⟩ (.int .i64 0)).setCell ⟨w.heap.size, 8, none⟩ (.int .u64 js)).setCell ⟨w.heap.size, 9, none⟩ (.slice a3 jn c3)).setCell ⟨w.heap.size, 10, none⟩ (.int .i64 jm)).setCell ⟨w.heap.size, 11, none⟩ (.slice none 0 0)).drew = w5) := ⟨_, rfl⟩
  rw [HW5.out] at b5 h5 ⊢
  clear HW5
  have e0 : w5.cell? ⟨w.heap.size, 0, none⟩ = some (.int .i64 1) := b5.cell 0 rfl
  have e1 : w5.cell? ⟨w.heap.size, 1, none⟩ = some (.int .u64 3) := b5.cell 1 rfl
  have e2 : w5.cell? ⟨w.heap.size, 2, none⟩ = some (.int .u64 4) := b5.cell 2 rfl
  have e3 : w5.cell? ⟨w.heap.size, 3, none⟩ = some (.int .u64 0) := b5.cell 3 rfl
  have e4 : w5.cell? ⟨w.heap.size, 4, none⟩ = some (.int .u64 0) := b5.cell 4 rfl
  have e5 : w5.cell? ⟨w.heap.size, 5, none⟩ = some (.int .u64 0) := b5.cell 5 rfl
  have e6 : w5.cell? ⟨w.heap.size, 6, none⟩ = some (.int .u64 0) := b5.cell 6 rfl
  have e7 : w5.cell? ⟨w.heap.size, 7, none⟩ = some (.int .i64 0) := b5.cell 7 rfl
  have e8 : w5.cell? ⟨w.heap.size, 8, none⟩ = some (.int .u64 js) := b5.cell 8 rfl
  have e9 : w5.cell? ⟨w.heap.size, 9, none⟩ = some (.slice a3 jn c3) := b5.cell 9 rfl
  have e10 : w5.cell? ⟨w.heap.size, 10, none⟩ = some (.int .i64 jm) := b5.cell 10 rfl
  have e11 : w5.cell? ⟨w.heap.size, 11, none⟩ = some (.slice none 0 0) := b5.cell 11 rfl
  exact bodyPost_ret (v := .agg (mc ⟨1, 3, 4, 0, 0, 0, 0, 0, js, a3, jn, c3, jm, none, 0, 0⟩)) (by simp [mc, results, Try.results30, go_sem, e0, e1, e2, e3, e4, e5, e6, e7, e8, e9, e10, e11]) rfl
    ⟨a3, c3, by rw [(HF a3 c3).out], by rw [H3.out]; exact (O4.out.chg h5 (fun x hx e => by have := (O4.out.lt x hx).1; omega)).lower (by omega), h5.below L4.out (by omega) (fun x hx => by omega)⟩
end
end Go.Proofs.Ytoghkikjgilpdaa.ClU
