/-
  Walks over far, theirs and ours.
-/
import Derived.Test.YtoghkikjgilpdaaClF
namespace Go.Proofs.Ytoghkikjgilpdaa.ClB
open Go.RowKit Go.Proofs.Ytoghkikjgilpdaa.Kit Go.Proofs.Ytoghkikjgilpdaa.ClW Go.Proofs.Ytoghkikjgilpdaa.ClV Go.Proofs.Ytoghkikjgilpdaa.ClS Go.Proofs.Ytoghkikjgilpdaa.ClQ Go.Proofs.Ytoghkikjgilpdaa.ClA Go.Proofs.Ytoghkikjgilpdaa.ClF
attribute [local go_sem high] max_imax min_imin
set_option linter.unusedVariables false
section
variable {w : World}

theorem theirs_any (m : M) : Calls Try.prog 15 #[.agg (mc m)] w fun e w' => e = .returned (.agg (mc m)) ∧ Below w.heap.size w w' := by
  obtain ⟨kind, stream, session, attempt, inc, n, count, why, js, ja, jn, jc, jm, la, ln, lc⟩ := m
  unfold mc
  simp only
  go_enter Try.func15, Try.ntmps15
  go_wp2
  exact bodyPost_ret (v := .agg (mc ⟨kind, stream, session, attempt, inc, n, count, why, js, ja, jn, jc, jm, la, ln, lc⟩)) (by simp [mc, results, Try.results15, go_sem]) rfl ⟨rfl, ((Below.refl _ w).alloc (Nat.le_refl _) _).alloc (by simp) _⟩

/-- Lists that are not too long. -/
def Near (pn : Nat) (rows : List (List Value)) : Prop := pn ≤ 3000 ∧ ∀ row ∈ rows, ∀ x0 x1 b (m : M), row = xc x0 x1 b m → m.ln ≤ 3000
def Far (w : World) (pn : Nat) (rows : List (List Value)) (e : Ending) (w' : World) : Prop := ∃ b, e = .returned (.bool b) ∧ Below w.heap.size w w' ∧ (b = false → Near pn rows)
theorem xc_inj {x0 x1 y0 y1 : Int} {b c : Bool} {m n : M} (h : xc x0 x1 b m = xc y0 y1 c n) : m = n := by
  obtain ⟨⟩ := m
  obtain ⟨⟩ := n
  simp only [xc, List.cons.injEq, Value.int.injEq, Value.slice.injEq, true_and] at h
  simp_all

set_option maxRecDepth 100000 in
set_option maxHeartbeats 1000000 in
theorem far_any {js jm : Int} {a : Option Addr} {n c : Nat} (hn : n ≤ c) (hc : c ≤ maxLen) (v : Value) (xs : List (List Value)) (hx : RowsAt w 15 v xs) (hs : ∀ row ∈ xs, IsStep w row) :
    Calls Try.prog 13 #[v, .agg #[.int .u64 js, .slice a n c, .int .i64 jm]] w (Far w n (xs.take (min xs.length 150))) := by
  obtain ⟨sa, sc, rfl⟩ := hx.slice
  have HX := Lib.hid hx
  unfold maxLen at hc
  have m0 : 0 ≤ imin (n : Int) 10000 := by unfold imin; split <;> omega
  have m1 : imin (n : Int) 10000 ≤ 10000 := by unfold imin; split <;> omega
  clear hx
  go_enter Try.func13, Try.ntmps13
  go_wp2_with fail
  obtain ⟨s0, HS0⟩ : ∃ s, Hid (imin (n : Int) 10000 = s) := ⟨_, rfl⟩
  rw [HS0.out] at m0 m1 ⊢
  have HB0 := Lib.hid ((Below.refl w.heap.size w).alloc (Nat.le_refl _) (.cells #[.int .u64 js, .slice a n c, .int .i64 jm] 30))
  obtain ⟨W, HW⟩ : ∃ W, Hid (w.alloc (.cells #[.int .u64 js, .slice a n c, .int .i64 jm] 30) = W) := ⟨_, rfl⟩
  rw [HW.out] at HB0 ⊢
  clear HW
  have hl := HX.out.1
  have hcap : xs.length ≤ sc := by
    rcases HX.out.2 with ⟨h0, _⟩ | ⟨_, _, _, hv, hl2, _⟩
    · rw [h0]; simp
    · injection hv with _ _ hc; rw [hc]; exact hl2
  refine (short_any sa xs.length sc hl hcap).mono ?_
  rintro e w2 ⟨rfl, nd, rfl⟩
  have hX2 := HX.out.take_ (min xs.length 150) (Nat.min_le_left _ _)
  obtain ⟨ys, HY⟩ : ∃ ys, Hid (xs.take (min xs.length 150) = ys) := ⟨_, rfl⟩
  have hyl : min xs.length 150 = ys.length := by rw [← HY.out, List.length_take]; omega
  have hy3 : ys.length ≤ 150 := by omega
  have hys : ∀ row ∈ ys, IsStep w row := fun row hr => hs row (by rw [← HY.out] at hr; exact List.mem_of_mem_take hr)
  rw [HY.out, hyl] at hX2
  have HYL := Lib.hid hyl
  rw [hyl]
  have HY' : xs.take ys.length = ys := by rw [← hyl]; exact HY.out
  rw [HY']
  have HY2 := Lib.hid hX2
  have HYS := Lib.hid hys
  clear hX2 hys hyl HY' hl hcap HX hs HYL
  go_wp2_with fail
  go_loopw [15, 5] (fun i v wr => ∃ (k : Nat) (s : Int), k ≤ ys.length ∧ i = .int .i64 k ∧ v = .int .i64 s ∧ 0 ≤ s ∧ s ≤ 10000 * (k + 1) ∧ Hid (s ≤ 3000 → Near n (ys.take k)) ∧ Hid (Below w.heap.size w wr)) (fun i _ _ => ys.length - (intOf i).toNat)
  case atStart => exact ⟨0, s0, Nat.zero_le _, rfl, rfl, m0, by omega, Lib.hid (fun h => ⟨by have := HS0.out; unfold imin at this; split at this <;> omega, by simp⟩), Lib.hid (below_drewN HB0.out nd)⟩
  case round =>
    obtain ⟨k, s, hk, rfl, rfl, t0, t1, HN, HBe⟩ := hrel
    by_cases hlt : k < ys.length
    · obtain ⟨b, off, c', hv, hc1, hc2, hcell⟩ := HY2.out.at_ (by omega)
      injection hv with hv1 _ hv3
      subst hv1 hv3
      obtain ⟨row, hrow⟩ : ∃ row, ys[k]? = some row := ⟨ys[k], List.getElem?_eq_getElem hlt⟩
      obtain ⟨x0, x1, xb, m, jl, ll, rfl, k0, k1, l1, l2, n0, n1, ct0, ct1, hjl, hll⟩ := HYS.out row (List.mem_of_getElem? hrow)
      have HROW := Lib.hid hrow
      obtain ⟨kind, stream, session, attempt, inc, mn, count, why, js, mja, mjn, mjc, mjm, la, ln, lc⟩ := m
      have hln := Nat.le_trans hll.cap hll.max
      unfold maxLen at hln
      simp only at hln
      clear k0 k1 l1 l2 n0 n1 ct0 ct1 hjl hll
      have hce := hcell k _ hrow
      have hbe : ∀ j u, (xc x0 x1 xb ⟨kind, stream, session, attempt, inc, mn, count, why, js, mja, mjn, mjc, mjm, la, ln, lc⟩)[j]? = some u → wr.cell? ⟨b, off + k * 15 + j, none⟩ = some u := fun j u hu => by
        have h1 := hce j u hu
        rw [← Nat.add_assoc] at h1
        have h2 : b < w.heap.size := World.block_lt_of_cell? w _ h1
        exact (HBe.out.cell (p := ⟨b, off + k * 15 + j, none⟩) h2).trans h1
      have r0 : wr.cell? ⟨b, off + k * 15, none⟩ = some (.int .u8 x0) := hbe 0 _ rfl
      have r1 : wr.cell? ⟨b, off + k * 15 + 1, none⟩ = some (.int .i64 x1) := hbe 1 _ rfl
      have r2 : wr.cell? ⟨b, off + k * 15 + 2, none⟩ = some (.bool xb) := hbe 2 _ rfl
      have r3 : wr.cell? ⟨b, off + k * 15 + 3, none⟩ = some (.int .i64 kind) := hbe 3 _ rfl
      have r4 : wr.cell? ⟨b, off + k * 15 + 4, none⟩ = some (.int .u64 stream) := hbe 4 _ rfl
      have r5 : wr.cell? ⟨b, off + k * 15 + 5, none⟩ = some (.int .u64 session) := hbe 5 _ rfl
      have r6 : wr.cell? ⟨b, off + k * 15 + 6, none⟩ = some (.int .u64 attempt) := hbe 6 _ rfl
      have r7 : wr.cell? ⟨b, off + k * 15 + 7, none⟩ = some (.int .u64 inc) := hbe 7 _ rfl
      have r8 : wr.cell? ⟨b, off + k * 15 + 8, none⟩ = some (.int .u64 mn) := hbe 8 _ rfl
      have r9 : wr.cell? ⟨b, off + k * 15 + 9, none⟩ = some (.int .u64 count) := hbe 9 _ rfl
      have r10 : wr.cell? ⟨b, off + k * 15 + 10, none⟩ = some (.int .i64 why) := hbe 10 _ rfl
      have r11 : wr.cell? ⟨b, off + k * 15 + 11, none⟩ = some (.int .u64 js) := hbe 11 _ rfl
      have r12 : wr.cell? ⟨b, off + k * 15 + 12, none⟩ = some (.slice mja mjn mjc) := hbe 12 _ rfl
      have r13 : wr.cell? ⟨b, off + k * 15 + 13, none⟩ = some (.int .i64 mjm) := hbe 13 _ rfl
      have r14 : wr.cell? ⟨b, off + k * 15 + 14, none⟩ = some (.slice la ln lc) := hbe 14 _ rfl
      have i0 : (0 : Int) ≤ (k : Int) := by omega
      have i1 : (k : Int) < (ys.length : Int) := by omega
      have m0 : 0 ≤ imin (ln : Int) 10000 := by unfold imin; split <;> omega
      have m1 : imin (ln : Int) 10000 ≤ 10000 := by unfold imin; split <;> omega
      clear hce hbe hcell hrow
      go_upto_region 5 with (fail)
      have bx := Blk.new wr (xc x0 x1 xb ⟨kind, stream, session, attempt, inc, mn, count, why, js, mja, mjn, mjc, mjm, la, ln, lc⟩).toArray 36
      have hsw : w.heap.size ≤ wr.heap.size := HBe.out.size
      have HBe2 := Lib.hid (HBe.out.alloc hsw (.cells (xc x0 x1 xb ⟨kind, stream, session, attempt, inc, mn, count, why, js, mja, mjn, mjc, mjm, la, ln, lc⟩).toArray 36))
      obtain ⟨W2, HW2⟩ : ∃ W2, Hid (wr.alloc (.cells (xc x0 x1 xb ⟨kind, stream, session, attempt, inc, mn, count, why, js, mja, mjn, mjc, mjm, la, ln, lc⟩).toArray 36) = W2) := ⟨_, rfl⟩
      have HW2' := HW2.out
      unfold xc at HW2'
      simp only at HW2'
      rw [HW2'] at ⊢
      rw [HW2.out] at bx HBe2
      clear HW2 HW2' r0 r1 r2 r3 r4 r5 r6 r7 r8 r9 r10 r11 r12 r13 r14 hsw
      have q14 : W2.cell? ⟨wr.heap.size, 14, none⟩ = some (.slice la ln lc) := bx.cell 14 rfl
      clear bx
      go_wp2
      go_roundw
      case rel =>
        refine ⟨k + 1, s + imin (ln : Int) 10000, by omega, by go_num, rfl, by omega, by omega, Lib.hid (fun h => ?_), HBe2⟩
        obtain ⟨h1, h2⟩ := HN.out (by omega)
        refine ⟨h1, fun row hr x0' x1' b' m' he => ?_⟩
        rw [List.take_add_one, HROW.out] at hr
        rcases List.mem_append.1 hr with hr | hr
        · exact h2 row hr x0' x1' b' m' he
        · simp at hr
          subst hr
          have := xc_inj he
          subst this
          show ln ≤ 3000
          unfold imin at h
          split at h <;> omega
      case measure => simp [intOf]; omega
    · have hkl : k = ys.length := by omega
      subst hkl
      rw [List.take_length] at HN
      go_wp2
      go_ret
      exact ⟨_, rfl, HBe.out, fun h => by rw [HY.out]; exact HN.out (by simpa using h)⟩
end
end Go.Proofs.Ytoghkikjgilpdaa.ClB
