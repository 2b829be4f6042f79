/-
  Walks over alike, ours, Same and told: messages that are the same.
-/
import Derived.Test.YtoghkikjgilpdaaClY
namespace Go.Proofs.Ytoghkikjgilpdaa.ClZ
open Go.RowKit Go.Proofs.Ytoghkikjgilpdaa.Kit Go.Proofs.Ytoghkikjgilpdaa.ClW Go.Proofs.Ytoghkikjgilpdaa.ClV Go.Proofs.Ytoghkikjgilpdaa.ClS Go.Proofs.Ytoghkikjgilpdaa.ClQ
attribute [local go_sem high] max_imax min_imin
set_option linter.unusedVariables false
section
variable {w : World}

theorem alike_yes {a b : Option Addr} {n c d : Nat} {l : List Int} (h1 : Rd w 1 a n c (ints l)) (h2 : Rd w 1 b n d (ints l)) :
    Calls Try.prog 37 #[.slice a n c, .slice b n d] w fun e w' => e = .returned (.bool true) ∧ ∃ m, w' = w.drewN m := by
  have hb1 : n ≤ maxLen := Nat.le_trans h1.cap h1.max
  unfold maxLen at hb1
  have R1 := Lib.hid h1
  have R2 := Lib.hid h2
  clear h1 h2
  go_enter Try.func37, Try.ntmps37
  go_wp2_with fail
  go_loopw [5] (fun i wr => ∃ k : Nat, k ≤ n ∧ i = .int .i64 k ∧ ∃ m, wr = w.drewN m) (fun i _ => n - (intOf i).toNat)
  case atStart => exact ⟨0, Nat.zero_le _, rfl, 0, rfl⟩
  case round =>
    obtain ⟨k, hk, rfl, mm, rfl⟩ := hrel
    by_cases hlt : k < n
    · obtain ⟨b1, o1, u1, rfl, hx1, hc1⟩ := R1.out.get hlt
      obtain ⟨b2, o2, u2, rfl, hx2, hc2⟩ := R2.out.get hlt
      rw [hx1] at hx2
      injection hx2 with hx2
      subst hx2
      obtain ⟨x1, hl1, rfl⟩ := ints_get hx1
      have q1 : (w.drewN mm).cell? ⟨b1, o1 + k, none⟩ = some (.int .i64 x1) := hc1
      have q2 : (w.drewN mm).cell? ⟨b2, o2 + k, none⟩ = some (.int .i64 x1) := hc2
      have i0 : (0 : Int) ≤ (k : Int) := by omega
      have i1 : (k : Int) < (n : Int) := by omega
      clear hx1 hl1
      go_upto_region 6 with (fail)
      go_big_quiet (fail)
      go_wp2
      go_roundw
      case rel => exact ⟨k + 1, by omega, by go_num, mm + nq, by first | exact World.drewN_drewN w mm nq | rfl⟩
      case measure => simp [intOf]; omega
    · go_wp2
      go_ret
      exact ⟨rfl, mm, rfl⟩

theorem ours_any (m : M) : Calls Try.prog 33 #[.agg (mc m)] w fun e w' => e = .returned (.agg (mc m)) ∧ Below w.heap.size w w' := by
  obtain ⟨kind, stream, session, attempt, inc, n, count, why, js, ja, jn, jc, jm, la, ln, lc⟩ := m
  unfold mc
  simp only
  go_enter Try.func33, Try.ntmps33
  go_wp2
  exact bodyPost_ret (v := .agg (mc ⟨kind, stream, session, attempt, inc, n, count, why, js, ja, jn, jc, jm, la, ln, lc⟩)) (by simp [mc, results, Try.results33, go_sem]) rfl ⟨rfl, ((Below.refl _ w).alloc (Nat.le_refl _) _).alloc (by simp) _⟩

/-- Two messages that say the same. -/
def Alike (w : World) (m1 m2 : M) : Prop := ∃ (jl ll : List Int), m2 = { m1 with ja := m2.ja, jc := m2.jc, la := m2.la, lc := m2.lc } ∧ Rd w 1 m1.ja m1.jn m1.jc (ints jl) ∧ Rd w 1 m2.ja m1.jn m2.jc (ints jl) ∧ Rd w 1 m1.la m1.ln m1.lc (ints ll) ∧ Rd w 1 m2.la m1.ln m2.lc (ints ll)

theorem rd_alloc2 {size : Nat} {a : Option Addr} {n c : Nat} {xs : List Value} (h : Rd w size a n c xs) (o o' : Obj) : Rd ((w.alloc o).alloc o') size a n c xs :=
  h.chg (((Chg.refl (fun _ => False) w).alloc o).alloc o') (fun _ _ _ => id)

set_option maxRecDepth 100000 in
set_option maxHeartbeats 4000000 in
theorem same_yes {m1 m2 : M} (h : Alike w m1 m2) : Calls Try.prog 32 #[.agg (mc m1), .agg (mc m2)] w fun e w' => e = .returned (.bool true) ∧ Below w.heap.size w w' := by
  obtain ⟨jl, ll, he, hj1, hj2, hl1, hl2⟩ := h
  obtain ⟨kind, stream, session, attempt, inc, n, count, why, js, ja, jn, jc, jm, la, ln, lc⟩ := m1
  obtain ⟨kind', stream', session', attempt', inc', n', count', why', js', ja', jn', jc', jm', la', ln', lc'⟩ := m2
  simp only [M.mk.injEq, true_and, and_true] at he
  obtain ⟨rfl, rfl, rfl, rfl, rfl, rfl, rfl, rfl, rfl, rfl, rfl, rfl⟩ := he
  simp only at hj1 hj2 hl1 hl2
  unfold mc
  simp only
  have J1 := Lib.hid (rd_alloc2 hj1 (.cells #[.int .i64 kind', .int .u64 stream', .int .u64 session', .int .u64 attempt', .int .u64 inc', .int .u64 n', .int .u64 count', .int .i64 why', .int .u64 js', .slice ja jn' jc, .int .i64 jm', .slice la ln' lc] 34) (.cells #[.int .i64 kind', .int .u64 stream', .int .u64 session', .int .u64 attempt', .int .u64 inc', .int .u64 n', .int .u64 count', .int .i64 why', .int .u64 js', .slice ja' jn' jc', .int .i64 jm', .slice la' ln' lc'] 34))
  have J2 := Lib.hid (rd_alloc2 hj2 (.cells #[.int .i64 kind', .int .u64 stream', .int .u64 session', .int .u64 attempt', .int .u64 inc', .int .u64 n', .int .u64 count', .int .i64 why', .int .u64 js', .slice ja jn' jc, .int .i64 jm', .slice la ln' lc] 34) (.cells #[.int .i64 kind', .int .u64 stream', .int .u64 session', .int .u64 attempt', .int .u64 inc', .int .u64 n', .int .u64 count', .int .i64 why', .int .u64 js', .slice ja' jn' jc', .int .i64 jm', .slice la' ln' lc'] 34))
  have L1 := Lib.hid (rd_alloc2 hl1 (.cells #[.int .i64 kind', .int .u64 stream', .int .u64 session', .int .u64 attempt', .int .u64 inc', .int .u64 n', .int .u64 count', .int .i64 why', .int .u64 js', .slice ja jn' jc, .int .i64 jm', .slice la ln' lc] 34) (.cells #[.int .i64 kind', .int .u64 stream', .int .u64 session', .int .u64 attempt', .int .u64 inc', .int .u64 n', .int .u64 count', .int .i64 why', .int .u64 js', .slice ja' jn' jc', .int .i64 jm', .slice la' ln' lc'] 34))
  have L2 := Lib.hid (rd_alloc2 hl2 (.cells #[.int .i64 kind', .int .u64 stream', .int .u64 session', .int .u64 attempt', .int .u64 inc', .int .u64 n', .int .u64 count', .int .i64 why', .int .u64 js', .slice ja jn' jc, .int .i64 jm', .slice la ln' lc] 34) (.cells #[.int .i64 kind', .int .u64 stream', .int .u64 session', .int .u64 attempt', .int .u64 inc', .int .u64 n', .int .u64 count', .int .i64 why', .int .u64 js', .slice ja' jn' jc', .int .i64 jm', .slice la' ln' lc'] 34))
  clear hj1 hj2 hl1 hl2
  have HBE : Hid (Below w.heap.size w ((w.alloc (.cells #[.int .i64 kind', .int .u64 stream', .int .u64 session', .int .u64 attempt', .int .u64 inc', .int .u64 n', .int .u64 count', .int .i64 why', .int .u64 js', .slice ja jn' jc, .int .i64 jm', .slice la ln' lc] 34)).alloc (.cells #[.int .i64 kind', .int .u64 stream', .int .u64 session', .int .u64 attempt', .int .u64 inc', .int .u64 n', .int .u64 count', .int .i64 why', .int .u64 js', .slice ja' jn' jc', .int .i64 jm', .slice la' ln' lc'] 34))) := Lib.hid (((Below.refl _ w).alloc (Nat.le_refl _) _).alloc (by simp) _)
  obtain ⟨W, HW⟩ : ∃ W, Hid ((w.alloc (.cells #[.int .i64 kind', .int .u64 stream', .int .u64 session', .int .u64 attempt', .int .u64 inc', .int .u64 n', .int .u64 count', .int .i64 why', .int .u64 js', .slice ja jn' jc, .int .i64 jm', .slice la ln' lc] 34)).alloc (.cells #[.int .i64 kind', .int .u64 stream', .int .u64 session', .int .u64 attempt', .int .u64 inc', .int .u64 n', .int .u64 count', .int .i64 why', .int .u64 js', .slice ja' jn' jc', .int .i64 jm', .slice la' ln' lc'] 34) = W) := ⟨_, rfl⟩
  have bA := (Blk.new w #[.int .i64 kind', .int .u64 stream', .int .u64 session', .int .u64 attempt', .int .u64 inc', .int .u64 n', .int .u64 count', .int .i64 why', .int .u64 js', .slice ja jn' jc, .int .i64 jm', .slice la ln' lc] 34).alloc (.cells #[.int .i64 kind', .int .u64 stream', .int .u64 session', .int .u64 attempt', .int .u64 inc', .int .u64 n', .int .u64 count', .int .i64 why', .int .u64 js', .slice ja' jn' jc', .int .i64 jm', .slice la' ln' lc'] 34)
  have bB := Blk.new (w.alloc (.cells #[.int .i64 kind', .int .u64 stream', .int .u64 session', .int .u64 attempt', .int .u64 inc', .int .u64 n', .int .u64 count', .int .i64 why', .int .u64 js', .slice ja jn' jc, .int .i64 jm', .slice la ln' lc] 34)) #[.int .i64 kind', .int .u64 stream', .int .u64 session', .int .u64 attempt', .int .u64 inc', .int .u64 n', .int .u64 count', .int .i64 why', .int .u64 js', .slice ja' jn' jc', .int .i64 jm', .slice la' ln' lc'] 34
  have hs1 : (w.alloc (.cells #[.int .i64 kind', .int .u64 stream', .int .u64 session', .int .u64 attempt', .int .u64 inc', .int .u64 n', .int .u64 count', .int .i64 why', .int .u64 js', .slice ja jn' jc, .int .i64 jm', .slice la ln' lc] 34)).heap.size = w.heap.size + 1 := by simp
  rw [hs1] at bB
  rw [HW.out] at J1 J2 L1 L2 HBE bA bB
  have p0 : W.cell? ⟨w.heap.size, 0, none⟩ = some (.int .i64 kind') := bA.cell 0 rfl
  have p1 : W.cell? ⟨w.heap.size, 1, none⟩ = some (.int .u64 stream') := bA.cell 1 rfl
  have p2 : W.cell? ⟨w.heap.size, 2, none⟩ = some (.int .u64 session') := bA.cell 2 rfl
  have p3 : W.cell? ⟨w.heap.size, 3, none⟩ = some (.int .u64 attempt') := bA.cell 3 rfl
  have p4 : W.cell? ⟨w.heap.size, 4, none⟩ = some (.int .u64 inc') := bA.cell 4 rfl
  have p5 : W.cell? ⟨w.heap.size, 5, none⟩ = some (.int .u64 n') := bA.cell 5 rfl
  have p6 : W.cell? ⟨w.heap.size, 6, none⟩ = some (.int .u64 count') := bA.cell 6 rfl
  have p7 : W.cell? ⟨w.heap.size, 7, none⟩ = some (.int .i64 why') := bA.cell 7 rfl
  have p8 : W.cell? ⟨w.heap.size, 8, none⟩ = some (.int .u64 js') := bA.cell 8 rfl
  have p9 : W.cell? ⟨w.heap.size, 9, none⟩ = some (.slice ja jn' jc) := bA.cell 9 rfl
  have p10 : W.cell? ⟨w.heap.size, 10, none⟩ = some (.int .i64 jm') := bA.cell 10 rfl
  have p11 : W.cell? ⟨w.heap.size, 11, none⟩ = some (.slice la ln' lc) := bA.cell 11 rfl
  have q0 : W.cell? ⟨w.heap.size + 1, 0, none⟩ = some (.int .i64 kind') := bB.cell 0 rfl
  have q1 : W.cell? ⟨w.heap.size + 1, 1, none⟩ = some (.int .u64 stream') := bB.cell 1 rfl
  have q2 : W.cell? ⟨w.heap.size + 1, 2, none⟩ = some (.int .u64 session') := bB.cell 2 rfl
  have q3 : W.cell? ⟨w.heap.size + 1, 3, none⟩ = some (.int .u64 attempt') := bB.cell 3 rfl
  have q4 : W.cell? ⟨w.heap.size + 1, 4, none⟩ = some (.int .u64 inc') := bB.cell 4 rfl
  have q5 : W.cell? ⟨w.heap.size + 1, 5, none⟩ = some (.int .u64 n') := bB.cell 5 rfl
  have q6 : W.cell? ⟨w.heap.size + 1, 6, none⟩ = some (.int .u64 count') := bB.cell 6 rfl
  have q7 : W.cell? ⟨w.heap.size + 1, 7, none⟩ = some (.int .i64 why') := bB.cell 7 rfl
  have q8 : W.cell? ⟨w.heap.size + 1, 8, none⟩ = some (.int .u64 js') := bB.cell 8 rfl
  have q9 : W.cell? ⟨w.heap.size + 1, 9, none⟩ = some (.slice ja' jn' jc') := bB.cell 9 rfl
  have q10 : W.cell? ⟨w.heap.size + 1, 10, none⟩ = some (.int .i64 jm') := bB.cell 10 rfl
  have q11 : W.cell? ⟨w.heap.size + 1, 11, none⟩ = some (.slice la' ln' lc') := bB.cell 11 rfl
  have hw := HW.out
  clear HW bA bB hs1
  go_enter Try.func32, Try.ntmps32
  go_wp2_with fail
  refine (alike_yes J1.out J2.out).mono ?_
  rintro e w1 ⟨rfl, n1, rfl⟩
  go_wp2_with fail
  refine (alike_yes (L1.out.drewN n1) (L2.out.drewN n1)).mono ?_
  rintro e w1 ⟨rfl, n2, rfl⟩
  go_wp2
  go_ret
  exact ⟨rfl, below_drewN HBE.out _⟩

theorem mcs_get (ms : List M) (k : Nat) (m : M) (h : ms[k]? = some m) (j : Nat) (hj : j < 12) : (mcs ms)[k * 12 + j]? = (mc m).toList[j]? := by
  induction ms generalizing k with
  | nil => simp at h
  | cons x r ih =>
    have e : mcs (x :: r) = (mc x).toList ++ mcs r := by simp [mcs]
    have hl : (mc x).toList.length = 12 := rfl
    rw [e]
    cases k with
    | zero =>
      simp at h
      subst h
      rw [Nat.zero_mul, Nat.zero_add, List.getElem?_append_left (by omega)]
    | succ k =>
      rw [List.getElem?_append_right (by omega), hl, show (k + 1) * 12 + j - 12 = k * 12 + j by omega]
      exact ih k (by simpa using h)
theorem Alike.below {w w' : World} {m1 m2 : M} (h : Alike w m1 m2) (hb : Below w.heap.size w w') : Alike w' m1 m2 := by
  obtain ⟨jl, ll, he, h1, h2, h3, h4⟩ := h
  exact ⟨jl, ll, he, h1.below hb (fun h0 x hx => h1.lt (by omega) h0 x hx), h2.below hb (fun h0 x hx => h2.lt (by omega) h0 x hx), h3.below hb (fun h0 x hx => h3.lt (by omega) h0 x hx), h4.below hb (fun h0 x hx => h4.lt (by omega) h0 x hx)⟩

set_option maxRecDepth 100000 in
set_option maxHeartbeats 4000000 in
theorem told_yes {a b : Option Addr} {n c d : Nat} {ms1 ms2 : List M} (h1 : Rd w 12 a n c (mcs ms1)) (h2 : Rd w 12 b n d (mcs ms2)) (hl1 : ms1.length = n) (hl2 : ms2.length = n) (hal : ∀ (k : Nat) m1 m2, ms1[k]? = some m1 → ms2[k]? = some m2 → Alike w m1 m2) :
    Calls Try.prog 17 #[.slice a n c, .slice b n d] w fun e w' => e = .returned (.bool true) ∧ Below w.heap.size w w' := by
  have hb1 : n ≤ maxLen := Nat.le_trans h1.cap h1.max
  unfold maxLen at hb1
  have R1 := Lib.hid h1
  have R2 := Lib.hid h2
  have HL1 := Lib.hid hl1
  have HL2 := Lib.hid hl2
  have HAL := Lib.hid hal
  clear h1 h2 hl1 hl2 hal
  go_enter Try.func17, Try.ntmps17
  go_wp2_with fail
  go_loopw [13] (fun i wr => ∃ k : Nat, k ≤ n ∧ i = .int .i64 k ∧ Hid (Below w.heap.size w wr)) (fun i _ => n - (intOf i).toNat)
  case atStart => exact ⟨0, Nat.zero_le _, rfl, Lib.hid (Below.refl _ w)⟩
  case round =>
    obtain ⟨k, hk, rfl, HB⟩ := hrel
    by_cases hlt : k < n
    · obtain ⟨b1, o1, rfl, hc1⟩ := R1.out.at_ (by omega)
      obtain ⟨b2, o2, rfl, hc2⟩ := R2.out.at_ (by omega)
      obtain ⟨m1, hm1⟩ : ∃ m, ms1[k]? = some m := ⟨ms1[k]'(by have := HL1.out; omega), List.getElem?_eq_getElem _⟩
      obtain ⟨m2, hm2⟩ : ∃ m, ms2[k]? = some m := ⟨ms2[k]'(by have := HL2.out; omega), List.getElem?_eq_getElem _⟩
      have HA := Lib.hid (HAL.out k m1 m2 hm1 hm2)
      have g1 : ∀ w', Below w.heap.size w w' → ∀ j, j < 12 → ∀ u, (mc m1).toList[j]? = some u → w'.cell? ⟨b1, o1 + k * 12 + j, none⟩ = some u := fun w' h j hj u hu => by
        have := hc1 (k * 12 + j) u (by rw [mcs_get ms1 k m1 hm1 j hj]; exact hu)
        rw [← Nat.add_assoc] at this
        exact (h.cell (p := ⟨b1, o1 + k * 12 + j, none⟩) (World.block_lt_of_cell? w _ this)).trans this
      have g2 : ∀ w', Below w.heap.size w w' → ∀ j, j < 12 → ∀ u, (mc m2).toList[j]? = some u → w'.cell? ⟨b2, o2 + k * 12 + j, none⟩ = some u := fun w' h j hj u hu => by
        have := hc2 (k * 12 + j) u (by rw [mcs_get ms2 k m2 hm2 j hj]; exact hu)
        rw [← Nat.add_assoc] at this
        exact (h.cell (p := ⟨b2, o2 + k * 12 + j, none⟩) (World.block_lt_of_cell? w _ this)).trans this
      have KEEP : Hid (∀ w', Below w.heap.size w w' → (w'.cell? ⟨b1, o1 + k * 12, none⟩ = some (.int .i64 m1.kind) ∧ w'.cell? ⟨b1, o1 + k * 12 + 1, none⟩ = some (.int .u64 m1.stream) ∧ w'.cell? ⟨b1, o1 + k * 12 + 2, none⟩ = some (.int .u64 m1.session) ∧ w'.cell? ⟨b1, o1 + k * 12 + 3, none⟩ = some (.int .u64 m1.attempt) ∧ w'.cell? ⟨b1, o1 + k * 12 + 4, none⟩ = some (.int .u64 m1.inc) ∧ w'.cell? ⟨b1, o1 + k * 12 + 5, none⟩ = some (.int .u64 m1.n) ∧ w'.cell? ⟨b1, o1 + k * 12 + 6, none⟩ = some (.int .u64 m1.count) ∧ w'.cell? ⟨b1, o1 + k * 12 + 7, none⟩ = some (.int .i64 m1.why) ∧ w'.cell? ⟨b1, o1 + k * 12 + 8, none⟩ = some (.int .u64 m1.js) ∧ w'.cell? ⟨b1, o1 + k * 12 + 9, none⟩ = some (.slice m1.ja m1.jn m1.jc) ∧ w'.cell? ⟨b1, o1 + k * 12 + 10, none⟩ = some (.int .i64 m1.jm) ∧ w'.cell? ⟨b1, o1 + k * 12 + 11, none⟩ = some (.slice m1.la m1.ln m1.lc) ∧ w'.cell? ⟨b2, o2 + k * 12, none⟩ = some (.int .i64 m2.kind) ∧ w'.cell? ⟨b2, o2 + k * 12 + 1, none⟩ = some (.int .u64 m2.stream) ∧ w'.cell? ⟨b2, o2 + k * 12 + 2, none⟩ = some (.int .u64 m2.session) ∧ w'.cell? ⟨b2, o2 + k * 12 + 3, none⟩ = some (.int .u64 m2.attempt) ∧ w'.cell? ⟨b2, o2 + k * 12 + 4, none⟩ = some (.int .u64 m2.inc) ∧ w'.cell? ⟨b2, o2 + k * 12 + 5, none⟩ = some (.int .u64 m2.n) ∧ w'.cell? ⟨b2, o2 + k * 12 + 6, none⟩ = some (.int .u64 m2.count) ∧ w'.cell? ⟨b2, o2 + k * 12 + 7, none⟩ = some (.int .i64 m2.why) ∧ w'.cell? ⟨b2, o2 + k * 12 + 8, none⟩ = some (.int .u64 m2.js) ∧ w'.cell? ⟨b2, o2 + k * 12 + 9, none⟩ = some (.slice m2.ja m2.jn m2.jc) ∧ w'.cell? ⟨b2, o2 + k * 12 + 10, none⟩ = some (.int .i64 m2.jm) ∧ w'.cell? ⟨b2, o2 + k * 12 + 11, none⟩ = some (.slice m2.la m2.ln m2.lc))) := Lib.hid (fun w' h => ⟨g1 w' h 0 (by omega) _ rfl, g1 w' h 1 (by omega) _ rfl, g1 w' h 2 (by omega) _ rfl, g1 w' h 3 (by omega) _ rfl, g1 w' h 4 (by omega) _ rfl, g1 w' h 5 (by omega) _ rfl, g1 w' h 6 (by omega) _ rfl, g1 w' h 7 (by omega) _ rfl, g1 w' h 8 (by omega) _ rfl, g1 w' h 9 (by omega) _ rfl, g1 w' h 10 (by omega) _ rfl, g1 w' h 11 (by omega) _ rfl, g2 w' h 0 (by omega) _ rfl, g2 w' h 1 (by omega) _ rfl, g2 w' h 2 (by omega) _ rfl, g2 w' h 3 (by omega) _ rfl, g2 w' h 4 (by omega) _ rfl, g2 w' h 5 (by omega) _ rfl, g2 w' h 6 (by omega) _ rfl, g2 w' h 7 (by omega) _ rfl, g2 w' h 8 (by omega) _ rfl, g2 w' h 9 (by omega) _ rfl, g2 w' h 10 (by omega) _ rfl, g2 w' h 11 (by omega) _ rfl⟩)
      have i0 : (0 : Int) ≤ (k : Int) := by omega
      have i1 : (k : Int) < (n : Int) := by omega
      clear hc1 hc2 hm1 hm2 g1 g2
      obtain ⟨r0, r1, r2, r3, r4, r5, r6, r7, r8, r9, r10, r11, r12, r13, r14, r15, r16, r17, r18, r19, r20, r21, r22, r23⟩ := KEEP.out wr HB.out
      go_upto_region 6 with (fail)
      go_region_held3 (fun w' => w'.cell? ⟨b1, o1 + k * 12, none⟩ = some (.int .i64 m1.kind) ∧ w'.cell? ⟨b1, o1 + k * 12 + 1, none⟩ = some (.int .u64 m1.stream) ∧ w'.cell? ⟨b1, o1 + k * 12 + 2, none⟩ = some (.int .u64 m1.session) ∧ w'.cell? ⟨b1, o1 + k * 12 + 3, none⟩ = some (.int .u64 m1.attempt) ∧ w'.cell? ⟨b1, o1 + k * 12 + 4, none⟩ = some (.int .u64 m1.inc) ∧ w'.cell? ⟨b1, o1 + k * 12 + 5, none⟩ = some (.int .u64 m1.n) ∧ w'.cell? ⟨b1, o1 + k * 12 + 6, none⟩ = some (.int .u64 m1.count) ∧ w'.cell? ⟨b1, o1 + k * 12 + 7, none⟩ = some (.int .i64 m1.why) ∧ w'.cell? ⟨b1, o1 + k * 12 + 8, none⟩ = some (.int .u64 m1.js) ∧ w'.cell? ⟨b1, o1 + k * 12 + 9, none⟩ = some (.slice m1.ja m1.jn m1.jc) ∧ w'.cell? ⟨b1, o1 + k * 12 + 10, none⟩ = some (.int .i64 m1.jm) ∧ w'.cell? ⟨b1, o1 + k * 12 + 11, none⟩ = some (.slice m1.la m1.ln m1.lc) ∧ w'.cell? ⟨b2, o2 + k * 12, none⟩ = some (.int .i64 m2.kind) ∧ w'.cell? ⟨b2, o2 + k * 12 + 1, none⟩ = some (.int .u64 m2.stream) ∧ w'.cell? ⟨b2, o2 + k * 12 + 2, none⟩ = some (.int .u64 m2.session) ∧ w'.cell? ⟨b2, o2 + k * 12 + 3, none⟩ = some (.int .u64 m2.attempt) ∧ w'.cell? ⟨b2, o2 + k * 12 + 4, none⟩ = some (.int .u64 m2.inc) ∧ w'.cell? ⟨b2, o2 + k * 12 + 5, none⟩ = some (.int .u64 m2.n) ∧ w'.cell? ⟨b2, o2 + k * 12 + 6, none⟩ = some (.int .u64 m2.count) ∧ w'.cell? ⟨b2, o2 + k * 12 + 7, none⟩ = some (.int .i64 m2.why) ∧ w'.cell? ⟨b2, o2 + k * 12 + 8, none⟩ = some (.int .u64 m2.js) ∧ w'.cell? ⟨b2, o2 + k * 12 + 9, none⟩ = some (.slice m2.ja m2.jn m2.jc) ∧ w'.cell? ⟨b2, o2 + k * 12 + 10, none⟩ = some (.int .i64 m2.jm) ∧ w'.cell? ⟨b2, o2 + k * 12 + 11, none⟩ = some (.slice m2.la m2.ln m2.lc)) (first | exact KEEP.out _ HB9.out | exact KEEP.out _ HB8.out | go_keep) (first | (go_at_call 33; refine (ours_any m1).mono ?_; rintro e w8 ⟨rfl, hb8⟩; have HB8 := Lib.hid (show Below w.heap.size w w8 from (below_drew HB.out).trans (hb8.mono HB.out.size)); clear hb8) | (go_at_call 32; refine (same_yes (m1 := m1) (m2 := m2) (HA.out.below HB8.out)).mono ?_; rintro e w9 ⟨rfl, hb9⟩; have HB9 := Lib.hid (show Below w.heap.size w w9 from HB8.out.trans (hb9.mono HB8.out.size)); clear hb9))
      go_wp2
      go_roundw
      case rel => exact ⟨k + 1, by omega, by go_num, HB9⟩
      case measure => simp [intOf]; omega
    · go_wp2
      go_ret
      exact ⟨rfl, HB.out⟩
end
end Go.Proofs.Ytoghkikjgilpdaa.ClZ
