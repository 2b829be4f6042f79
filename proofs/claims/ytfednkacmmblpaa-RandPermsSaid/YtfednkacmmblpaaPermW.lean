/-
  Walks over the two programs that make a permutation.
-/
import Derived.Test.YtfednkacmmblpaaPRandDrawsx1
import Derived.Test.YtfednkacmmblpaaKit
import Derived.Test.YtfednkacmmblpaaPermP
import Derived.RegionTactic
import Derived.BigRegion
import Derived.Deep.AppendLies
import Derived.Laws.OwnMore
import Derived.Test.YtfednkacmmblpaaPureRandDraws
namespace Go.Proofs.Ytfednkacmmblpaa.PermW
open Go.RowKit Go.Proofs.YtfednkacmmblpaaW.PrintWords Go.Proofs.Ytfednkacmmblpaa.PRandDraws Go.Proofs.Ytfednkacmmblpaa.Kit Go.Proofs.Ytfednkacmmblpaa.PermP Go.Proofs.Ytfednkacmmblpaa.Math

def ints (xs : List Int) : List Value := xs.map (Value.int .i64)
theorem ints_succ (k : Nat) : ints (iota (k + 1)) = ints (iota k) ++ [.int .i64 (k : Int)] := by simp [ints, iota_succ]

/-- Two stores that let two numbers change places. -/
theorem stored2 (base g n cap : Nat) (xs : List Int) (i k : Nat) (w : World) (h : w.ownsRow base 3 1 (.slice (some ⟨g, 0, none⟩) n cap) n (ints xs)) :
    ∀ (xi xk : Int), xs.getD i 0 = xi → xs.getD k 0 = xk →
      (((w.setCell ⟨g, i, none⟩ (.int .i64 xk)).setCell ⟨g, k, none⟩ (.int .i64 xi)).drew).ownsRow base 3 1 (.slice (some ⟨g, 0, none⟩) n cap) n (ints (swap xs i k)) ∧
      w.grownBy (((w.setCell ⟨g, i, none⟩ (.int .i64 xk)).setCell ⟨g, k, none⟩ (.int .i64 xi)).drew) (some g) := by
  rintro xi xk rfl rfl
  have h1 := h.stored i (.int .i64 (xs.getD k 0))
  have h2 := h1.1.stored k (.int .i64 (xs.getD i 0))
  rw [show ints (swap xs i k) = ((ints xs).set i (.int .i64 (xs.getD k 0))).set k (.int .i64 (xs.getD i 0)) by simp [ints, swap, List.map_set]]
  exact ⟨h2.1, ⟨rfl, rfl, rfl, by simp [World.setCell, World.drew], fun b hb hne => (h2.2.block b (by simpa [World.setCell] using hb) hne).trans (h1.2.block b hb hne)⟩⟩
theorem ints_cell {base g n cap : Nat} {xs : List Int} {w : World} (h : w.ownsRow base 3 1 (.slice (some ⟨g, 0, none⟩) n cap) n (ints xs)) (hx : xs.length = n) (i : Nat) (hi : i < n) :
    w.cell? ⟨g, i, none⟩ = some (.int .i64 (xs.getD i 0)) := by
  rw [h.cellAt i (by omega)]
  simp [ints, List.getD_eq_getElem?_getD, List.getElem?_eq_getElem (show i < xs.length by omega)]

theorem swap_any (base g n cap : Nat) (xs : List Int) (i k : Nat) (x y : Int) (ex : x = i) (ey : y = k) (hi : i < n) (hk : k < n) (hx : xs.length = n) (w : World)
    (h : w.ownsRow base 3 1 (.slice (some ⟨g, 0, none⟩) n cap) n (ints xs)) :
    Calls Try.prog 28 #[.slice (some ⟨g, 0, none⟩) n cap, .int .i64 x, .int .i64 y] w fun e w' => e = .returned (.tuple #[]) ∧ w'.ownsRow base 3 1 (.slice (some ⟨g, 0, none⟩) n cap) n (ints (swap xs i k)) ∧ w.grownBy w' (some g) := by
  subst ex ey
  have ci := ints_cell h hx i hi
  have ck := ints_cell h hx k hk
  have fi : w.frozen? ⟨g, i, none⟩ = false := h.frozenAt i
  have fk : w.frozen? ⟨g, k, none⟩ = false := h.frozenAt k
  have HO := Lib.hid h
  clear h hx
  have fin2 := stored2 base g n cap xs i k w HO.out
  have F2 := Lib.hid fin2
  clear fin2
  by_cases hne : i = k
  · subst hne
    generalize hxi : xs.getD i 0 = xi at *
    clear hxi ck fk
    have i0 : (0 : Int) ≤ (i : Int) := by omega
    have i1 : (i : Int) < (n : Int) := by omega
    go_enter Try.func28, Try.ntmps28
    go_wp2
    go_region
    go_end0
    have := F2.out xi xi rfl rfl
    exact ⟨rfl, this⟩
  · generalize hxi : xs.getD i 0 = xi at *
    generalize hxk : xs.getD k 0 = xk at *
    clear hxi hxk
    have i0 : (0 : Int) ≤ (i : Int) := by omega
    have i1 : (i : Int) < (n : Int) := by omega
    have k0 : (0 : Int) ≤ (k : Int) := by omega
    have k1 : (k : Int) < (n : Int) := by omega
    go_enter Try.func28, Try.ntmps28
    go_wp2
    go_region
    go_end0
    have := F2.out xi xk rfl rfl
    exact ⟨rfl, this⟩

theorem own_heap {w w' : World} {base : Nat} {e : TypeId} {size n : Nat} {v : Value} {xs : List Value} (e1 : w'.heap = w.heap) (h : w.ownsRow base e size v n xs) : w'.ownsRow base e size v n xs := by
  unfold World.ownsRow at h ⊢
  rw [e1]
  exact h
theorem below_alike {B : Nat} {w0 w w' : World} (e1 : w'.heap = w.heap) (e2 : w'.os = w.os) (e3 : w'.tape = w.tape) (e4 : w'.output = w.output) (h : Below B w0 w) : Below B w0 w' :=
  ⟨e2.trans h.os, e3.trans h.tape, e4.trans h.output, by rw [e1]; exact h.size, by rw [e1]; exact h.block⟩

theorem info3 : (Try.prog.info? 3).map (fun i => (i.zero, i.size, i.bytes)) = some (some (.int .i64 0), 1, 8) := by kernel_rfl

attribute [local go_sem high] max_imax min_imin

theorem below_any (s : BitVec 64) (us : Int) (hu : U s = us) (i : Nat) (hi : i < 4096) (x y : Int) (hx : x = i) (hy : y = (i : Int) + 1) (w : World) :
    Calls Try.prog 13 #[.int .u64 us, .int .u64 x, .int .u64 y] w fun e w' => e = .returned (.int .u64 ((at_k s i : Nat) : Int)) ∧ ∃ m, w' = w.drewN m := by
  subst hu hx hy
  have e1 : ((i : Int) + 1) = U (BitVec.ofNat 64 (i + 1)) := by rw [← lit_U (i + 1) (by omega)]; simp
  have e0 : (i : Int) = U (BitVec.ofNat 64 i) := lit_U i (by omega)
  have h := Pure.RandDraws.below_f s (BitVec.ofNat 64 i) (BitVec.ofNat 64 (i + 1))
  rw [← e1, (at_k_lt s i hi).1] at h
  rw [← e0] at h
  exact (rand_Below.calls _ _ _ _ w h).mono fun _ _ ⟨he, hd⟩ => ⟨he, hd.out⟩

theorem fin_start (s : BitVec 64) (k : Nat) : fin s ((k : Int) - 1).toNat (iota k) = perm s k := by
  unfold perm
  rw [show ((k : Int) - 1).toNat = k - 1 by omega]

theorem perm_any (s : BitVec 64) (n : Int) (m : Nat) (hm : imin (imax n 0) 4096 = (m : Int)) (hm4 : m ≤ 4096) (w : World) :
    Calls Try.prog 19 #[.int .u64 (U s), .int .i64 n] w fun e w' => ∃ v, e = .returned v ∧ w'.ownsRow w.heap.size 3 1 v m (ints (perm s m)) ∧ Below w.heap.size w w' := by
  obtain ⟨i0, hi, hz0, hz1, hz2⟩ := info_parts info3
  have HM := Lib.hid hm
  clear hm
  generalize hus : U s = us at *
  have HU := Lib.hid hus
  clear hus
  go_enter Try.func19, Try.ntmps19
  go_wp2_with fail
  rw [HM.out]
  go_loopw [5, 12] (fun v i wr => ∃ k : Nat, k ≤ m ∧ i = .int .i64 k ∧ Hid (wr.ownsRow w.heap.size 3 1 v k (ints (iota k))) ∧ Hid (Below w.heap.size w wr)) (fun _ i _ => m - (intOf i).toNat)
  case atStart => exact ⟨0, by omega, rfl, own_nil _ _ _ _, Below.refl _ _⟩
  case round =>
    obtain ⟨k, hk, rfl, HO, HB⟩ := hrel
    by_cases hlt : k < m
    · have hbase := HB.out.size
      go_wp2_with (at_builtin; refine wpList_append_own _ rfl _ _ 45 rfl w.heap.size 3 i0 (.int .i64 0) 1 8 Try.underlying45 hi hz0 hz1 hz2 rfl (by decide) _ _ _ rfl (HO.out.alloc _) ⟨wr.heap.size, 0, none⟩ 1 1 [.int .i64 (k : Int)] rfl rfl ?c1 ?c2 ?c3 ?c4 ?c5 ?_)
      case c1 => exact cell_one_new _ _ _
      case c2 => exact fun u hu => by simp at hu; subst hu; rfl
      case c3 => unfold maxLen; omega
      case c4 => omega
      case c5 => simp; omega
      intro v' w1 hown' hgrow hlt'
      have HO1 := Lib.hid hown'
      have HB1 := Lib.hid ((HB.out.alloc hbase _).grown hgrow (by simp; omega) (fun b hb => own_base HO.out b hb))
      clear hown' hgrow hlt'
      go_wp2
      go_roundw
      case rel => exact ⟨k + 1, by omega, by go_num, by rw [ints_succ]; exact HO1, HB1⟩
      case measure => simp [intOf]; omega
    · obtain rfl : k = m := by omega
      obtain ⟨A, c, rfl⟩ := own_slice HO.out
      go_wp2_with fail
      go_loopw [8] (fun i wr => ∃ (j : Int) (xs : List Int), i = .int .i64 j ∧ -1 ≤ j ∧ j < k ∧ xs.length = k ∧ Hid (fin s j.toNat xs = perm s k) ∧ Hid (wr.ownsRow w.heap.size 3 1 (.slice A k c) k (ints xs)) ∧ Hid (Below w.heap.size w wr)) (fun i _ => (intOf i).toNat)
      case atStart =>
        refine ⟨(k : Int) - 1, iota k, rfl, by omega, by omega, iota_length k, ?_, HO, HB⟩
        exact fin_start s k
      case round =>
        obtain ⟨j, xs, rfl, hj0, hj1, hxl, HF, HO, HB⟩ := hrel
        by_cases hlt : 0 < j
        · obtain ⟨j, rfl⟩ : ∃ q : Nat, j = (q : Int) + 1 := ⟨j.toNat - 1, by omega⟩
          obtain ⟨g, cap, hv, hg, _⟩ := HO.out.form (by omega)
          have hv' : A = some ⟨g, 0, none⟩ := by injection hv
          subst hv'
          clear hv
          have hq := (at_k_lt s (j + 1) (by omega)).2
          generalize hqq : at_k s (j + 1) = q at *
          have HQ := Lib.hid hqq
          clear hqq
          have hq' : (q : Int) ≤ (j : Int) + 1 := by omega
          have HX := Lib.hid hxl
          clear hxl
          go_wp2_with fail
          refine (below_any s us HU.out (j + 1) (by omega) ((j : Int) + 1) ((j : Int) + 1 + 1) (by omega) (by omega) _).mono ?_
          rintro e w1 ⟨rfl, nd, rfl⟩
          rw [HQ.out]
          go_wp2_with fail
          refine (swap_any w.heap.size g k c xs (j + 1) q ((j : Int) + 1) (q : Int) (by omega) rfl (by omega) (by omega) HX.out (wr.drewN nd) HO.out).mono ?_
          rintro e w2 ⟨rfl, hown, hgr⟩
          have HO2 := Lib.hid hown
          have HB2 := Lib.hid (Below.grown (pw_below_drewN HB.out nd) hgr HB.out.size (fun b hb => by injection hb with hb; omega))
          clear hown hgr
          go_wp2
          go_roundw
          case rel =>
            refine ⟨j, swap xs (j + 1) q, by go_num, by omega, by omega, by rw [swap_length]; exact HX.out, ?_, HO2, HB2⟩
            have hF := HF.out
            rw [show ((j : Int) + 1).toNat = j + 1 by omega, fin, HQ.out] at hF
            exact hF
          case measure => simp [intOf]
        · go_wp2_with fail
          go_ret
          have hF := HF.out
          rw [show j.toNat = 0 by omega, fin] at hF
          subst hF
          exact ⟨_, rfl, HO.out, HB.out⟩

theorem ref_below_any (s : BitVec 64) (us : Int) (hu : U s = us) (i : Nat) (hi : i < 4096) (x y : Int) (hx : x = i) (hy : y = (i : Int) + 1) (w : World) :
    Calls Try.prog 14 #[.int .u64 us, .int .u64 x, .int .u64 y] w fun e w' => e = .returned (.int .u64 ((at_k s i : Nat) : Int)) ∧ ∃ m, w' = w.drewN m := by
  subst hu hx hy
  have e1 : ((i : Int) + 1) = U (BitVec.ofNat 64 (i + 1)) := by rw [← lit_U (i + 1) (by omega)]; simp
  have e0 : (i : Int) = U (BitVec.ofNat 64 i) := lit_U i (by omega)
  have h := Pure.RandDraws.ref_below s (BitVec.ofNat 64 i) (BitVec.ofNat 64 (i + 1))
  rw [← e1, (at_k_lt s i hi).1] at h
  rw [← e0] at h
  exact (garboardref06_Below.calls _ _ _ _ w h).mono fun _ _ ⟨he, hd⟩ => ⟨he, hd.out⟩

theorem ref_perm_any (s : BitVec 64) (n : Int) (m : Nat) (hm : imin (imax n 0) 4096 = (m : Int)) (hm4 : m ≤ 4096) (w : World) :
    Calls Try.prog 20 #[.int .u64 (U s), .int .i64 n] w fun e w' => ∃ v, e = .returned v ∧ w'.ownsRow w.heap.size 3 1 v m (ints (perm s m)) ∧ Below w.heap.size w w' := by
  obtain ⟨i0, hi, hz0, hz1, hz2⟩ := info_parts info3
  have hm' : (m : Int) ≤ n ∨ m = 0 := by unfold imin imax at hm; split at hm <;> split at hm <;> omega
  have hm2 : (m : Int) = n ∨ m = 4096 ∨ (m = 0 ∧ n ≤ 0) := by unfold imin imax at hm; split at hm <;> split at hm <;> omega
  have HM' := Lib.hid hm'
  have HM2 := Lib.hid hm2
  clear hm hm' hm2
  generalize hus : U s = us at *
  have HU := Lib.hid hus
  clear hus
  go_enter Try.func20, Try.ntmps20
  go_wp2_with fail
  go_loopw [5, 6] (fun v i wr => ∃ k : Nat, k ≤ m ∧ i = .int .i64 k ∧ Hid (wr.ownsRow w.heap.size 3 1 v k (ints (iota k))) ∧ Hid (Below w.heap.size w wr)) (fun _ i _ => m - (intOf i).toNat)
  case atStart => exact ⟨0, by omega, rfl, own_nil _ _ _ _, Below.refl _ _⟩
  case round =>
    obtain ⟨k, hk, rfl, HO, HB⟩ := hrel
    by_cases hlt : k < m
    · have hbase := HB.out.size
      have hkn : (k : Int) < n := by have := HM'.out; omega
      have hk4 : (k : Int) < 4096 := by omega
      go_wp2_with (at_builtin; refine wpList_append_own _ rfl _ _ 33 rfl w.heap.size 3 i0 (.int .i64 0) 1 8 Try.underlying33 hi hz0 hz1 hz2 rfl (by decide) _ _ _ rfl (HO.out.alloc _) ⟨wr.heap.size, 0, none⟩ 1 1 [.int .i64 (k : Int)] rfl rfl ?c1 ?c2 ?c3 ?c4 ?c5 ?_)
      case c1 => exact cell_one_new _ _ _
      case c2 => exact fun u hu => by simp at hu; subst hu; rfl
      case c3 => unfold maxLen; omega
      case c4 => omega
      case c5 => simp; omega
      intro v' w1 hown' hgrow hlt'
      have HO1 := Lib.hid hown'
      have HB1 := Lib.hid ((HB.out.alloc hbase _).grown hgrow (by simp; omega) (fun b hb => own_base HO.out b hb))
      clear hown' hgrow hlt'
      go_wp2
      go_roundw
      case rel => exact ⟨k + 1, by omega, by go_num, by rw [ints_succ]; exact HO1, HB1⟩
      case measure => simp [intOf]; omega
    · obtain rfl : k = m := by omega
      obtain ⟨A, c, rfl⟩ := own_slice HO.out
      by_cases hkn : (k : Int) < n
      all_goals
        have hk4 : (k : Int) < n → ¬ (k : Int) < 4096 := by have := HM2.out; omega
        first | (have hk5 := hk4 hkn; clear hk4) | clear hk4
        go_wp2_with fail
        try clear hk5
        go_loopw [7] (fun i wr => ∃ (j : Int) (xs : List Int), i = .int .i64 j ∧ -1 ≤ j ∧ j < k ∧ xs.length = k ∧ Hid (fin s j.toNat xs = perm s k) ∧ Hid (wr.ownsRow w.heap.size 3 1 (.slice A k c) k (ints xs)) ∧ Hid (Below w.heap.size w wr)) (fun i _ => (intOf i).toNat)
        case atStart =>
          refine ⟨(k : Int) - 1, iota k, rfl, by omega, by omega, iota_length k, ?_, HO, HB⟩
          exact fin_start s k
        case round =>
          obtain ⟨j, xs, rfl, hj0, hj1, hxl, HF, HO, HB⟩ := hrel
          by_cases hlt : 0 < j
          · obtain ⟨p, rfl⟩ : ∃ p : Nat, j = (p : Int) := ⟨j.toNat, by omega⟩
            obtain ⟨g, cap, hv, hg, _⟩ := HO.out.form (by omega)
            have hv' : A = some ⟨g, 0, none⟩ := by injection hv
            subst hv'
            clear hv
            obtain ⟨q, hq, HQ⟩ : ∃ q : Nat, q ≤ p ∧ Hid (at_k s p = q) := ⟨at_k s p, (at_k_lt s p (by omega)).2, rfl⟩
            have HX := Lib.hid hxl
            clear hxl
            go_wp2_with fail
            refine (ref_below_any s us HU.out p (by omega) (p : Int) ((p : Int) + 1) rfl rfl _).mono ?_
            rintro e w1 ⟨rfl, hd⟩
            rw [HQ.out]
            have HO1 := Lib.hid (show w1.ownsRow w.heap.size 3 1 (.slice (some ⟨g, 0, none⟩) k c) k (ints xs) by obtain ⟨nd, rfl⟩ := hd; exact HO.out)
            have HB1 := Lib.hid (show Below w.heap.size w w1 by obtain ⟨nd, rfl⟩ := hd; exact pw_below_drewN HB.out nd)
            clear hd
            have ci := ints_cell HO1.out HX.out p (by omega)
            have ck := ints_cell HO1.out HX.out q (by omega)
            have fi : w1.frozen? ⟨g, p, none⟩ = false := HO1.out.frozenAt p
            have fk : w1.frozen? ⟨g, q, none⟩ = false := HO1.out.frozenAt q
            have F2 := Lib.hid (stored2 w.heap.size g k c xs p q w1 HO1.out)
            have hF : fin s ((p : Int) - 1).toNat (swap xs p q) = perm s k := by
              have hF := HF.out
              rw [show ((p : Int)).toNat = (p - 1) + 1 by omega, fin, show p - 1 + 1 = p by omega, HQ.out] at hF
              rw [show ((p : Int) - 1).toNat = p - 1 by omega]
              exact hF
            have HF1 := Lib.hid hF
            clear hF
            have q0 : (0 : Int) ≤ (q : Int) := by omega
            have q1 : (q : Int) < (k : Int) := by omega
            have q2 : (p : Int) < (k : Int) := by omega
            have HJ1 := Lib.hid (show (p : Int) - 1 < (k : Int) by omega)
            have HQ2 := Lib.hid hg
            by_cases hne : p = q
            · subst hne
              clear ck fk
              generalize xs.getD p 0 = xi at *
              go_wp2
              go_roundw
              case rel =>
                have := F2.out xi xi rfl rfl
                refine ⟨(p : Int) - 1, swap xs p p, rfl, by omega, by omega, by rw [swap_length]; exact HX.out, HF1, own_heap rfl this.1, ?_⟩
                have hbel := Below.grown HB1.out this.2 HB1.out.size (fun b hb => by injection hb with hb; omega)
                exact ⟨hbel.os, hbel.tape, hbel.output, hbel.size, hbel.block⟩
              case measure => simp [intOf]; omega
            · generalize xs.getD p 0 = xi at *
              generalize xs.getD q 0 = xk at *
              go_wp2
              go_roundw
              case rel =>
                have := F2.out xi xk rfl rfl
                refine ⟨(p : Int) - 1, swap xs p q, rfl, by omega, HJ1.out, by rw [swap_length]; exact HX.out, HF1, own_heap rfl this.1, ?_⟩
                have hbel := Below.grown HB1.out this.2 HB1.out.size (fun b hb => by injection hb with hb; omega)
                exact ⟨hbel.os, hbel.tape, hbel.output, hbel.size, hbel.block⟩
              case measure => simp [intOf]; omega
          · go_wp2_with fail
            go_ret
            have hF := HF.out
            rw [show j.toNat = 0 by omega, fin] at hF
            subst hF
            exact ⟨_, rfl, HO.out, HB.out⟩
end Go.Proofs.Ytfednkacmmblpaa.PermW
