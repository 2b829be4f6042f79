/-
  Walks over alive, and the small functions of the client's laws.
-/
import Derived.Test.YtoghkikjgilpdaaClQ
namespace Go.Proofs.Ytoghkikjgilpdaa.ClA
open Go.RowKit Go.Proofs.Ytoghkikjgilpdaa.Kit Go.Proofs.Ytoghkikjgilpdaa.ClW Go.Proofs.Ytoghkikjgilpdaa.ClV Go.Proofs.Ytoghkikjgilpdaa.ClS Go.Proofs.Ytoghkikjgilpdaa.ClQ
attribute [local go_sem high] max_imax min_imin
set_option linter.unusedVariables false
section
variable {w : World}

theorem own_cell {B : Nat} {e size n c : Nat} {a : Option Addr} {xs : List Value} (h : Own w B e size a n c xs) (hn : 0 < n) : ∃ ga, a = some ⟨ga, 0, none⟩ ∧ B ≤ ga ∧ (∃ cur, Blk w ga e cur) ∧ ∀ (j : Nat) (u : Value), xs[j]? = some u → w.cell? ⟨ga, j, none⟩ = some u := by
  obtain ⟨_, ⟨_, h0, _⟩ | ⟨g, cur, rfl, hB, hh, _⟩⟩ := h.form
  · omega
  · refine ⟨g, rfl, hB, ⟨cur, hh⟩, fun j u hu => ?_⟩
    have := h.row.cells (g := g) rfl j u hu
    rw [Go.WideShapes.add_plain, Nat.zero_add] at this
    exact this

set_option maxRecDepth 100000 in
theorem alive_any : Calls Try.prog 8 #[] w fun e w' => e = .returned (.bool true) ∧ Below w.heap.size w w' := by
  have hu := Try.underlying24
  go_enter Try.func8, Try.ntmps8
  go_wp2_with fail
  refine (new_yes (js := 0) (jm := 2) (ev := 10) (pl := []) (Rd.none_ w 1) (by omega) (by omega) (by omega)).mono ?_
  rintro e w1 ⟨g, ja, jc, rfl, hg, h1, hb1⟩
  have H1 := Lib.hid h1
  have HB1 := Lib.hid hb1
  have HG := Lib.hid hg
  clear h1 hb1 hg
  go_wp2_with fail
  refine (tick_yes H1.out 0 rfl (by show (0 : Int) ≤ nowOf 0 0; decide)).mono ?_
  rintro e w2 ⟨a2, c2, ms2, rfl, ho2, ⟨m2, hf2, rfl⟩, h2, hc2⟩
  have hm2 : ∃ pa pc, m2 = askM (k0 0 ja 0 jc 2 10) pa pc := by
    rcases hf2 with ⟨h, _⟩ | ⟨_, a, c, h, _⟩
    · cases h
    · exact ⟨a, c, h⟩
  obtain ⟨pa, pc, rfl⟩ := hm2
  have H2 := Lib.hid (show Cl w2 w.heap.size g ⟨0, ja, 0, jc, 2, 10, none, 0, 0, 0, false, false, 0, 10⟩ [] [] from h2)
  have HC2 := Lib.hid hc2
  have HO2 := Lib.hid (show Own w2 w1.heap.size 39 12 a2 1 c2 (mcs [askM (k0 0 ja 0 jc 2 10) pa pc]) from ho2)
  clear hf2 h2 hc2 ho2
  simp only [show (k0 0 ja 0 jc 2 10).stopped = false from rfl, Bool.false_eq_true, if_false, List.length_cons, List.length_nil, Nat.zero_add]
  obtain ⟨ga, HA, hga, ⟨cur, hgb⟩, hcell⟩ := own_cell HO2.out (by omega)
  subst HA
  have HCELL : Hid (w2.cell? ⟨ga, 0, none⟩ = some (.int .i64 1)) := Lib.hid (hcell 0 _ rfl)
  have hgab : ga < w2.heap.size := hgb.lt
  have hne : ga ≠ g := hgb.ne H2.out.blk (by decide)
  clear hcell hgb
  have H3 := Lib.hid (H2.out.alloc (.cells #[.int .i64 7] 3))
  have HR3 : Hid (Rd (w2.alloc (.cells #[.int .i64 7] 3)) 1 (some ⟨w2.heap.size, 0, none⟩) 1 1 (ints [7])) := Lib.hid (Own.made (size := 1) (B := 0) w2 #[.int .i64 7] 3 1 (Nat.zero_le _) (by unfold maxLen; omega) rfl).rd
  have HC3 := Lib.hid (HC2.out.alloc (.cells #[.int .i64 7] 3))
  have HX3 := Lib.hid ((Chg.refl (fun _ => False) w2).alloc (.cells #[.int .i64 7] 3))
  have hgl : g < w2.heap.size := H2.out.blk.lt
  go_upto_region 6 with ((go_at_call 10; refine (arrive_tok (m := ⟨4, 3, 0, 0, 0, 0, 0, 0, 0, none, 0, 0, 0, some ⟨w2.heap.size, 0, none⟩, 1, 1⟩) H3.out 1 rfl rfl rfl (Int.le_refl 0) HR3.out (fun _ x hx e => by simp [ob] at hx; omega) (by show 1 ≤ 549755813888; omega) (by show 0 ≤ 549755813888; omega)).mono ?_; rintro e w4 ⟨ta, tn, tc, gm, rfl, htn, hgm, hbm, h4, hc4, ha4⟩))
  have htn1 : tn = 1 := by rw [htn]; decide
  subst htn1
  have H4 := Lib.hid h4
  have hc4' : Chg (fun i => i = g) (w2.alloc (.cells #[.int .i64 7] 3)) w4 := hc4.mono (fun i _ h => h.elim id (fun h => by simp [ob] at h))
  have p0 : w4.cell? ⟨ga, 0, none⟩ = some (.int .i64 1) := hc4'.cell (HX3.out.cell HCELL.out (fun h => h)) (by show ¬ ga = g; exact hne)
  have q0 : w4.cell? ⟨gm, 0, none⟩ = some (.int .i64 2) := hbm.cell 0 rfl
  have q5 : w4.cell? ⟨gm, 5, none⟩ = some (.int .u64 1) := hbm.cell 5 rfl
  have HC4 := Lib.hid (HC3.out.then hc4' (fun _ _ h => h))
  clear htn h4 hc4 hc4' ha4 hbm
  go_wp2_with fail
  refine (ClV.tokens H4.out).mono ?_
  rintro e w5 ⟨a5, c5, rfl, ho5, hb5⟩
  have HB5 := Lib.hid hb5
  clear ho5 hb5
  go_wp2
  go_ret
  exact ⟨rfl, (HC4.out.then (Chg.of_below HB5.out (fun _ => False)) (fun _ _ h => h.elim)).below HB1.out (by have := HB1.out.size; omega) (fun k hk => by have := HG.out; omega)⟩

theorem short_any (a : Option Addr) (n c : Nat) (hn : n ≤ maxLen) (hc : n ≤ c) : Calls Try.prog 9 #[.slice a n c] w fun e w' =>
    e = .returned (.slice a (min n 150) c) ∧ ∃ m, w' = w.drewN m := by
  unfold maxLen at hn
  have h0 : 0 ≤ imin (n : Int) 150 := by unfold imin; split <;> omega
  have h1 : imin (n : Int) 150 ≤ (c : Int) := by unfold imin; split <;> omega
  have H2 : Hid ((imin (n : Int) 150).toNat = min n 150) := by show _ = _; unfold imin; split <;> omega
  go_enter Try.func9, Try.ntmps9
  go_wp2
  go_ret
  exact ⟨by rw [← H2.out]; rfl, 0, rfl⟩

/-- Two lists that are read: are they the same? -/
def Same (w : World) (l1 l2 : List Int) (e : Ending) (w' : World) : Prop := e = .returned (.bool (decide (l1 = l2))) ∧ ∃ m, w' = w.drewN m
theorem same_any {a b : Option Addr} {n c m d : Nat} {l1 l2 : List Int} (h1 : Rd w 1 a n c (ints l1)) (h2 : Rd w 1 b m d (ints l2)) :
    Calls Try.prog 12 #[.slice a n c, .slice b m d] w (Same w l1 l2) := by
  have e1 := rd_len h1
  have e2 := rd_len h2
  have hb1 : n ≤ maxLen := Nat.le_trans h1.cap h1.max
  unfold maxLen at hb1
  have E1 := Lib.hid e1
  have E2 := Lib.hid e2
  have R1 := Lib.hid h1
  have R2 := Lib.hid h2
  clear e1 e2 h1 h2
  by_cases hnm : n = m
  · subst hnm
    go_enter Try.func12, Try.ntmps12
    go_wp2_with fail
    go_loopw [13] (fun i wr => ∃ k : Nat, k ≤ n ∧ i = .int .i64 k ∧ Hid (l1.take k = l2.take k) ∧ ∃ m, wr = w.drewN m) (fun i _ => n - (intOf i).toNat)
    case atStart => exact ⟨0, Nat.zero_le _, rfl, Lib.hid (by simp), 0, rfl⟩
    case round =>
      obtain ⟨k, hk, rfl, HT, mm, rfl⟩ := hrel
      by_cases hlt : k < n
      · obtain ⟨b1, o1, u1, rfl, hx1, hc1⟩ := R1.out.get hlt
        obtain ⟨b2, o2, u2, rfl, hx2, hc2⟩ := R2.out.get hlt
        obtain ⟨x1, hl1, rfl⟩ := ints_get hx1
        obtain ⟨x2, hl2, rfl⟩ := ints_get hx2
        have q1 : (w.drewN mm).cell? ⟨b1, o1 + k, none⟩ = some (.int .i64 x1) := hc1
        have q2 : (w.drewN mm).cell? ⟨b2, o2 + k, none⟩ = some (.int .i64 x2) := hc2
        have i0 : (0 : Int) ≤ (k : Int) := by omega
        have i1 : (k : Int) < (n : Int) := by omega
        have HL1 := Lib.hid hl1
        have HL2 := Lib.hid hl2
        clear hx1 hx2 hl1 hl2
        go_upto_region 6 with (fail)
        go_big_quiet (fail)
        by_cases hx : x1 = x2
        · subst hx
          go_wp2
          go_roundw
          case rel => exact ⟨k + 1, by omega, by go_num, Lib.hid (by rw [List.take_add_one, List.take_add_one, HT.out, HL1.out, HL2.out]), _, rfl⟩
          case measure => simp [intOf]; omega
        · have hxb : (x1 != x2) = true := by simpa using hx
          have HX := Lib.hid hx
          clear hx
          go_wp2
          go_ret
          have hd : decide (l1 = l2) = false := decide_eq_false (fun h => HX.out (by have := HL1.out; rw [h, HL2.out] at this; exact (Option.some.inj this).symm))
          exact ⟨by rw [hd]; rfl, mm + nq, by first | exact World.drewN_drewN w mm nq | rfl⟩
      · go_wp2
        go_ret
        have hkn : k = n := by omega
        subst hkn
        have := HT.out
        rw [List.take_of_length_le (by have := E1.out; omega), List.take_of_length_le (by have := E2.out; omega)] at this
        exact ⟨by rw [decide_eq_true this]; rfl, mm, rfl⟩
  · have hb : ((n : Int) != (m : Int)) = true := by simp; omega
    have HN := Lib.hid hnm
    have hb2 : (n != m) = true := by simpa using hnm
    clear hnm
    go_enter Try.func12, Try.ntmps12
    go_wp2
    go_ret
    have hd : decide (l1 = l2) = false := decide_eq_false (fun h => HN.out (by rw [E1.out, E2.out, h]))
    exact ⟨by rw [hd]; rfl, 0, rfl⟩
end
end Go.Proofs.Ytoghkikjgilpdaa.ClA
