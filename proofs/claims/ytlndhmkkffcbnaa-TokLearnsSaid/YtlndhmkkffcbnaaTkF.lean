/-
  same; the document's New.
-/
import Derived.Test.YtlndhmkkffcbnaaTkI
import Derived.Laws.StructEq
namespace Go.Proofs.Ytlndhmkkffcbnaa.TkF
open Go.RowKit Go.Proofs.Ytlndhmkkffcbnaa.Kit Go.Proofs.Ytlndhmkkffcbnaa.TkM Go.Proofs.Ytlndhmkkffcbnaa.TkP Go.Proofs.Ytlndhmkkffcbnaa.TkQ Go.Proofs.Ytlndhmkkffcbnaa.TkW Go.Proofs.Ytlndhmkkffcbnaa.TkA Go.Proofs.Ytlndhmkkffcbnaa.TkN Go.Proofs.Ytlndhmkkffcbnaa.TkO Go.Proofs.Ytlndhmkkffcbnaa.TkL Go.Proofs.Ytlndhmkkffcbnaa.TkR Go.Proofs.Ytlndhmkkffcbnaa.TkS Go.Proofs.Ytlndhmkkffcbnaa.TkT Go.Proofs.Ytlndhmkkffcbnaa.TkU Go.Proofs.Ytlndhmkkffcbnaa.TkD
attribute [local go_sem high] max_imax min_imin
attribute [local go_sem ↓] Go.wp_at_zero Go.wp_at_succ
set_option linter.unusedVariables false
section
variable {w : World}
theorem same_eq {a b : Option Addr} {c d : Nat} {l : List Int} (h : Rd w 1 a l.length c (ints l)) (k : Rd w 1 b l.length d (ints l)) : Calls Try.prog 16 #[.slice a l.length c, .slice b l.length d] w fun e w' => e = .returned (.bool true) ∧ Below w.heap.size w w' := by
  have hmax := Nat.le_trans h.cap h.max
  unfold maxLen at hmax
  have HR := Lib.hid h
  have HS := Lib.hid k
  obtain ⟨n, HN⟩ : ∃ n, Hid (l.length = n) := ⟨_, Lib.hid rfl⟩
  rw [HN.out] at HR HS hmax ⊢
  clear h k
  go_enter Try.func16, Try.ntmps16
  go_wp2_with fail
  go_loopw [13] (fun i wr => ∃ (k m : Nat), k ≤ n ∧ i = .int .i64 k ∧ wr = w.drewN m) (fun i _ => n - (intOf i).toNat)
  case atStart => exact ⟨0, 0, by omega, rfl, rfl⟩
  case round =>
    obtain ⟨k, m, hk, rfl, rfl⟩ := hrel
    by_cases hlt : k < n
    · obtain ⟨b0, o0, u, rfl, hu, hc0⟩ := HR.out.get hlt
      obtain ⟨b1, o1, u1, rfl, hu1, hc1⟩ := HS.out.get hlt
      rw [hu] at hu1
      injection hu1 with hu1
      subst hu1
      obtain ⟨x, hx, rfl⟩ := ints_get hu
      have k0 : (0 : Int) ≤ (k : Int) := by omega
      have k1 : (k : Int) < (n : Int) := by omega
      have HLT := Lib.hid hlt
      clear hu hx hlt
      go_upto_region 6 with (fail)
      go_big_quiet (fail)
      go_wp2_with fail
      go_roundw
      case rel => exact ⟨k + 1, _, HLT.out, by go_num, rfl⟩
      case measure => have := HLT.out; simp [intOf]; omega
    · obtain rfl : k = n := by omega
      clear hlt
      go_wp2_with fail
      go_ret
      exact ⟨rfl, below_drewN (Below.refl _ _) _⟩
theorem run_eq49 (w : World) (s t x y : Int) : (binOp .eql 49 (.agg #[.int .i64 s, .int .i64 t]) (.agg #[.int .i64 x, .int .i64 y])).run Try.prog w = .ok (.bool (s == x && t == y)) w := by
  rw [run_eql_struct, run_equalIn_agg (P := Try.prog) w 9999 49 _ _ (by kernel_rfl) (by kernel_rfl)]
  simp [Program.fieldsOf, Try.underlying49, Try.underlying3, go_sem]
  by_cases h : s = x <;> by_cases h2 : t = y <;> simp [h, h2, go_sem]
def DNewR (w : World) (L : List Pr) (e : Ending) (w' : World) : Prop := e = .returned (.int .i64 (newE L)) ∧ Below w.heap.size w w'
set_option maxHeartbeats 2000000 in
theorem dnew_any {a : Option Addr} {c : Nat} {L : List Pr} (h : Rd w 2 a L.length c (prs L)) : Calls Try.prog 10 #[.slice a L.length c] w (DNewR w L) := by
  have hmax := Nat.le_trans h.cap h.max
  unfold maxLen at hmax
  by_cases hbig : 40 < L.length
  · have FIN : Hid (DNewR w L (.returned (.int .i64 5)) w) := Lib.hid ⟨by rw [newE_many hbig], Below.refl _ _⟩
    obtain ⟨n, HN⟩ : ∃ n, Hid (L.length = n) := ⟨_, Lib.hid rfl⟩
    rw [HN.out] at hmax hbig ⊢
    have hb : (40 : Int) < (n : Int) := by omega
    clear h
    go_enter Try.func10, Try.ntmps10
    go_wp2_with fail
    go_ret
    exact FIN.out
  · have HSM := Lib.hid hbig
    have HR := Lib.hid h
    obtain ⟨n, HN⟩ : ∃ n, Hid (L.length = n) := ⟨_, Lib.hid rfl⟩
    rw [HN.out] at hmax hbig HR ⊢
    have hb : (n : Int) ≤ 40 := by omega
    clear h
    go_enter Try.func10, Try.ntmps10
    go_wp2_with fail
    go_loopw [3] (fun i wr => ∃ (k : Nat), k ≤ n ∧ i = .int .i64 k ∧ Hid (TkP.Good (L.take k)) ∧ Hid (Below w.heap.size w wr)) (fun i _ => n - (intOf i).toNat)
    case atStart => exact ⟨0, by omega, rfl, Lib.hid (by rw [List.take_zero]; exact good_nil), Lib.hid (Below.refl _ _)⟩
    case round =>
      obtain ⟨k, hk, rfl, HG, HB⟩ := hrel
      by_cases hlt : k < n
      · obtain ⟨b0, off, ⟨x, y⟩, rfl, hp, hc0, hc1⟩ := rd_pair (rd_on (by omega) HR.out HB.out) hlt
        dsimp only at hc0 hc1
        have HP := Lib.hid hp
        have k0 : (0 : Int) ≤ (k : Int) := by omega
        have k1 : (k : Int) < (n : Int) := by omega
        have HLT := Lib.hid hlt
        have HBN := Lib.hid (HB.out.trans (((Below.refl wr.heap.size wr).alloc (Nat.le_refl _) (.cells #[.int .i64 x, .int .i64 y] 49)).mono HB.out.size))
        have HBAD : Hid (¬ okAt (L.take k) (x, y) → ∀ w', Below w.heap.size w w' → DNewR w L (.returned (.int .i64 1)) w') := Lib.hid (fun hn w' hb => ⟨by rw [newE_bad HSM.out (fun hg => hn (hg k _ HP.out))], hb⟩)
        have HOKI : Hid (okAt (L.take k) (x, y) ↔ 1 ≤ x ∧ x < 17 + (k : Int) ∧ 1 ≤ y ∧ y < 17 + (k : Int) ∧ (x, y) ∉ L.take k) := Lib.hid (by
          unfold okAt
          rw [List.length_take, Nat.min_eq_left (by have := HN.out; omega)])
        have bz := Blk.new wr #[.int .i64 x, .int .i64 y] 49
        clear hp hlt
        go_upto_region 7 with (fail)
        obtain ⟨wp, HWP⟩ : ∃ ww, Hid (wr.alloc (.cells #[.int .i64 x, .int .i64 y] 49) = ww) := ⟨_, Lib.hid rfl⟩
        obtain ⟨gp, HGP⟩ : ∃ gg, Hid (wr.heap.size = gg) := ⟨_, Lib.hid rfl⟩
        rw [HWP.out, HGP.out] at bz
        rw [HWP.out] at HBN
        rw [HWP.out, HGP.out]
        have BZ := Lib.hid bz
        have p0 : wp.cell? ⟨gp, 0, none⟩ = some (.int .i64 x) := bz.cell 0 rfl
        have p1 : wp.cell? ⟨gp, 1, none⟩ = some (.int .i64 y) := bz.cell 1 rfl
        clear hc0 hc1 bz
        by_cases h1 : x < 1
        · have HF := Lib.hid (HBAD.out (fun h => by have := HOKI.out.1 h; omega) wp HBN.out)
          go_wp2_with fail
          go_ret
          exact HF.out
        · by_cases h2 : y < 1
          · have HF := Lib.hid (HBAD.out (fun h => by have := HOKI.out.1 h; omega) wp HBN.out)
            go_wp2_with fail
            go_ret
            exact HF.out
          · by_cases h3 : 17 + (k : Int) ≤ x
            · have HF := Lib.hid (HBAD.out (fun h => by have := HOKI.out.1 h; omega) wp HBN.out)
              go_wp2_with fail
              go_ret
              exact HF.out
            · by_cases h4 : 17 + (k : Int) ≤ y
              · have HF := Lib.hid (HBAD.out (fun h => by have := HOKI.out.1 h; omega) wp HBN.out)
                go_wp2_with fail
                go_ret
                exact HF.out
              · have HIN : Hid (1 ≤ x ∧ x < 17 + (k : Int) ∧ 1 ≤ y ∧ y < 17 + (k : Int)) := Lib.hid (by omega)
                go_wp2_with fail
                clear h1 h2 h3 h4
                go_loopw [5] (fun i wr => ∃ (m q : Nat), m ≤ k ∧ i = .int .i64 m ∧ wr = wp.drewN q ∧ Hid ((x, y) ∉ L.take m)) (fun i _ => k - (intOf i).toNat)
                case atStart => exact ⟨0, 0, by omega, rfl, rfl, Lib.hid (by simp)⟩
                case round =>
                  obtain ⟨m, q, hm, rfl, rfl, HM⟩ := hrel
                  by_cases hlt : m < k
                  · obtain ⟨b1, o1, ⟨s, t⟩, he, hp, hd0, hd1⟩ := rd_pair (rd_on (by omega) HR.out HBN.out) (k := m) (by omega)
                    injection he with he
                    injection he with e1 e2
                    subst e1 e2
                    dsimp only at hd0 hd1
                    have HP1 := Lib.hid hp
                    have m0 : (0 : Int) ≤ (m : Int) := by omega
                    have m1 : (m : Int) < (k : Int) := by omega
                    have m2 : (m : Int) < (n : Int) := by omega
                    have HLM := Lib.hid hlt
                    have hgd : ∀ (w : World) (o1 o2 : Operand), (eqGuard .eql 49 o1 o2 (.agg #[.int .i64 s, .int .i64 t]) (.agg #[.int .i64 x, .int .i64 y])).run Try.prog w = .ok () w := fun w o1 o2 => run_eqGuard_agg w .eql 49 o1 o2 _ _ (by kernel_rfl)
                    clear hp hlt
                    go_upto_region 12 with (fail)
                    by_cases hst : s = x ∧ t = y
                    · have heq : ∀ w : World, (binOp .eql 49 (.agg #[.int .i64 s, .int .i64 t]) (.agg #[.int .i64 x, .int .i64 y])).run Try.prog w = .ok (.bool true) w := fun w => by
                        rw [run_eq49]
                        simp [hst.1, hst.2]
                      have HF : Hid (∀ q2, DNewR w L (.returned (.int .i64 1)) (wp.drewN q2)) := Lib.hid (fun q2 => HBAD.out (fun h => (HOKI.out.1 h).2.2.2.2 (by
                        have h1 := HP1.out
                        rw [hst.1, hst.2] at h1
                        exact List.mem_of_getElem? (by rw [List.getElem?_take_of_lt HLM.out]; exact h1)) : _) _ (below_drewN HBN.out q2))
                      clear hst
                      go_big_quiet (fail)
                      clear hgd heq
                      go_wp2_with fail
                      go_ret
                      exact HF.out _
                    · have heq : ∀ w : World, (binOp .eql 49 (.agg #[.int .i64 s, .int .i64 t]) (.agg #[.int .i64 x, .int .i64 y])).run Try.prog w = .ok (.bool false) w := fun w => by
                        rw [run_eq49]
                        congr 2
                        simpa using hst
                      have HM2 : Hid ((x, y) ∉ L.take (m + 1)) := Lib.hid (by
                        rw [List.take_add_one, HP1.out]
                        intro h
                        rcases List.mem_append.1 h with h | h
                        · exact HM.out h
                        · simp at h
                          exact hst ⟨h.1.symm, h.2.symm⟩)
                      clear hst
                      go_big_quiet (fail)
                      clear hgd heq
                      go_wp2_with fail
                      go_roundw
                      case rel => exact ⟨m + 1, _, HLM.out, by go_num, rfl, HM2⟩
                      case measure => have := HLM.out; simp [intOf]; omega
                  · obtain rfl : m = k := by omega
                    have HG2 : Hid (TkP.Good (L.take (m + 1))) := Lib.hid (by
                      rw [List.take_add_one, HP.out]
                      exact good_snoc HG.out (HOKI.out.2 ⟨HIN.out.1, HIN.out.2.1, HIN.out.2.2.1, HIN.out.2.2.2, HM.out⟩))
                    clear hlt
                    go_wp2_with fail
                    go_roundw
                    case rel => exact ⟨m + 1, HLT.out, by go_num, HG2, Lib.hid (below_drewN HBN.out _)⟩
                    case measure => have := HLT.out; simp [intOf]; omega
      · obtain rfl : k = n := by omega
        have HF : Hid (DNewR w L (.returned (.int .i64 0)) wr) := Lib.hid (by
          have hg := HG.out
          rw [List.take_of_length_le (by have := HN.out; omega)] at hg
          exact ⟨by rw [newE_good HSM.out hg], HB.out⟩)
        clear hlt
        go_wp2_with fail
        go_ret
        exact HF.out
end
end Go.Proofs.Ytlndhmkkffcbnaa.TkF
