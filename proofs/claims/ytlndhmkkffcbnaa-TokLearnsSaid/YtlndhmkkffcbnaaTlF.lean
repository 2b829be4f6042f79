/-
  Learn.
-/
import Derived.Test.YtlndhmkkffcbnaaTlE
namespace Go.Proofs.Ytlndhmkkffcbnaa.TlF
open Go.RowKit Go.Proofs.Ytlndhmkkffcbnaa.Kit Go.Proofs.Ytlndhmkkffcbnaa.TkM Go.Proofs.Ytlndhmkkffcbnaa.TkP Go.Proofs.Ytlndhmkkffcbnaa.TkQ Go.Proofs.Ytlndhmkkffcbnaa.TkW Go.Proofs.Ytlndhmkkffcbnaa.TkA Go.Proofs.Ytlndhmkkffcbnaa.TkN Go.Proofs.Ytlndhmkkffcbnaa.TkO Go.Proofs.Ytlndhmkkffcbnaa.TkS Go.Proofs.Ytlndhmkkffcbnaa.TkT Go.Proofs.Ytlndhmkkffcbnaa.TlP Go.Proofs.Ytlndhmkkffcbnaa.TlM Go.Proofs.Ytlndhmkkffcbnaa.TlC Go.Proofs.Ytlndhmkkffcbnaa.TlB Go.Proofs.Ytlndhmkkffcbnaa.TlE
attribute [local go_sem high] max_imax min_imin
attribute [local go_sem ↓] Go.wp_at_zero Go.wp_at_succ
set_option linter.unusedVariables false
section
variable {w : World}
def LearnR (w : World) (T : List (List Int)) (most : Int) (e : Ending) (w' : World) : Prop :=
  Below w.heap.size w w' ∧ ∃ R a c, e = .returned (.slice a R.length c) ∧ Rd w' 2 a R.length c (prs R) ∧ Lrn most [] (T.map hv) R ∧ TkP.Good R ∧ R.length ≤ 40
theorem chg_below {B : Nat} {a b : World} (h : Below B a b) : Chg (fun k => B ≤ k) a b := ⟨h.os, h.tape, h.output, h.size, fun i _ hn => h.block i (by omega)⟩
theorem set_take {Z : List (List Int)} {i : Nat} (hi : i < Z.length) (r : List Int) : (Z.set i r).take (i + 1) = Z.take i ++ [r] := by
  rw [List.take_add_one, List.getElem?_set_self hi, List.take_set_of_le (Nat.le_refl i)]
  rfl
theorem set_drop {Z : List (List Int)} {i : Nat} (r : List Int) : (Z.set i r).drop (i + 1) = Z.drop (i + 1) := by
  rw [List.drop_set_of_lt (by omega)]
theorem few_min {n : Nat} (h : n ≤ 6) : imin (n : Int) 16 = n := by unfold imin; split <;> omega
theorem few_min2 {n : Nat} (h : n ≤ 30) : imin (n : Int) 512 = n := by unfold imin; split <;> omega
set_option maxHeartbeats 4000000 in
theorem learn_any {at_ : Option Addr} {ct : Nat} {T : List (List Int)} (h : TxR w at_ ct T) (hf : Few T) (most : Int) : Calls Try.prog 20 #[.slice at_ T.length ct, .int .i64 most] w (LearnR w T most) := by
  have HR := Lib.hid h
  have HF := Lib.hid hf
  have hcap : T.length ≤ ct := by obtain ⟨⟨vs, h1, _⟩, _⟩ := h; exact h1.cap
  have hmn := few_min hf.1
  have hn6 := hf.1
  obtain ⟨n, HN⟩ : ∃ n, Hid (T.length = n) := ⟨_, Lib.hid rfl⟩
  rw [HN.out] at hcap hmn hn6 ⊢
  have hci : (n : Int) ≤ (ct : Int) := by omega
  clear h hf
  go_enter Try.func20, Try.ntmps20
  go_wp2_with fail
  go_loopw [5, 19] (fun lv i wr => ∃ (k : Nat) (al : Option Addr) (cl : Nat) (A : List (Option Addr × Nat)), k ≤ n ∧ i = .int .i64 k ∧ lv = .slice al k cl ∧ Hid (LsO wr w.heap.size wr.heap.size al cl A ((T.take k).map hv)) ∧ Hid (Below w.heap.size w wr)) (fun _ i _ => n - (intOf i).toNat)
  case atStart => exact ⟨0, none, 0, [], by omega, rfl, rfl, Lib.hid (LsO.nil _ _ _), Lib.hid (Below.refl _ _)⟩
  case round =>
    obtain ⟨k, al, cl, A, hk, rfl, rfl, HLO, HB⟩ := hrel
    by_cases hlt : k < n
    · obtain ⟨x, hx⟩ : ∃ x, T[k]? = some x := ⟨_, List.getElem?_eq_getElem (by rw [HN.out]; exact hlt)⟩
      obtain ⟨b0, o0, a, c, rfl, hc0, hrx⟩ := (HR.out.on HB.out).get hx
      have hxm := HF.out.2 x (List.mem_of_getElem? hx)
      have HHV := Lib.hid (halves_any hrx (HR.out.ok x (List.mem_of_getElem? hx)) (by omega))
      have HTK : Hid ((T.take (k + 1)).map hv = (T.take k).map hv ++ [hv x]) := Lib.hid (by rw [List.take_add_one, hx]; simp)
      have HXL : Hid (((T.take k).map hv).length = k) := Lib.hid (by simp; have := HN.out; omega)
      have hxc := hrx.cap
      obtain ⟨m, HML⟩ : ∃ m, Hid (x.length = m) := ⟨_, Lib.hid rfl⟩
      rw [HML.out] at hc0 HHV hxm hxc
      have hm2 := few_min2 hxm
      have hmc : (m : Int) ≤ (c : Int) := by omega
      have k0 : (0 : Int) ≤ (k : Int) := by omega
      have k1 : (k : Int) < (n : Int) := by omega
      have HLT := Lib.hid hlt
      clear hx hlt hrx
      go_wp2_with fail
      with_reducible refine HHV.out.mono ?_
      rintro e0 w1 ⟨a1, c1, rfl, ho1, hb1⟩
      obtain ⟨hl, HHL⟩ : ∃ hl, Hid ((hv x).length = hl) := ⟨_, Lib.hid rfl⟩
      rw [HHL.out]
      have HLO1 := Lib.hid (HLO.out.chg (Chg.of_below hb1 (fun _ => False)) (fun _ _ => id))
      have HO1 := Lib.hid (ho1.chg ((Chg.refl (fun _ => False) w1).alloc (.cells #[.slice a1 (hv x).length c1] 24)) (fun _ _ => id))
      have HB1 := Lib.hid (below_two' HB.out hb1)
      rw [HHL.out] at HO1
      have HBZ := Lib.hid (below_two' HB1.out (((Below.refl w1.heap.size w1).alloc (Nat.le_refl _) (.cells #[.slice a1 hl c1] 24))))
      have HLZ := Lib.hid (HLO1.out.chg (((Chg.refl (fun _ => False) w1).alloc (.cells #[.slice a1 hl c1] 24))) (fun _ _ => id))
      have HMZ := Lib.hid HLZ.out.main
      rw [HXL.out] at HMZ
      have HRZ := Lib.hid (Own.made (B := w1.heap.size) (size := 1) w1 #[.slice a1 hl c1] 24 1 (Nat.le_refl _) (by unfold maxLen; omega) rfl).rd
      have H1C : Hid (∀ u ∈ [Value.slice a1 hl c1], u.oneCell' = true) := Lib.hid (by simp [Value.oneCell'])
      have HNEW : Hid (∀ q, ob a1 = some q → wr.heap.size ≤ q) := Lib.hid (fun q hq => (ho1.lt q hq).1)
      have HSZ1 : Hid (wr.heap.size ≤ w1.heap.size) := Lib.hid hb1.size
      clear ho1 hb1
      go_wp2_with (at_builtin; refine wpList_app el67 (by omega) rfl (.tmp 23) (.tmp 30) rfl (B := w.heap.size) (by rfl) HMZ.out (by rfl) HRZ.out H1C.out (by omega) (by omega) HBZ.out.size ?_; intro a' c' w' hown hg hat)
      have HLO2 : Hid (LsO w' w.heap.size w'.heap.size a' c' (A ++ [(a1, c1)]) ((T.take (k + 1)).map hv)) := Lib.hid (by
        rw [HTK.out]
        refine HLZ.out.push (fun q hq => (HLZ.out.main.lt q hq).2) (Chg.of_grown' hg) (by rw [HXL.out, HHL.out]; exact hown) ?_ HNEW.out
        rw [HHL.out]
        exact (HO1.out.lower (Nat.le_trans HB.out.size (Nat.le_refl _))).chg (Chg.of_grown' hg) (fun q hq e => own_ob HMZ.out (HO1.out.lower (Nat.le_trans HB.out.size (Nat.le_refl _))) (by decide) q e hq))
      have HB2 : Hid (Below w.heap.size w w') := Lib.hid ((Chg.of_grown' hg).below HBZ.out HBZ.out.size (fun k hk => (HMZ.out.lt k hk).1))
      clear hown hg hat
      go_roundw
      case rel => exact ⟨k + 1, a', c', _, HLT.out, by go_num, rfl, HLO2, HB2⟩
      case measure => have := HLT.out; simp [intOf]; omega
    · obtain rfl : k = n := by omega
      have HX0 : Hid ((T.take k).map hv = T.map hv) := Lib.hid (by rw [List.take_of_length_le (by have := HN.out; omega)])
      have HOX : Hid (Okx [] (T.map hv)) := Lib.hid (okx_nil (by
        intro l hl t ht
        obtain ⟨x, hx, rfl⟩ := List.mem_map.1 hl
        exact hv_low (HR.out.ok x hx) t ht))
      have HTOT := Lib.hid (few_tot HF.out)
      have HEM := Lib.hid (empty_any (w := wr))
      have HXN : Hid ((T.map hv).length = k) := Lib.hid (by rw [List.length_map]; exact HN.out)
      rw [HX0.out] at HLO
      obtain ⟨X0, HX⟩ : ∃ X0, Hid (T.map hv = X0) := ⟨_, Lib.hid rfl⟩
      rw [HX.out] at HLO HOX HTOT HXN
      clear hlt
      go_wp2_with fail
      with_reducible refine HEM.out.mono ?_
      rintro e0 w2 ⟨rfl, ht2, hb2⟩
      obtain ⟨Bt, HBT⟩ : ∃ Bt, Hid (wr.heap.size = Bt) := ⟨_, Lib.hid rfl⟩
      obtain ⟨g, HG⟩ : ∃ g, Hid (wr.heap.size + 1 + 1 = g) := ⟨_, Lib.hid rfl⟩
      rw [HG.out] at ht2 ⊢
      have HT2 : Hid (Tab w2 Bt g []) := Lib.hid (by rw [← HBT.out]; exact ⟨_, _, _, _, _, ht2⟩)
      have HLO2 : Hid (LsO w2 w.heap.size Bt al cl A X0) := Lib.hid (by rw [← HBT.out]; exact HLO.out.chg (Chg.of_below hb2 (fun _ => False)) (fun _ _ => id))
      have HB2 := Lib.hid (below_two' HB.out hb2)
      have HWB : Hid (w.heap.size ≤ Bt) := Lib.hid (by rw [← HBT.out]; exact HB.out.size)
      have HB2B : Hid (Bt ≤ w2.heap.size) := Lib.hid (by rw [← HBT.out]; exact hb2.size)
      obtain ⟨N, HNN⟩ : ∃ N, Hid (k = N) := ⟨_, Lib.hid rfl⟩
      rw [HNN.out] at HXN hn6 hmn hcap hci ⊢
      clear ht2 hb2
      go_wp2_with fail
      go_loopg [10] 41 (fun kk v wr => ∃ (L : List Pr) (X : List (List Int)), kk + L.length = 41 ∧ L.length ≤ 40 ∧ Hid (Tab wr Bt g L) ∧ Hid (LsO wr w.heap.size Bt al cl A X) ∧ Hid (X.length = N) ∧ Hid (Okx L X) ∧ Hid (tot X ≤ 360) ∧ Hid (∀ R, Lrn most L X R → Lrn most [] X0 R) ∧ Hid (Below w.heap.size w wr) ∧ Hid (Bt ≤ wr.heap.size))
      case atStart => exact ⟨[], X0, rfl, by simp, HT2, HLO2, HXN, HOX, HTOT, Lib.hid (fun _ h => h), HB2, HB2B⟩
      case round =>
        obtain ⟨L, X, hkk, hL, HT, HLS, HXN2, HOK, HTX, HLR, HB3, HBB⟩ := hrel
        obtain ⟨am, cm, sa, sc, bm, htb⟩ := HT.out
        have c0 : wr.cell? ⟨g, 0, none⟩ = some (.slice am L.length cm) := htb.blk.cell 0 rfl
        have HRM := Lib.hid htb.ms.rd
        have HFIN : Hid (∀ wz, Below wr.heap.size wr wz → Lrn most L X L → LearnR w T most (.returned (.slice am L.length cm)) wz) := Lib.hid (fun wz hb hl => ⟨below_two' HB3.out hb, L, am, cm, rfl, rd_on (by omega) HRM.out hb, by rw [HX.out]; exact HLR.out L hl, HOK.out.1, hL⟩)
        have HBE := Lib.hid (best_any HT.out (by omega) HLS.out.lsr HOK.out.2.2 (by have := HTX.out; omega))
        rw [HXN2.out] at HBE
        obtain ⟨ll, HLL⟩ : ∃ ll, Hid (L.length = ll) := ⟨_, Lib.hid rfl⟩
        rw [HLL.out] at c0 HFIN hL
        by_cases hfull : (ll : Int) < imin most 40
        · clear htb
          go_wp2_with fail
          with_reducible refine HBE.out.mono ?_
          rintro e0 w3 ⟨hb3, p, v, rfl, hp⟩
          obtain ⟨px, py⟩ := p
          dsimp only
          have c03 : w3.cell? ⟨g, 0, none⟩ = some (.slice am ll cm) := (hb3.cell (p := ⟨g, 0, none⟩) (World.block_lt_of_cell? wr _ c0)).trans c0
          have HBW3 := Lib.hid (below_two' HB3.out hb3)
          have HZ3 : Hid (Below wr.heap.size wr (w3.alloc (.cells #[.int .i64 px, .int .i64 py] 54))) := Lib.hid (hb3.trans (((Below.refl w3.heap.size w3).alloc (Nat.le_refl _) _).mono hb3.size))
          cases v
          · have HNB : Hid (NoBest X L) := Lib.hid (by
              rcases hp with ⟨h, _⟩ | ⟨_, h⟩
              · cases h
              · exact h)
            have HF2 := Lib.hid (HFIN.out _ HZ3.out (.none HNB.out))
            have c04 : (w3.alloc (.cells #[.int .i64 px, .int .i64 py] 54)).cell? ⟨g, 0, none⟩ = some (.slice am ll cm) := Lib.cell?_alloc_some _ c03
            clear hp hb3 c0
            go_wp2_with fail
            go_ret
            exact HF2.out
          · have HBEST : Hid (IsBest X L (px, py)) := Lib.hid (by
              rcases hp with ⟨_, h⟩ | ⟨h, _⟩
              · exact h
              · cases h)
            have HOA := Lib.hid (okx_okAt HOK.out (show 0 < cntX X (px, py) by have := HBEST.out.2.1; omega))
            have HT4 := Lib.hid (HT.out.on HZ3.out)
            have HLS4 := Lib.hid (HLS.out.chg (Chg.of_below HZ3.out (fun _ => False)) (fun _ _ => id))
            have HBB4 : Hid (Bt ≤ (w3.alloc (.cells #[.int .i64 px, .int .i64 py] 54)).heap.size) := Lib.hid (Nat.le_trans HBB.out HZ3.out.size)
            have HB4 := Lib.hid (below_two' HB3.out HZ3.out)
            obtain ⟨am4, cm4, sa4, sc4, bm4, htb4⟩ := HT4.out
            have HOP : Hid (okP (px, py)) := Lib.hid (by
              have h1 := HOA.out
              unfold okAt at h1
              have h2 := HLL.out
              exact ⟨(okT_iff _).2 (by omega), (okT_iff _).2 (by omega)⟩)
            have HADD := Lib.hid (add_any htb4 HBB4.out HOP.out (by have := HLL.out; omega))
            clear hp hb3 c0 htb4
            go_wp2_with fail
            with_reducible refine HADD.out.mono ?_
            rintro e1 w5 (⟨_, rfl, ⟨am5, cm5, sa5, sc5, htb5⟩, hb5⟩ | ⟨hno, _⟩)
            · have HT5 : Hid (Tab w5 Bt g (L ++ [(px, py)])) := Lib.hid ⟨_, _, _, _, _, htb5⟩
              have HLS5 := Lib.hid (HLS4.out.chg (chg_below hb5) (fun q hq => by omega))
              have HB5 := Lib.hid (HB4.out.trans (hb5.mono HWB.out))
              have HBB5 : Hid (Bt ≤ w5.heap.size) := Lib.hid (Nat.le_trans HBB4.out hb5.size)
              have HGA : Hid (TkP.Good (L ++ [(px, py)])) := Lib.hid (good_snoc HOK.out.1 HOA.out)
              clear htb5 hb5 c03
              go_wp2_with fail
              go_loopw [58] (fun iv wr => ∃ (i : Nat) (Z : List (List Int)), i ≤ N ∧ iv = .int .i64 i ∧ Hid (Z.length = N) ∧ Hid (Mgs (L ++ [(px, py)]) (X.take i) (Z.take i)) ∧ Hid (Z.drop i = X.drop i) ∧ Hid (LsO wr w.heap.size Bt al cl A Z) ∧ Hid (Tab wr Bt g (L ++ [(px, py)])) ∧ Hid (Below w.heap.size w wr) ∧ Hid (Bt ≤ wr.heap.size)) (fun iv _ => N - (intOf iv).toNat)
              case atStart => exact ⟨0, X, by omega, rfl, HXN2, Lib.hid .nil, Lib.hid rfl, HLS5, HT5, HB5, HBB5⟩
              case round =>
                obtain ⟨i, Z, hi, rfl, HZN, HMG, HDR, HLZ, HTZ, HBZ, HBBZ⟩ := hrel
                by_cases hlt : i < N
                · obtain ⟨x, hx⟩ : ∃ x, Z[i]? = some x := ⟨_, List.getElem?_eq_getElem (by rw [HZN.out]; exact hlt)⟩
                  have hxX : X[i]? = some x := by
                    have h1 := congrArg (fun l => l[0]?) HDR.out
                    simp only [List.getElem?_drop, Nat.add_zero] at h1
                    rw [← h1]
                    exact hx
                  obtain ⟨⟨a, c⟩, ha⟩ : ∃ q, A[i]? = some q := ⟨_, List.getElem?_eq_getElem (by rw [HLZ.out.len, HZN.out]; exact hlt)⟩
                  obtain ⟨hlm, ⟨rfl, h0, _⟩ | ⟨ga, cur, rfl, hBg, hh, h3, h4, h5, h6⟩⟩ := HLZ.out.main.form
                  · exfalso; have := HZN.out; omega
                  · have hb24 : Blk wr ga 24 cur := hh
                    obtain ⟨u, hu⟩ : ∃ u, cur[i]? = some u := ⟨_, Array.getElem?_eq_getElem (by have := HZN.out; omega)⟩
                    have hcl : wr.cell? ⟨ga, i, none⟩ = some (.slice a x.length c) := by
                      have h7 := vls_get ha hx
                      rw [← h6, Nat.mul_one, List.getElem?_take_of_lt (by have := HZN.out; omega)] at h7
                      exact hb24.cell i (by simpa using h7)
                    have HROW := Lib.hid (HLZ.out.rows i a c x ha hx)
                    obtain ⟨y, hy⟩ := HOK.out.2.2 x (List.mem_of_getElem? hxX)
                    have HME := Lib.hid (merge_any (fun w' hc => tab_keep HTZ.out hc (fun q hq => HLZ.out.hi i a c ha q hq)) HGA.out (by simp; have := HLL.out; omega) HROW.out (xps_more hy (px, py)))
                    have HNE : Hid (ob a ≠ some ga) := Lib.hid (HROW.out.ne hb24 (by decide))
                    have HB24 := Lib.hid hb24
                    have HA := Lib.hid ha
                    have HXI := Lib.hid hxX
                    have HU := Lib.hid hu
                    have HIZ : Hid (i < Z.length) := Lib.hid (by rw [HZN.out]; exact hlt)
                    obtain ⟨xl, HXL⟩ : ∃ xl, Hid (x.length = xl) := ⟨_, Lib.hid rfl⟩
                    rw [HXL.out] at hcl HME
                    have i0 : (0 : Int) ≤ (i : Int) := by omega
                    have i1 : (i : Int) < (N : Int) := by omega
                    have HLT := Lib.hid hlt
                    clear hx hxX ha hh h3 h4 h5 h6 hlm hb24 hu hy hlt
                    go_wp2_with fail
                    with_reducible refine HME.out.mono ?_
                    rintro e2 w7 ⟨r, rfl, hor, hmg, hc7⟩
                    obtain ⟨hput, hchp⟩ := HLZ.out.put HA.out HIZ.out hc7 hor
                    have hb7 := hc7.blk HB24.out HNE.out
                    have hc8 := hb7.cell i HU.out
                    have hf8 := hb7.frozen i
                    have HPUT := Lib.hid hput
                    have HS8 : Hid (∀ q, (q = ga ∨ ob a = some q) → w.heap.size ≤ q ∧ q < Bt) := Lib.hid (fun q hq => by
                      rcases hq with rfl | hq
                      · exact ⟨hBg, HLZ.out.hiM q rfl⟩
                      · exact ⟨(HROW.out.lt q hq).1, HLZ.out.hi i a c HA.out q hq⟩)
                    have HT8 := Lib.hid (tab_keep HTZ.out hchp (fun q hq => (HS8.out q hq).2))
                    have HB8 := Lib.hid (hchp.below HBZ.out HBZ.out.size (fun q hq => (HS8.out q hq).1))
                    have HBB8 : Hid (Bt ≤ (w7.setCell ⟨ga, i, none⟩ (.slice a r.length c)).heap.size) := Lib.hid (Nat.le_trans HBBZ.out hchp.size)
                    have HMG2 : Hid (Mgs (L ++ [(px, py)]) (X.take (i + 1)) ((Z.set i r).take (i + 1))) := Lib.hid (by
                      rw [set_take HIZ.out, List.take_add_one, HXI.out]
                      exact HMG.out.snoc hmg)
                    have HDR2 : Hid ((Z.set i r).drop (i + 1) = X.drop (i + 1)) := Lib.hid (by
                      rw [set_drop]
                      have h1 := congrArg (fun l => l.drop 1) HDR.out
                      simpa [List.drop_drop] using h1)
                    have HZN2 : Hid ((Z.set i r).length = N) := Lib.hid (by rw [List.length_set]; exact HZN.out)
                    obtain ⟨rl, HRL⟩ : ∃ rl, Hid (r.length = rl) := ⟨_, Lib.hid rfl⟩
                    rw [HRL.out] at HPUT HT8 HB8 HBB8 ⊢
                    clear hput hchp hb7 hor hmg hc7 hcl
                    go_wp2_with fail
                    obtain ⟨W9, HW9⟩ : ∃ ww, Hid (w7.setCell ⟨ga, i, none⟩ (.slice a rl c) = ww) := ⟨_, Lib.hid rfl⟩
                    rw [HW9.out] at HPUT HT8 HB8 HBB8 ⊢
                    clear hc8 hf8
                    go_roundw
                    case rel => exact ⟨i + 1, _, HLT.out, by go_num, HZN2, HMG2, HDR2, HPUT, HT8, HB8, HBB8⟩
                    case measure => have := HLT.out; simp [intOf]; omega
                · obtain rfl : i = N := by omega
                  have hmz := HMG.out
                  rw [List.take_of_length_le (by have := HXN2.out; omega), List.take_of_length_le (by have := HZN.out; omega)] at hmz
                  have HMZ := Lib.hid hmz
                  have HOK2 := Lib.hid (okx_step HOK.out HOA.out HMZ.out)
                  have HTX2 : Hid (tot Z ≤ 360) := Lib.hid (by have h1 := mgs_tot HMZ.out; have h2 := HTX.out; omega)
                  have HLR2 : Hid (∀ R, Lrn most (L ++ [(px, py)]) Z R → Lrn most [] X0 R) := Lib.hid (fun R h => HLR.out R (.step (by rw [HLL.out]; exact hfull) HBEST.out HMZ.out h))
                  have HL40 : Hid ((L ++ [(px, py)]).length = ll + 1 ∧ ll + 1 ≤ 40) := Lib.hid (by
                    rw [List.length_append, HLL.out]
                    refine ⟨rfl, ?_⟩
                    unfold imin at hfull
                    split at hfull <;> omega)
                  clear hlt hmz
                  go_wp2_with fail
                  go_roundg (gk - 1)
                  case measure => have := HL40.out; have := HLL.out; omega
                  case rel => exact ⟨L ++ [(px, py)], Z, by have := HL40.out; have := HLL.out; omega, by have := HL40.out; omega, HTZ, HLZ, HZN, HOK2, HTX2, HLR2, HBZ, HBBZ⟩
            · exact absurd HOA.out hno
        · have HF2 := Lib.hid (HFIN.out wr (Below.refl _ _) (.full (by rw [HLL.out]; exact hfull)))
          clear htb
          go_wp2_with fail
          go_ret
          exact HF2.out
end
end Go.Proofs.Ytlndhmkkffcbnaa.TlF
