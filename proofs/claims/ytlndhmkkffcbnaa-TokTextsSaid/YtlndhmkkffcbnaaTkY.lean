/-
  The document's Decode.
-/
import Derived.Test.YtlndhmkkffcbnaaTkX
namespace Go.Proofs.Ytlndhmkkffcbnaa.TkY
open Go.RowKit Go.Proofs.Ytlndhmkkffcbnaa.Kit Go.Proofs.Ytlndhmkkffcbnaa.TkM Go.Proofs.Ytlndhmkkffcbnaa.TkP Go.Proofs.Ytlndhmkkffcbnaa.TkQ Go.Proofs.Ytlndhmkkffcbnaa.TkW Go.Proofs.Ytlndhmkkffcbnaa.TkA Go.Proofs.Ytlndhmkkffcbnaa.TkN Go.Proofs.Ytlndhmkkffcbnaa.TkO Go.Proofs.Ytlndhmkkffcbnaa.TkL Go.Proofs.Ytlndhmkkffcbnaa.TkR Go.Proofs.Ytlndhmkkffcbnaa.TkS Go.Proofs.Ytlndhmkkffcbnaa.TkT Go.Proofs.Ytlndhmkkffcbnaa.TkU Go.Proofs.Ytlndhmkkffcbnaa.TkD Go.Proofs.Ytlndhmkkffcbnaa.TkF Go.Proofs.Ytlndhmkkffcbnaa.TkG Go.Proofs.Ytlndhmkkffcbnaa.TkE Go.Proofs.Ytlndhmkkffcbnaa.TkJ Go.Proofs.Ytlndhmkkffcbnaa.TkV Go.Proofs.Ytlndhmkkffcbnaa.TkK
attribute [local go_sem high] max_imax min_imin
attribute [local go_sem ↓] Go.wp_at_zero Go.wp_at_succ
set_option linter.unusedVariables false
section
variable {w : World}
theorem below_two {w w1 w2 : World} (h : Below w.heap.size w w1) (k : Below w1.heap.size w1 w2) : Below w.heap.size w w2 := h.trans (k.mono h.size)
set_option maxHeartbeats 4000000 in
theorem ddec_any {a d : Option Addr} {c e : Nat} {L : List Pr} {ts : List Int} (hp : Rd w 2 d L.length e (prs L)) (hg : TkP.Good L) (hL : L.length ≤ 1000) (h : Rd w 1 a ts.length c (ints ts)) (hok : ∀ t ∈ ts, okT t) (hts : ts.length ≤ 100000) :
    Calls Try.prog 15 #[.slice d L.length e, .slice a ts.length c] w (DecR w L ts) := by
  have HSZ := Lib.hid (sizes_any hp hg hL)
  have HG := Lib.hid hg
  have HR := Lib.hid h
  have HTO := Lib.hid hok
  have HDS : Hid (∀ w1 t x, Below w.heap.size w w1 → okT t → Xp L t x → x.length ≤ 4096 → Calls Try.prog 19 #[.slice d L.length e, .int .i64 t] w1 (SplR w1 L t)) := Lib.hid (fun w1 t x hb ht hx hl => dspl_any (rd_on (by omega) hp hb) hg hL ht (fun z hz => by rw [← hx.one hz]; omega))
  have hmax := Nat.le_trans h.cap h.max
  unfold maxLen at hmax
  have BAD : Hid (∀ f w', Below w.heap.size w w' → DecA L ts [] f → DecR w L ts (.returned (.tuple #[.slice none 0 0, .int .i64 f])) w') := Lib.hid (fun f w' hb hf => ⟨hb, [], none, 0, f, rfl, Own.none_ _ _ _ _, hf⟩)
  obtain ⟨M, HMN⟩ : ∃ M, Hid (L.length = M) := ⟨_, Lib.hid rfl⟩
  obtain ⟨n, HN⟩ : ∃ n, Hid (ts.length = n) := ⟨_, Lib.hid rfl⟩
  rw [HMN.out] at HSZ HDS hL ⊢
  rw [HN.out] at hmax HR hts ⊢
  clear h hok hg hp
  go_enter Try.func15, Try.ntmps15
  go_wp2_with fail
  with_reducible refine HSZ.out.mono ?_
  rintro e0 w1 ⟨sa, sc, he, ho1, hb1⟩
  obtain ⟨V, HVN⟩ : ∃ V, Hid (17 + L.length = V) := ⟨_, Lib.hid rfl⟩
  rw [HVN.out] at he ho1
  subst he
  have HO1 := Lib.hid ho1
  have HB1 := Lib.hid hb1
  have HSR := Lib.hid ho1.rd
  have hVb : V ≤ 2000 := by have := HVN.out; have := HMN.out; omega
  clear ho1 hb1
  go_wp2_with fail
  go_loop [8] (fun i => ∃ (k : Nat), k ≤ n ∧ i = .int .i64 k ∧ Hid (∀ t ∈ ts.take k, 1 ≤ t ∧ t < (V : Int))) (fun i => n - (intOf i).toNat)
  case atStart => exact ⟨0, by omega, rfl, Lib.hid (by simp)⟩
  case round =>
    obtain ⟨k, hk, rfl, HX⟩ := hrel
    by_cases hlt : k < n
    · obtain ⟨b0, off, u, rfl, hu, hcell⟩ := (rd_on (by omega) HR.out HB1.out).get hlt
      obtain ⟨t, htk, rfl⟩ := ints_get hu
      have k0 : (0 : Int) ≤ (k : Int) := by omega
      have k1 : (k : Int) < (n : Int) := by omega
      have HLT := Lib.hid hlt
      have HTK := Lib.hid htk
      clear hu htk hlt
      by_cases h1 : t < 1
      · have HF := Lib.hid (BAD.out 1 w1 HB1.out (.inl ⟨fun h => by have := (h t (List.mem_of_getElem? HTK.out)).1; omega, rfl, rfl⟩))
        go_wp2_with fail
        go_ret2
        exact HF.out
      · by_cases h2 : (V : Int) ≤ t
        · have HF := Lib.hid (BAD.out 1 w1 HB1.out (.inl ⟨fun h => by have := (h t (List.mem_of_getElem? HTK.out)).2; have := HVN.out; omega, rfl, rfl⟩))
          go_wp2_with fail
          go_ret2
          exact HF.out
        · have HX2 : Hid (∀ t ∈ ts.take (k + 1), 1 ≤ t ∧ t < (V : Int)) := Lib.hid (by
            rw [List.take_add_one, HTK.out]
            intro s hs
            rcases List.mem_append.1 hs with hs | hs
            · exact HX.out s hs
            · simp at hs
              subst hs
              omega)
          have h1' : 1 ≤ t := by omega
          have h2' : t < (V : Int) := by omega
          go_wp2_with fail
          go_round
          case rel => exact ⟨k + 1, HLT.out, by go_num, HX2⟩
          case measure => have := HLT.out; simp [intOf]; omega
    · obtain rfl : k = n := by omega
      have HALL : Hid (∀ t ∈ ts, 1 ≤ t ∧ t < (V : Int)) := Lib.hid (by
        have h1 := HX.out
        rw [List.take_of_length_le (by have := HN.out; omega)] at h1
        exact h1)
      have HXE : Hid (∃ x, Xps L ts x) := Lib.hid (xps_ex HG.out ts (fun t ht => by have := HALL.out t ht; have := HVN.out; omega))
      obtain ⟨N, HKN⟩ : ∃ N, Hid (k = N) := ⟨_, Lib.hid rfl⟩
      rw [HKN.out] at HR HN hmax hts ⊢
      clear hlt hk
      go_wp2_with fail
      go_loop [7, 9] (fun nv i => ∃ (k : Nat) (y : List Int), k ≤ N ∧ i = .int .i64 k ∧ nv = .int .i64 (y.length : Int) ∧ y.length ≤ 4096 ∧ Hid (Xps L (ts.take k) y)) (fun _ i => N - (intOf i).toNat)
      case atStart => exact ⟨0, [], by omega, rfl, rfl, by simp, Lib.hid .nil⟩
      case round =>
        obtain ⟨k, y, hk, rfl, rfl, hyl, HX⟩ := hrel
        by_cases hlt : k < N
        · obtain ⟨b0, off, u, rfl, hu, hcell⟩ := (rd_on (by omega) HR.out HB1.out).get hlt
          obtain ⟨t, htk, rfl⟩ := ints_get hu
          have hr := HALL.out t (List.mem_of_getElem? htk)
          obtain ⟨z, hz⟩ := xp_ex HG.out _ t rfl hr.1 (by have := HVN.out; omega)
          obtain ⟨b1, o1, hb1, e1, l1, cx⟩ := size_at HSR.out hr.1 (by have := HVN.out; omega)
          rw [hz.size HG.out] at cx
          obtain ⟨tn, rfl⟩ : ∃ tn : Nat, t = tn := ⟨t.toNat, e1.symm⟩
          rw [Int.toNat_natCast] at cx
          subst hb1
          have hs0 : 0 ≤ imin (z.length : Int) 1048576 := by unfold imin; split <;> omega
          have hs1 : imin (z.length : Int) 1048576 ≤ 1048576 := by unfold imin; split <;> omega
          obtain ⟨s, HS⟩ : ∃ s, Hid (imin (z.length : Int) 1048576 = s) := ⟨_, Lib.hid rfl⟩
          rw [HS.out] at cx hs0 hs1
          have k0 : (0 : Int) ≤ (k : Int) := by omega
          have k1 : (k : Int) < (N : Int) := by omega
          have t0 : (0 : Int) ≤ (tn : Int) := by omega
          have HLT := Lib.hid hlt
          have HX2 : Hid (Xps L (ts.take (k + 1)) (y ++ z)) := Lib.hid (by
            rw [List.take_add_one, htk]
            exact Xps.snoc HX.out hz)
          obtain ⟨yl, HYL⟩ : ∃ yl, Hid (y.length = yl) := ⟨_, Lib.hid rfl⟩
          rw [HYL.out] at hyl ⊢
          by_cases hbig : 4096 < (yl : Int) + s
          · have HF := Lib.hid (BAD.out 5 w1 HB1.out (by
              obtain ⟨x, hx⟩ := HXE.out
              refine .inr ⟨x, hx, .inl ⟨?_, rfl, rfl⟩⟩
              have h2 : Xps L (ts.take (k + 1) ++ ts.drop (k + 1)) x := by rw [List.take_append_drop]; exact hx
              obtain ⟨p, q, e, hp, hq⟩ := h2.split
              have e2 := HX2.out.one hp
              rw [e, ← e2, List.length_append, List.length_append]
              have h3 := HS.out
              have h4 := HYL.out
              unfold imin at h3
              split at h3 <;> omega))
            clear hu htk hlt hr e1
            go_wp2_with fail
            go_ret2
            exact HF.out
          · have HZ : Hid ((z.length : Int) = s) := Lib.hid (by have h3 := HS.out; unfold imin at h3; split at h3 <;> omega)
            have hle : (yl : Int) + s ≤ 4096 := by omega
            have hdc : decide (4096 < (yl : Int) + s) = false := by simp; omega
            have HYZ : Hid (((y ++ z).length : Int) = (yl : Int) + s) := Lib.hid (by rw [List.length_append]; have := HZ.out; have := HYL.out; omega)
            clear hu htk hlt hr e1 hbig
            go_wp2_with fail
            go_round
            case rel => exact ⟨k + 1, y ++ z, HLT.out, by go_num, by rw [HYZ.out], by have := HYZ.out; omega, HX2⟩
            case measure => have := HLT.out; simp [intOf]; omega
        · obtain rfl : k = N := by omega
          have hxx := HX.out
          rw [List.take_of_length_le (by have := HN.out; omega)] at hxx
          have HXX := Lib.hid hxx
          have HYL : Hid (y.length ≤ 4096) := Lib.hid hyl
          clear hlt hk hxx hyl
          obtain ⟨Q, HKQ⟩ : ∃ Q, Hid (k = Q) := ⟨_, Lib.hid rfl⟩
          rw [HKQ.out] at HR HN hmax hts ⊢
          go_wp2_with fail
          go_loopw [10, 11] (fun lv i wr => ∃ (j : Nat) (z : List Int) (a1 : Option Addr) (c1 : Nat), j ≤ Q ∧ i = .int .i64 j ∧ lv = .slice a1 z.length c1 ∧ Hid (Own wr w.heap.size 3 1 a1 z.length c1 (ints z)) ∧ Hid (Below w.heap.size w wr) ∧ Hid (Xps L (ts.take j) z)) (fun _ i _ => Q - (intOf i).toNat)
          case atStart => exact ⟨0, [], none, 0, by omega, rfl, rfl, Lib.hid (Own.none_ _ _ _ _), HB1, Lib.hid .nil⟩
          case round =>
            obtain ⟨j, z, a1, c1, hj, rfl, rfl, HO, HB, HX⟩ := hrel
            by_cases hlt : j < Q
            · obtain ⟨b0, off, u, rfl, hu, hcell⟩ := (rd_on (by omega) HR.out HB.out).get hlt
              obtain ⟨t, htk, rfl⟩ := ints_get hu
              have hr := HALL.out t (List.mem_of_getElem? htk)
              obtain ⟨v, hv⟩ := xp_ex HG.out _ t rfl hr.1 (by have := HVN.out; omega)
              have HX2 : Hid (Xps L (ts.take (j + 1)) (z ++ v)) := Lib.hid (by
                rw [List.take_add_one, htk]
                exact Xps.snoc HX.out hv)
              have hzl : z.length + v.length ≤ 4096 := by
                have h1 := HX2.out
                have h2 : Xps L (ts.take (j + 1) ++ ts.drop (j + 1)) y := by rw [List.take_append_drop]; exact HXX.out
                obtain ⟨p, q, e, hp, hq⟩ := h2.split
                have e2 := h1.one hp
                have e3 := HYL.out
                rw [e, ← e2, List.length_append, List.length_append] at e3
                omega
              have HSPD := Lib.hid (HDS.out wr t v HB.out (HTO.out t (List.mem_of_getElem? htk)) hv (by omega))
              have HV := Lib.hid hv
              have HZV := Lib.hid hzl
              have k0 : (0 : Int) ≤ (j : Int) := by omega
              have k1 : (j : Int) < (Q : Int) := by omega
              have HLT := Lib.hid hlt
              clear hu htk hlt hv hzl hr
              obtain ⟨zl, HZL⟩ : ∃ zl, Hid (z.length = zl) := ⟨_, Lib.hid rfl⟩
              rw [HZL.out] at HO ⊢
              go_wp2_with fail
              with_reducible refine HSPD.out.mono ?_
              rintro e0 w5 ⟨hb5, r, a5, c5, rfl, ho5, ⟨hbad, _⟩ | hxr⟩
              · exact absurd HV.out.range hbad
              · obtain rfl := hxr.one HV.out
                have HO5 := Lib.hid (HO.out.chg (Chg.of_below hb5 (fun _ => False)) (fun _ _ => id))
                have HR5 := Lib.hid ho5.rd
                have HB5 := Lib.hid (below_two HB.out hb5)
                obtain ⟨vl, HVL⟩ : ∃ vl, Hid (r.length = vl) := ⟨_, Lib.hid rfl⟩
                rw [HVL.out] at HR5 ⊢
                have HSM : Hid (zl + vl ≤ 4096) := Lib.hid (by rw [← HZL.out, ← HVL.out]; exact HZV.out)
                clear hb5 ho5 hxr
                go_wp2_with (at_builtin; refine wpList_app el24 (by omega) rfl (.tmp 59) (.tmp 65) rfl (B := w.heap.size) (by rfl) HO5.out (by rfl) HR5.out (ints_one _) (by have := HSM.out; omega) (by have := HSM.out; omega) HB5.out.size ?_; intro a' c' w' hown hg hat)
                have HO6 : Hid (Own w' w.heap.size 3 1 a' (zl + vl) c' (ints (z ++ r))) := Lib.hid (by rw [← ints_append]; exact hown)
                have HB6 : Hid (Below w.heap.size w w') := Lib.hid ((Chg.of_grown' hg).below HB5.out HB5.out.size (fun k hk => (HO5.out.lt k hk).1))
                have HLN : Hid ((z ++ r).length = zl + vl) := Lib.hid (by rw [List.length_append, HZL.out, HVL.out])
                clear hown hg hat
                go_roundw
                case rel => exact ⟨j + 1, z ++ r, a', c', HLT.out, by go_num, by rw [HLN.out], by rw [HLN.out]; exact HO6, HB6, HX2⟩
                case measure => have := HLT.out; simp [intOf]; omega
            · obtain rfl : j = Q := by omega
              have hzy : z = y := by
                have h1 := HX.out
                rw [List.take_of_length_le (by have := HN.out; omega)] at h1
                exact h1.one HXX.out
              subst hzy
              obtain ⟨Z, HZ⟩ : ∃ Z, Hid (z.length = Z) := ⟨_, Lib.hid rfl⟩
              rw [HZ.out] at HO HYL ⊢
              have hZ : Z ≤ 4096 := HYL.out
              by_cases hpar : Z % 2 = 1
              · have HF := Lib.hid (BAD.out 3 wr HB.out (.inr ⟨z, HXX.out, .inr (.inl ⟨by rw [HZ.out]; exact hZ, by rw [HZ.out]; exact hpar, rfl, rfl⟩)⟩))
                have hm4 : (((Z : Int) % 2) == 0) = false := by simp; omega
                have hm5 : (((Z : Int) % 2) != 0) = true := by simp; omega
                clear hlt hpar hj
                go_wp2_with fail
                go_ret2
                exact HF.out
              · have HP : Hid (Z % 2 = 0) := Lib.hid (by omega)
                have hm4 : (((Z : Int) % 2) == 0) = true := by simp; omega
                have hm5 : (((Z : Int) % 2) != 0) = false := by simp; omega
                have HLOW := Lib.hid HXX.out.low
                have HFIN : Hid (∀ a2 c2 r w', Own w' w.heap.size 5 1 a2 r c2 (bys (byt (z.take (2 * r)))) → 2 * r = Z → Below w.heap.size w w' → DecR w L ts (.returned (.tuple #[.slice a2 r c2, .int .i64 0])) w') := Lib.hid (by
                  intro a2 c2 r w' ho hr hb
                  have e : r = (byt z).length := by rw [byt_len]; have := HZ.out; omega
                  rw [hr, ← HZ.out, List.take_length] at ho
                  exact ⟨hb, byt z, a2, c2, 0, by rw [← e], by rw [← e]; exact ho, .inr ⟨z, HXX.out, .inr (.inr ⟨by have := HZ.out; omega, by rw [HZ.out]; exact HP.out, rfl, rfl⟩)⟩⟩)
                clear hlt hpar hj
                go_wp2_with fail
                clear hm4 hm5
                go_loopw [12, 13] (fun bv i wq => ∃ (r q : Nat) (a2 : Option Addr) (c2 : Nat), q ≤ Z ∧ i = .int .i64 q ∧ bv = .slice a2 r c2 ∧ Hid (q = 2 * r) ∧ Hid (Own wq w.heap.size 5 1 a2 r c2 (bys (byt (z.take q)))) ∧ Hid (Own wq w.heap.size 3 1 a1 Z c1 (ints z)) ∧ Hid (Below w.heap.size w wq)) (fun _ i _ => Z - (intOf i).toNat)
                case atStart => exact ⟨0, 0, none, 0, by omega, rfl, rfl, Lib.hid rfl, Lib.hid (Own.none_ _ _ _ _), HO, HB⟩
                case round =>
                  obtain ⟨r, q, a2, c2, hq, rfl, rfl, HQR, HO2, HO3, HB2⟩ := hrel
                  by_cases hlt : q < Z
                  · have hq1 : q + 1 < Z := by have := HQR.out; have := HP.out; omega
                    obtain ⟨b0, o0, u, rfl, hu, hcu⟩ := HO3.out.rd.get hlt
                    obtain ⟨x, hx, rfl⟩ := ints_get hu
                    obtain ⟨b0', o0', u, he, hu1, hcv⟩ := HO3.out.rd.get hq1
                    injection he with he
                    injection he with e1 e2
                    subst e1 e2
                    obtain ⟨y, hy, rfl⟩ := ints_get hu1
                    have hlx := HLOW.out x (List.mem_of_getElem? hx)
                    have hly := HLOW.out y (List.mem_of_getElem? hy)
                    have x0 := hlx.1
                    have x1 := hlx.2
                    have y0 := hly.1
                    have y1 := hly.2
                    have q0 : (0 : Int) ≤ (q : Int) := by omega
                    have q1 : (q : Int) < (Z : Int) := by omega
                    have q2 : (q : Int) + 1 < (Z : Int) := by omega
                    have HLT := Lib.hid hq1
                    have s1 : IntKind.i64.wrap ((q : Int) + 1) = (q : Int) + 1 := IntWalk.i64_in _ (by omega)
                    have s2 : (0 : Int) ≤ (q : Int) + 1 := by omega
                    have s3 : ((q : Int) + 1).toNat = q + 1 := by omega
                    have s4 : IntKind.i64.wrap (x - 1) = x - 1 := IntWalk.i64_in _ (by omega)
                    have s5 : IntKind.i64.wrap ((x - 1) * 16) = (x - 1) * 16 := IntWalk.i64_in _ (by omega)
                    have s6 : IntKind.i64.wrap ((x - 1) * 16 + y) = (x - 1) * 16 + y := IntWalk.i64_in _ (by omega)
                    have s7 : IntKind.i64.wrap ((x - 1) * 16 + y - 1) = (x - 1) * 16 + y - 1 := IntWalk.i64_in _ (by omega)
                    clear hu hu1 hlx hly hlt hq1
                    obtain ⟨bt, HBT⟩ : ∃ bt, Hid ((x - 1) * 16 + y - 1 = bt) := ⟨_, Lib.hid rfl⟩
                    have s8 : IntKind.u8.wrap ((x - 1) * 16 + y - 1) = bt := by rw [IntWalk.u8_in _ (by omega)]; exact HBT.out
                    have HBT2 : Hid ((x - 1) * 16 + (y - 1) = bt) := Lib.hid (by have := HBT.out; omega)
                    have HZO := Lib.hid (HO2.out.chg ((Chg.refl (fun _ => False) wr).drew.alloc (.cells #[.int .u8 bt] 5)) (fun _ _ => id))
                    have HZR := Lib.hid (Own.made (B := wr.drew.heap.size) (size := 1) wr.drew #[.int .u8 bt] 5 1 (Nat.le_refl _) (by unfold maxLen; omega) rfl).rd
                    have H1C : Hid (∀ u ∈ [Value.int .u8 bt], u.oneCell' = true) := Lib.hid (by simp [Value.oneCell'])
                    have HSZ2 : Hid (w.heap.size ≤ (wr.drew.alloc (.cells #[.int .u8 bt] 5)).heap.size) := Lib.hid (by have := HB2.out.size; show _ ≤ (wr.drew.alloc (.cells #[.int .u8 bt] 5)).heap.size; simp; omega)
                    have HRB : Hid (r ≤ 4096) := Lib.hid (by have := HQR.out; omega)
                    have HGO : Hid (∀ a3 c3 w3, Own w3 w.heap.size 5 1 a3 (r + 1) c3 (bys (byt (z.take q)) ++ [.int .u8 bt]) → (wr.drew.alloc (.cells #[.int .u8 bt] 5)).grownBy w3 (ob a2) → Own w3 w.heap.size 5 1 a3 (r + 1) c3 (bys (byt (z.take (q + 2)))) ∧ Own w3 w.heap.size 3 1 (some ⟨b0, o0, none⟩) Z c1 (ints z) ∧ Below w.heap.size w w3) := Lib.hid (by
                      intro a3 c3 w3 h3 hg3
                      have hc3 := Chg.of_grown' hg3
                      have ho3 := HO3.out.chg ((Chg.refl (fun _ => False) wr).drew.alloc (.cells #[.int .u8 bt] 5)) (fun _ _ => id)
                      refine ⟨?_, ho3.chg hc3 (fun k hk => own_ob ho3 HZO.out (by decide) k hk), hc3.below ((below_drew HB2.out).alloc HB2.out.size _) HSZ2.out (fun k hk => (HZO.out.lt k hk).1)⟩
                      have e := byt_snoc (x := z) (k := r) (by rw [← HQR.out]; exact hx) (by rw [← HQR.out]; exact hy)
                      rw [show 2 * (r + 1) = q + 2 by have := HQR.out; omega, ← HQR.out, HBT2.out] at e
                      rw [e]
                      unfold bys at h3 ⊢
                      rw [List.map_append]
                      exact h3)
                    clear hx hy x0 x1 y0 y1
                    go_upto_region 25 with (fail)
                    go_region_law (refine step_app el23 (by omega) (by rfl) (.tmp 78) (.tmp 93) (by rfl) (by rfl) HZO.out (by rfl) HZR.out H1C.out (by have := HRB.out; omega) (by have := HRB.out; omega) HSZ2.out ?_; intro a3 c3 w3 ho3 hg3 ha3; have HG3 := Lib.hid (HGO.out a3 c3 w3 ho3 hg3); clear ho3 hg3 ha3)
                    all_goals
                      clear s1 s2 s3 s4 s5 s6 s7 s8
                      go_wp2_with fail
                      go_roundw
                      case rel => exact ⟨r + 1, q + 2, a3, c3, HLT.out, by go_num, rfl, Lib.hid (by have := HQR.out; omega), Lib.hid HG3.out.1, Lib.hid HG3.out.2.1, Lib.hid HG3.out.2.2⟩
                      case measure => have := HLT.out; simp [intOf]; omega
                  · obtain rfl : q = Z := by omega
                    have HF : Hid (DecR w L ts (.returned (.tuple #[.slice a2 r c2, .int .i64 0])) wr) := Lib.hid (HFIN.out a2 c2 r wr (by rw [← HQR.out]; exact HO2.out) HQR.out.symm HB2.out)
                    have hge : (q : Int) ≤ (q : Int) + 1 := by omega
                    clear hlt
                    go_wp2_with fail
                    go_ret2
                    exact HF.out
end
end Go.Proofs.Ytlndhmkkffcbnaa.TkY
