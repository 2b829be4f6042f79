/-
  Walks over the stops: grow, add.
-/
import Derived.Test.YtcjhlkndcgldjaaStM
namespace Go.Proofs.Ytcjhlkndcgldjaa.StW
open Go.RowKit Go.Proofs.Ytcjhlkndcgldjaa.Kit Go.Proofs.Ytcjhlkndcgldjaa.StP Go.Proofs.Ytcjhlkndcgldjaa.StM
attribute [local go_sem high] max_imax min_imin
attribute [local go_sem ↓] Go.wp_at_zero Go.wp_at_succ
set_option linter.unusedVariables false

section
variable {w w' : World} {B c : Nat} {A : Adr} {en : Wd → Int} {bw : Wd → Option Wd}

/-- A new node. -/
def Grown (w : World) (d : Int) (e : Ending) (w' : World) : Prop :=
  e = .returned (.pointer (some ⟨w.heap.size + 1, 0, none⟩)) ∧ MapN w' w.heap.size 0 (fun _ => none) ∧ Blk w' (w.heap.size + 1) 51 #[.int .i64 d, .int .i64 (-1), .map (some w.heap.size), .pointer none] ∧ Chg (fun _ => False) w w' ∧ w'.heap.size = w.heap.size + 2
theorem grow_any (d : Int) : Calls Try.prog 20 #[.int .i64 d] w (Grown w d) := by
  have hmm := @run_makeMap Try.prog
  have HF : Hid (Grown w d (.returned (.pointer (some ⟨w.heap.size + 1, 0, none⟩))) ((w.alloc (.map #[] 0)).alloc (.cells #[.int .i64 d, .int .i64 (-1), .map (some w.heap.size), .pointer none] 51))) := by
    refine Lib.hid ⟨rfl, ?_, ?_, ?_, by simp⟩
    · exact (MapN.made w).chg ((Chg.refl (fun _ => False) _).alloc _) id
    · have := Blk.new (w.alloc (.map #[] 0)) #[.int .i64 d, .int .i64 (-1), .map (some w.heap.size), .pointer none] 51
      simpa using this
    · exact ((Chg.refl _ w).alloc _).alloc _
  go_enter Try.func20, Try.ntmps20
  go_wp2
  go_ret
  exact HF.out

/-- The beginnings of x up to i have come in. -/
structure Adding (A : Adr) (x : Wd) (i : Nat) (A' : Adr) : Prop where
  dom : ∀ p, A' p ≠ none ↔ A p ≠ none ∨ ∃ j, j ≤ i ∧ p = x.take j
  old : ∀ p, A p ≠ none → A' p = A p
theorem Adding.start {x : Wd} (h : A [] ≠ none) : Adding A x 0 A := ⟨fun p => ⟨fun hp => .inl hp, fun hp => hp.elim id (fun ⟨j, hj, e⟩ => by
  obtain rfl : j = 0 := by omega
  rw [e]
  simpa using h)⟩, fun p _ => rfl⟩
theorem Adding.here {x : Wd} {i : Nat} {A' : Adr} (h : Adding A x i A') : A' (x.take i) ≠ none := (h.dom _).2 (.inr ⟨i, Nat.le_refl _, rfl⟩)
theorem take_snoc {x : Wd} {i : Nat} {t : Int} (h : x[i]? = some t) : x.take (i + 1) = x.take i ++ [t] := by
  rw [List.take_add_one, h]
  rfl
theorem Adding.same {x : Wd} {i : Nat} {A' : Adr} (h : Adding A x i A') (hn : A' (x.take (i + 1)) ≠ none) : Adding A x (i + 1) A' :=
  ⟨fun p => ⟨fun hp => ((h.dom p).1 hp).elim .inl (fun ⟨j, hj, e⟩ => .inr ⟨j, by omega, e⟩), fun hp => hp.elim (fun hp => (h.dom p).2 (.inl hp)) (fun ⟨j, hj, e⟩ => by
    by_cases hji : j ≤ i
    · exact (h.dom p).2 (.inr ⟨j, hji, e⟩)
    · obtain rfl : j = i + 1 := by omega
      rw [e]; exact hn)⟩, h.old⟩
theorem Adding.more {x : Wd} {i : Nat} {A' : Adr} (h : Adding A x i A') (hn : A' (x.take (i + 1)) = none) (y : Nat × Nat) : Adding A x (i + 1) (more A' (x.take (i + 1)) y) := by
  refine ⟨fun p => ?_, fun p hp => ?_⟩
  · by_cases hpx : p = x.take (i + 1)
    · rw [hpx, more_same]
      exact ⟨fun _ => .inr ⟨i + 1, Nat.le_refl _, rfl⟩, fun _ => by simp⟩
    · rw [more_else A' y hpx, h.dom]
      exact ⟨fun hp => hp.elim .inl (fun ⟨j, hj, e⟩ => .inr ⟨j, by omega, e⟩), fun hp => hp.elim .inl (fun ⟨j, hj, e⟩ => .inr ⟨j, by
        rcases Nat.lt_or_ge i j with hij | hij
        · obtain rfl : j = i + 1 := by omega
          exact absurd e hpx
        · exact hij, e⟩)⟩
  · have h1 := h.old p hp
    rw [more_else A' y (fun e => by rw [e] at h1 hp; rw [hn] at h1; exact hp h1.symm)]
    exact h1

def Added (w0 w : World) (B gs : Nat) (A : Adr) (en : Wd → Int) (c : Nat) (x : Wd) (many : Nat) (e : Ending) (w' : World) : Prop :=
  ∃ A', e = .returned (.tuple #[]) ∧ Adding A x x.length A' ∧ Tr w' B A' (fun p => if en p < 0 ∧ p = x then (many : Int) else en p) (fun _ => none) (c + x.length) ∧
    Blk w' gs 45 #[ptr (at_ A []), .int .i64 ((many : Int) + 1)] ∧ Below B w w'

set_option maxHeartbeats 1000000 in
theorem add_any {gs many : Nat} {x : Wd} {a : Option Addr} {cp : Nat} (h : Tr w B A en (fun _ => none) c) (hs : Blk w gs 45 #[ptr (at_ A []), .int .i64 (many : Int)]) (hsB : B ≤ gs) (hBw : B ≤ w.heap.size)
    (hr : Rd w 1 a x.length cp (ints x)) (hfar : 0 < x.length → ∀ k, ob a = some k → k < B) (hx : x.length ≤ 16) (hok : ∀ t ∈ x, okT t) (hmany : many ≤ 1000) (hc : c ≤ 1000) (hen : ∀ p, A p = none → en p = -1) (hlo : ∀ p, -1 ≤ en p) (hhi : ∀ p, en p ≤ 1000) :
    Calls Try.prog 21 #[.pointer (some ⟨gs, 0, none⟩), .slice a x.length cp] w (Added w w B gs A en c x many) := by
  obtain ⟨g0, m0, h0⟩ := h.get h.root
  have e0 : ptr (at_ A []) = .pointer (some ⟨g0, 0, none⟩) := by rw [at_some h0]; rfl
  have HS := Lib.hid hs
  rw [e0] at HS
  have c0 : w.cell? ⟨gs, 0, none⟩ = some (.pointer (some ⟨g0, 0, none⟩)) := HS.out.cell 0 rfl
  have HT := Lib.hid h
  have HR := Lib.hid hr
  have HFAR := Lib.hid hfar
  have HOK := Lib.hid hok
  have HEN := Lib.hid hen
  have HE0 := Lib.hid e0
  have HH0 := Lib.hid h0
  have HLO := Lib.hid hlo
  have HHI := Lib.hid hhi
  clear h hs hr hfar hok hen e0 h0 hlo hhi
  obtain ⟨n, HN⟩ : ∃ n, Hid (x.length = n) := ⟨_, rfl⟩
  rw [HN.out] at HR HFAR hx ⊢
  go_enter Try.func21, Try.ntmps21
  go_wp2_with fail
  go_loopw [13, 4] (fun i v wr => ∃ (k : Nat) (A' : Adr) (g m : Nat), k ≤ n ∧ i = .int .i64 k ∧ v = .pointer (some ⟨g, 0, none⟩) ∧ Hid (A' (x.take k) = some (g, m)) ∧ Hid (Adding A x k A') ∧ Hid (Tr wr B A' en (fun _ => none) (c + k)) ∧ Hid (Blk wr gs 45 #[.pointer (some ⟨g0, 0, none⟩), .int .i64 (many : Int)]) ∧ Hid (Below B w wr)) (fun i _ _ => n - (intOf i).toNat)
  case atStart => exact ⟨0, A, g0, m0, Nat.zero_le _, rfl, rfl, Lib.hid (by simpa using HH0.out), Lib.hid (Adding.start HT.out.root), Lib.hid (by simpa using HT.out), HS, Lib.hid (Below.refl _ _)⟩
  case round =>
    obtain ⟨k, A', g, m, hk, rfl, rfl, HG, HAd, HTr, HSr, HBe⟩ := hrel
    by_cases hlt : k < n
    · obtain ⟨b, off, u, rfl, hu, hcu⟩ := (HR.out.below HBe.out (fun hm => HFAR.out hm)).get hlt
      obtain ⟨t, ht, rfl⟩ := ints_get hu
      have htk := HOK.out t (List.mem_of_getElem? ht)
      have hsn := take_snoc ht
      have cg : wr.cell? ⟨g, 2, none⟩ = some (.map (some m)) := (HTr.out.node _ _ _ HG.out).cell 2 rfl
      have hl := (HTr.out.map _ _ _ HG.out).look htk
      have i0 : (0 : Int) ≤ (k : Int) := by omega
      have i1 : (k : Int) < (n : Int) := by omega
      have HTK := Lib.hid htk
      have HSN := Lib.hid hsn
      clear htk hsn hu ht
      cases hkid : A' (x.take k ++ [t]) with
      | some y =>
        obtain ⟨g2, m2⟩ := y
        have ek : kids A' (x.take k) t = some g2 := at_some hkid
        rw [ek] at hl
        have hl' : (Instr.lookup 49 (.map (some m)) (.int .i64 t) false).run Try.prog wr = .ok (.pointer (some ⟨g2, 0, none⟩)) wr := hl
        have HK := Lib.hid hkid
        clear hl ek hkid
        go_wp2_with fail
        go_roundw
        case rel => exact ⟨k + 1, A', g2, m2, by omega, by go_num, rfl, Lib.hid (by rw [HSN.out]; exact HK.out), Lib.hid (HAd.out.same (by rw [HSN.out, HK.out]; simp)), Lib.hid (HTr.out.mono (by omega)), HSr, HBe⟩
        case measure => simp [intOf]; omega
      | none =>
        have ek : kids A' (x.take k) t = none := by unfold kids at_; rw [hkid]; rfl
        rw [ek] at hl
        have hl' : (Instr.lookup 49 (.map (some m)) (.int .i64 t) false).run Try.prog wr = .ok (.pointer none) wr := hl
        have HK := Lib.hid hkid
        clear hl ek hkid
        go_upto_region 5 with (fail)
        have hglt : g < wr.heap.size := (HTr.out.node _ _ _ HG.out).lt
        have TG := Lib.hid (fun w => grow_any (w := w) ((k : Int) + 1))
        go_cut [] from 25 to 32 (fun wx => ∃ g' m', Hid (Tr wx B (more A' (x.take (k + 1)) (g', m')) en (fun _ => none) (c + (k + 1))) ∧ Hid (Blk wx gs 45 #[.pointer (some ⟨g0, 0, none⟩), .int .i64 (many : Int)]) ∧ Hid (Below B w wx))
        case first =>
          have FIN : Hid (∀ w5 w6 : World, Grown wr.drew ((k : Int) + 1) (.returned (.pointer (some ⟨wr.drew.heap.size + 1, 0, none⟩))) w5 → MapN w6 m (c + k + 1) (fun z => if t = z then some (wr.drew.heap.size + 1) else kids A' (x.take k) z) → Chg (fun i => i = m) w5 w6 →
              ∃ g' m', Hid (Tr w6 B (more A' (x.take (k + 1)) (g', m')) en (fun _ => none) (c + (k + 1))) ∧ Hid (Blk w6 gs 45 #[.pointer (some ⟨g0, 0, none⟩), .int .i64 (many : Int)]) ∧ Hid (Below B w w6)) := Lib.hid (by
            intro w5 w6 ⟨_, gm, gb, gc, gs5⟩ hm6 hc6
            have hsz : wr.drew.heap.size = wr.heap.size := rfl
            have hB : B ≤ wr.heap.size := Nat.le_trans hBw HBe.out.size
            have cd : Chg (fun _ => False) wr wr.drew := (Chg.refl _ wr).drew
            have c5 : Chg (fun i => i = m) wr w6 := ((cd.trans gc).mono (T := fun i => i = m) (fun _ _ h => h.elim)).then hc6 (fun i _ h => h)
            have hmlt := (HTr.out.map _ _ _ HG.out).lt
            have hmB := (HTr.out.base _ _ _ HG.out).2
            refine ⟨wr.heap.size + 1, wr.heap.size, Lib.hid ?_, Lib.hid ?_, Lib.hid ?_⟩
            · rw [HSN.out]
              have := HTr.out.more HG.out HTK.out HK.out (g' := wr.heap.size + 1) (m' := wr.heap.size) (HEN.out _ ?_) c5 (fun q g' m' hq e => HTr.out.ne hq HG.out e) (fun q g' m' hq hne e => (HTr.out.inj q _ g' m' g m hq HG.out hne).2 e) ?_ ?_ hm6 ⟨by omega, hB⟩ (fun q g' m' hq => ?_)
              · exact this
              · cases hA : A (x.take k ++ [t]) with
                | none => rfl
                | some y =>
                  have h1 := HAd.out.old (x.take k ++ [t]) (by rw [hA]; simp)
                  rw [HK.out, hA] at h1
                  cases h1
              · have h1 := hc6.blk gb (by show ¬ wr.drew.heap.size + 1 = m; omega)
                have e : ((x.take k ++ [t]).length : Int) = (k : Int) + 1 := by
                  have := HN.out
                  simp
                  omega
                unfold nc
                rw [e]
                exact h1
              · exact (gm.chg hc6 (by show ¬ wr.drew.heap.size = m; omega)).mono (Nat.zero_le _)
              · have h1 := (HTr.out.node _ _ _ hq).lt
                have h2 := (HTr.out.map _ _ _ hq).lt
                omega
            · refine c5.blk HSr.out (fun e => ?_)
              subst e
              obtain ⟨D, ⟨es, clock, hb, _⟩, _⟩ := HTr.out.map _ _ _ HG.out
              have := HSr.out
              unfold Blk at this
              rw [this] at hb
              cases hb
            · exact c5.below HBe.out hB (fun i hi => by omega))
          have s1 : IntKind.i64.wrap ((k : Int) + 1) = (k : Int) + 1 := IntWalk.i64_in _ (by omega)
          go_region_held3 (fun w' => w'.cell? ⟨g, 2, none⟩ = some (.map (some m))) (first | go_keep | assumption) (first | (go_at_call 20; refine (TG.out _).mono ?_; rintro e w5 hgr; have hgr' := hgr; obtain ⟨rfl, gm, gb, gc, gs5⟩ := hgr'; have p5 := gc.cell (p := ⟨g, 2, none⟩) (v := .map (some m)) (by exact cg) id; have hm5 := ((HTr.out.map _ _ _ HG.out).chg (Chg.refl (fun _ => False) wr).drew id).chg gc id; obtain ⟨w6, hrun6, hm6, hc6⟩ := hm5.store HTK.out (by unfold maxLen; omega) (wr.drew.heap.size + 1); have hrun6' : (Instr.mapUpdate 49 (.map (some m)) (.int .i64 t) (.pointer (some ⟨wr.heap.size + 1, 0, none⟩))).run Try.prog w5 = .ok () w6 := hrun6; have p6 := hc6.cell p5 (HTr.out.ne HG.out HG.out); have HM6 := Lib.hid hm6; have HC6 := Lib.hid hc6; have HGR := Lib.hid hgr; clear hgr gm gb gc gs5 hm5 hrun6 hm6 hc6))
          go_wp2
          go_meet
          exact FIN.out w5 w6 HGR.out HM6.out HC6.out
        case rest =>
          obtain ⟨g', m', HT2, HS2, HB2⟩ := hcut
          have hne : x.take k ≠ x.take (k + 1) := by rw [HSN.out]; exact snoc_ne _ _
          have HG2 : Hid (more A' (x.take (k + 1)) (g', m') (x.take k) = some (g, m)) := Lib.hid (by rw [more_else A' _ hne]; exact HG.out)
          have cg2 : wc.cell? ⟨g, 2, none⟩ = some (.map (some m)) := (HT2.out.node _ _ _ HG2.out).cell 2 rfl
          have ek : kids (more A' (x.take (k + 1)) (g', m')) (x.take k) t = some g' := by
            unfold kids at_
            rw [← HSN.out, more_same]
            rfl
          have hl2 := (HT2.out.map _ _ _ HG2.out).look HTK.out
          rw [ek] at hl2
          have hl2' : (Instr.lookup 49 (.map (some m)) (.int .i64 t) false).run Try.prog wc = .ok (.pointer (some ⟨g', 0, none⟩)) wc := hl2
          have HAD2 := Lib.hid (HAd.out.more (by rw [HSN.out]; exact HK.out) (g', m'))
          clear hl2 ek hne cg hl' hcu
          go_wp2_with fail
          go_roundw
          case rel => exact ⟨k + 1, more A' (x.take (k + 1)) (g', m'), g', m', by omega, by go_num, rfl, Lib.hid (more_same _ _ _), HAD2, HT2, HS2, HB2⟩
          case measure => simp [intOf]; omega
    · have hke : k = n := by omega
      subst hke
      have hxk : x.take k = x := List.take_of_length_le (by rw [HN.out]; exact Nat.le_refl _)
      rw [hxk] at HG
      have HNB := HTr.out.node _ _ _ HG.out
      have c1 : wr.cell? ⟨g, 1, none⟩ = some (.int .i64 (en x)) := HNB.cell 1 rfl
      have f1 := HNB.frozen 1
      have s1 : wr.cell? ⟨gs, 1, none⟩ = some (.int .i64 (many : Int)) := HSr.out.cell 1 rfl
      have s2 := HSr.out.frozen 1
      have hne : g ≠ gs := HNB.ne HSr.out (by decide)
      have lo := HLO.out x
      have hi := HHI.out x
      have hgB := (HTr.out.base _ _ _ HG.out).1
      have hBr : B ≤ wr.heap.size := Nat.le_trans hBw HBe.out.size
      have HNBH := Lib.hid HNB
      clear HNB hxk
      obtain ⟨e, HE⟩ : ∃ e, Hid (en x = e) := ⟨_, rfl⟩
      rw [HE.out] at c1 lo hi
      by_cases he : e < 0
      · have FIN : Hid (Added w w B gs A en c x many (.returned (.tuple #[])) ((wr.setCell ⟨g, 1, none⟩ (.int .i64 (many : Int))).setCell ⟨gs, 1, none⟩ (.int .i64 ((many : Int) + 1)))) := Lib.hid (by
          have k1 := (Chg.refl (fun i => i = g) wr).set (p := ⟨g, 1, none⟩) (.inl rfl) (.int .i64 (many : Int))
          have b1 := HNBH.out.set 1 (.int .i64 (many : Int))
          have t1 := HTr.out.turn HG.out (b := none) (e := (many : Int)) k1 b1
          have sb1 := k1.blk HSr.out (fun e => hne e.symm)
          have k2 := (Chg.refl (fun i => i = gs) (wr.setCell ⟨g, 1, none⟩ (.int .i64 (many : Int)))).set (p := ⟨gs, 1, none⟩) (.inl rfl) (.int .i64 ((many : Int) + 1))
          have hns : ∀ p g m, A' p = some (g, m) → ¬ g = gs ∧ ¬ m = gs := fun p g m hp => ⟨(t1.node p g m hp).ne sb1 (by decide), fun e => by
            subst e
            obtain ⟨D, ⟨es, clock, hb, _⟩, _⟩ := t1.map p g m hp
            unfold Blk at sb1
            rw [sb1] at hb
            cases hb⟩
          refine ⟨A', rfl, by rw [HN.out]; exact HAd.out, ?_, ?_, ?_⟩
          · rw [HN.out]
            refine ((t1.chg k2 hns).en_congr (fun p => ?_)).bw_congr (fun p => ?_)
            · show (if en p < 0 ∧ p = x then (many : Int) else en p) = (if p = x then (many : Int) else en p)
              by_cases hp : p = x
              · rw [if_pos hp, if_pos ⟨by rw [hp, HE.out]; exact he, hp⟩]
              · rw [if_neg hp, if_neg (fun h => hp h.2)]
            · show none = if p = x then none else none
              split <;> rfl
          · have := sb1.set 1 (.int .i64 ((many : Int) + 1))
            rw [HE0.out]
            exact this
          · exact k2.below (k1.below HBe.out hBr (fun i hi => by omega)) (by have := k1.size; omega) (fun i hi => by omega))
        clear HT HR HFAR HOK HEN HLO HHI HAd HTr HG HSr HBe HNBH
        go_wp2_with fail
        exact bodyPost_end (v := .tuple #[]) (by simp [results, Try.results21, go_sem]) rfl FIN.out
      · have FIN : Hid (Added w w B gs A en c x many (.returned (.tuple #[])) (wr.setCell ⟨gs, 1, none⟩ (.int .i64 ((many : Int) + 1)))) := Lib.hid (by
          have k2 := (Chg.refl (fun i => i = gs) wr).set (p := ⟨gs, 1, none⟩) (.inl rfl) (.int .i64 ((many : Int) + 1))
          have hns : ∀ p g m, A' p = some (g, m) → ¬ g = gs ∧ ¬ m = gs := fun p g m hp => ⟨(HTr.out.node p g m hp).ne HSr.out (by decide), fun e => by
            subst e
            obtain ⟨D, ⟨es, clock, hb, _⟩, _⟩ := HTr.out.map p g m hp
            have sb1 := HSr.out
            unfold Blk at sb1
            rw [sb1] at hb
            cases hb⟩
          refine ⟨A', rfl, by rw [HN.out]; exact HAd.out, ?_, ?_, ?_⟩
          · rw [HN.out]
            refine (HTr.out.chg k2 hns).en_congr (fun p => ?_)
            show (if en p < 0 ∧ p = x then (many : Int) else en p) = en p
            rw [if_neg (fun h => he (by rw [← HE.out, ← h.2]; exact h.1))]
          · have := HSr.out.set 1 (.int .i64 ((many : Int) + 1))
            rw [HE0.out]
            exact this
          · exact k2.below HBe.out hBr (fun i hi => by omega))
        clear HT HR HFAR HOK HEN HLO HHI HAd HTr HG HSr HBe HNBH
        go_wp2_with fail
        exact bodyPost_end (v := .tuple #[]) (by simp [results, Try.results21, go_sem]) rfl FIN.out
end
end Go.Proofs.Ytcjhlkndcgldjaa.StW
