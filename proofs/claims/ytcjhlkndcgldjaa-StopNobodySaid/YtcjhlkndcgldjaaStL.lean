/-
  Walks over the stops: link.
-/
import Derived.Test.YtcjhlkndcgldjaaStK
namespace Go.Proofs.Ytcjhlkndcgldjaa.StL
open Go.RowKit Go.Proofs.Ytcjhlkndcgldjaa.Kit Go.Proofs.Ytcjhlkndcgldjaa.StP Go.Proofs.Ytcjhlkndcgldjaa.StM Go.Proofs.Ytcjhlkndcgldjaa.StK
attribute [local go_sem high] max_imax min_imin
attribute [local go_sem ↓] Go.wp_at_zero Go.wp_at_succ
set_option linter.unusedVariables false

theorem nodup_le {α : Type} [DecidableEq α] : ∀ (l m : List α), l.Nodup → (∀ x ∈ l, x ∈ m) → l.length ≤ m.length
  | [], m, _, _ => Nat.zero_le _
  | a :: l, m, h, hs => by
    obtain ⟨h1, h2⟩ := List.nodup_cons.1 h
    have ha := hs a (List.mem_cons_self ..)
    have := nodup_le l (m.erase a) h2 (fun x hx => (List.mem_erase_of_ne (fun e => h1 (by rw [← e]; exact hx))).2 (hs x (List.mem_cons_of_mem _ hx)))
    rw [List.length_erase_of_mem ha] at this
    have := List.length_pos_of_mem ha
    simp
    omega
/-- Words of one depth are no more than the sequences. -/
theorem few {S : List Wd} {L : List Wd} {d : Nat} (h : L.Nodup) (hw : ∀ p ∈ L, wd S p = true ∧ p.length = d + 1) : L.length ≤ S.length := by
  have := nodup_le L (S.map (List.take (d + 1))) h (fun p hp => by
    obtain ⟨h1, h2⟩ := hw p hp
    rcases (wd_iff S p).1 h1 with rfl | ⟨x, hx, hpx⟩
    · simp at h2
    · rw [List.mem_map]
      exact ⟨x, hx, by rw [← h2]; exact (List.prefix_iff_eq_take.1 hpx).symm⟩)
  simpa using this

section
variable {w w' : World} {B c : Nat} {A : Adr} {en : Wd → Int} {bw : Wd → Option Wd} {S : List Wd}
theorem ranges_cells {m r n cnt g : Nat} {D : DataW Unit} {left : Lit → Bool} {t : TypeId} {cs : Array Value} (h : w.ranges Try.prog 3 pR m r n D left cnt) (hb : Blk w g t cs) : g ≠ m ∧ g ≠ r := by
  obtain ⟨es, clock, since, seen, c0, h1, _, _, _, h2, _⟩ := h
  unfold Blk at hb
  refine ⟨fun e => ?_, fun e => ?_⟩ <;> subst e
  · rw [h1] at hb; cases hb
  · rw [h2] at hb; cases hb
theorem ranges_own {m r n cnt : Nat} {D : DataW Unit} {left : Lit → Bool} {e : TypeId} {a : Option Addr} {k c : Nat} {xs : List Value} (h : w.ranges Try.prog 3 pR m r n D left cnt) (ho : Own w B e 1 a k c xs) : ob a ≠ some m ∧ ob a ≠ some r := by
  obtain ⟨_, ⟨rfl, _⟩ | ⟨g, cur, rfl, _, hh, _⟩⟩ := ho.form
  · simp [ob]
  · have := ranges_cells h (show Blk w g e cur from hh)
    simp [ob, this]
theorem ranges_map {m r n cnt b k : Nat} {D : DataW Unit} {left : Lit → Bool} {f : Int → Option Nat} (h : w.ranges Try.prog 3 pR m r n D left cnt) (hm : MapN w b k f) : b ≠ r := by
  obtain ⟨es, clock, since, seen, c0, h1, _, _, _, h2, _⟩ := h
  obtain ⟨D', ⟨es', clock', hb, _⟩, _⟩ := hm
  intro e
  subst e
  rw [h2] at hb
  cases hb
theorem kept_not {z kl : Lit} {left : Lit → Bool} {x t : Int} (h : (left (.int .i64 x) && !(Lit.int .i64 x).sameKey (.int .i64 t)) = false) : left (.int .i64 x) = false ∨ x = t := by
  simp only [Bool.and_eq_false_iff, Bool.not_eq_false'] at h
  rcases h with h | h
  · exact .inl h
  · exact .inr (by simpa [Lit.sameKey] using h)

def Linked (w : World) (B gs g0 : Nat) (many : Int) (A : Adr) (en : Wd → Int) (S : List Wd) (c : Nat) (e : Ending) (w' : World) : Prop :=
  e = .returned (.tuple #[]) ∧ Tr w' B A en (bk S) c ∧ Blk w' gs 45 #[.pointer (some ⟨g0, 0, none⟩), .int .i64 many] ∧ Below B w w'

set_option maxHeartbeats 2000000 in
theorem link_any {gs g0 m0 : Nat} {many : Int} (h : Tr w B A en (fun _ => none) c) (hs : Blk w gs 45 #[.pointer (some ⟨g0, 0, none⟩), .int .i64 many]) (h0 : A [] = some (g0, m0)) (hdom : ∀ p, A p ≠ none ↔ wd S p = true) (hS : S.length ≤ 16) (hlen : ∀ p, A p ≠ none → p.length ≤ 16) (hsB : B ≤ gs) (hBw : B ≤ w.heap.size) :
    Calls Try.prog 22 #[.pointer (some ⟨gs, 0, none⟩)] w (Linked w B gs g0 many A en S c) := by
  have c0 : w.cell? ⟨gs, 0, none⟩ = some (.pointer (some ⟨g0, 0, none⟩)) := hs.cell 0 rfl
  have HOW : Hid (Own (w.alloc (.cells #[.pointer (some ⟨g0, 0, none⟩)] 35)) B 35 1 (some ⟨w.heap.size, 0, none⟩) 1 1 (lv A [[]])) := by
    have := Own.made (B := B) (size := 1) w #[.pointer (some ⟨g0, 0, none⟩)] 35 1 hBw (by unfold maxLen; omega) rfl
    have e : lv A [[]] = #[Value.pointer (some ⟨g0, 0, none⟩)].toList := by simp [lv, at_some h0, ptr]
    rw [e]
    exact Lib.hid this
  have hk := (Chg.refl (fun _ => False) w).alloc (.cells #[.pointer (some ⟨g0, 0, none⟩)] 35)
  have HT := Lib.hid (h.chg0 hk)
  have HS := Lib.hid (hk.blk hs id)
  have HB : Hid (Below B w (w.alloc (.cells #[.pointer (some ⟨g0, 0, none⟩)] 35))) := Lib.hid ((Below.refl B w).alloc hBw _)
  have HD := Lib.hid hdom
  have H0 := Lib.hid h0
  have HLEN := Lib.hid hlen
  clear h hs h0 hdom hk hlen
  go_enter Try.func22, Try.ntmps22
  go_wp2_with fail
  go_loopg [2] 18 (fun k v wr => ∃ (d : Nat) (Lv : List Wd) (a : Option Addr) (cp : Nat) (bw : Wd → Option Wd), k + d = 18 ∧ v = .slice a Lv.length cp ∧ Lv.length ≤ 16 + 1 ∧ Hid (Lv.Nodup) ∧ Hid (∀ p ∈ Lv, A p ≠ none ∧ p.length = d) ∧ Hid (∀ p, A p ≠ none → p.length = d → p ∈ Lv) ∧ Hid (∀ p, A p ≠ none → p.length ≤ d → bw p = bk S p) ∧
    Hid (Own wr B 35 1 a Lv.length cp (lv A Lv)) ∧ Hid (Tr wr B A en bw c) ∧ Hid (Blk wr gs 45 #[.pointer (some ⟨g0, 0, none⟩), .int .i64 many]) ∧ Hid (Below B w wr))
  case atStart => exact ⟨0, [[]], _, _, fun _ => none, by omega, rfl, by simp, Lib.hid (by simp), Lib.hid (fun p hp => by simp at hp; subst hp; exact ⟨by rw [H0.out]; simp, rfl⟩), Lib.hid (fun p _ hp => by simp [List.eq_nil_of_length_eq_zero hp]), Lib.hid (fun p _ hp => by
      obtain rfl := List.eq_nil_of_length_eq_zero (Nat.le_zero.1 hp)
      rfl), HOW, HT, HS, HB⟩
  case round =>
    obtain ⟨d, Lv, a, cp, bw, hkd, rfl, hLl, HND, HL1, HL2, HBW, HO, HTr, HSr, HBe⟩ := hrel
    obtain ⟨n, HN⟩ : ∃ n, Hid (Lv.length = n) := ⟨_, rfl⟩
    rw [HN.out] at hLl HO ⊢
    by_cases hn : n = 0
    · have FIN : Hid (Linked w B gs g0 many A en S c (.returned (.tuple #[])) wr) := Lib.hid ⟨rfl, HTr.out.chg0 (Chg.refl _ _) |> fun h => ⟨fun p g m hp => by
          have hnl : Lv = [] := List.eq_nil_of_length_eq_zero (by rw [HN.out]; exact hn)
          have hpl : p.length ≤ d := by
            rcases Nat.lt_or_ge d p.length with hlt | hge
            · have h1 : A (p.take d) ≠ none := HTr.out.up' (q := p.drop d) (by rw [List.take_append_drop, hp]; simp)
              have h2 := HL2.out _ h1 (by simp; omega)
              rw [hnl] at h2
              simp at h2
            · exact hge
          have := h.node p g m hp
          rw [HBW.out p (by rw [hp]; simp) hpl] at this
          exact this, h.map, h.base, h.inj, h.up, h.wf, h.root⟩, HSr.out, HBe.out⟩
      subst hn
      clear HTr HL1 HL2 HBW HO HND HSr HBe
      go_wp2_with fail
      exact bodyPost_end (v := .tuple #[]) (by simp [results, Try.results22, go_sem]) rfl FIN.out
    · have hn1 : 0 < n := by omega
      have hd16 : d ≤ 16 := by
        obtain ⟨p, hp⟩ : ∃ p, p ∈ Lv := by
          cases hL : Lv with
          | nil => have := HN.out; rw [hL] at this; simp at this; omega
          | cons p r => exact ⟨p, List.mem_cons_self ..⟩
        have h1 := HL1.out p hp
        have h2 := HLEN.out p h1.1
        omega
      have n1 : (0 : Int) < (n : Int) := by omega
      have n2 : (n : Int) ≤ 17 := by omega
      clear hn
      go_wp2_with fail
      obtain ⟨wo, HWO⟩ : ∃ wo, Hid (wr = wo) := ⟨_, rfl⟩
      rw [HWO.out] at HO HTr HSr HBe ⊢
      clear HWO
      have hBo : B ≤ wo.heap.size := Nat.le_trans hBw HBe.out.size
      go_loopw [18, 3] (fun i v wr => ∃ (j : Nat) (Bl : List Wd) (a' : Option Addr) (cp' : Nat) (bw' : Wd → Option Wd), j ≤ n ∧ i = .int .i64 j ∧ v = .slice a' Bl.length cp' ∧ Hid (Mid S A d Lv j Bl bw') ∧ Hid (Bl.Nodup) ∧ Hid (∀ q ∈ Bl, ∃ (i : Nat) (r : Wd) (x : Int), i < j ∧ Lv[i]? = some r ∧ q = r ++ [x]) ∧
        Hid (wo.heap.size ≤ wr.heap.size) ∧ Hid (Own wr wo.heap.size 35 1 a' Bl.length cp' (lv A Bl)) ∧ Hid (Own wr B 35 1 a n cp (lv A Lv)) ∧ Hid (Tr wr B A en bw' c) ∧ Hid (Blk wr gs 45 #[.pointer (some ⟨g0, 0, none⟩), .int .i64 many]) ∧ Hid (Below B w wr)) (fun i _ _ => n - (intOf i).toNat)
      case atStart => exact ⟨0, [], none, 0, bw, Nat.zero_le _, rfl, rfl, Lib.hid (Mid.start HBW.out), Lib.hid List.nodup_nil, Lib.hid (fun q hq => by simp at hq), Lib.hid (Nat.le_refl _), Lib.hid (Own.none_ _ _ _ _), HO, HTr, HSr, HBe⟩
      case round =>
        obtain ⟨j, Bl, a', cp', bw', hj, rfl, rfl, HM, HNB, HSRC, HWL, HOB, HOL, HT2, HS2, HB2⟩ := hrel
        have HBL16 : Hid (Bl.length ≤ 16) := Lib.hid (Nat.le_trans (few HNB.out (fun p hp => ⟨(HD.out p).1 (HM.out.deep p hp).1, (HM.out.deep p hp).2⟩)) hS)
        by_cases hjn : j < n
        · obtain ⟨p, hp⟩ : ∃ p, Lv[j]? = some p := ⟨_, List.getElem?_eq_getElem (by rw [HN.out]; exact hjn)⟩
          obtain ⟨hpA, hpd⟩ := HL1.out p (List.mem_of_getElem? hp)
          obtain ⟨g, m, hA⟩ := HT2.out.get hpA
          obtain ⟨gT, rfl, hcT⟩ := own_cell HOL.out (i := j) (v := ptr (at_ A p)) (by simp [lv, hp])
          have ept : ptr (at_ A p) = .pointer (some ⟨g, 0, none⟩) := by rw [at_some hA]; rfl
          rw [ept] at hcT
          have c2 : wr.cell? ⟨g, 2, none⟩ = some (.map (some m)) := (HT2.out.node p g m hA).cell 2 rfl
          obtain ⟨D, hown, hism, hat, hhas⟩ := HT2.out.map p g m hA
          have j0 : (0 : Int) ≤ (j : Int) := by omega
          have j1 : (j : Int) < (n : Int) := by omega
          have HP := Lib.hid hp
          have HPD := Lib.hid hpd
          have HA := Lib.hid hA
          have HOWN := Lib.hid hown
          have HAT := Lib.hid hat
          have HHAS := Lib.hid hhas
          clear hp hpA hpd hA ept hown hism hat hhas
          go_wp2_with (first | (at_range; refine wpList_range_own _ rfl (.tmp 25) 49 rfl 3 35 key3 Try.underlying49 pR m c D rfl HOWN.out ?_; intro w0 hrg0 hg0 hs0) | go_in)
          go_frame
          have HRB := Lib.hid HB2.out.size
          obtain ⟨r, HRr⟩ : ∃ r, Hid (wr.heap.size = r) := ⟨_, rfl⟩
          rw [HRr.out] at hrg0 ⊢
          have hc0 : Chg (fun _ => False) wr w0 := Chg.of_grown hg0 (fun k hk => by cases hk)
          have HM0 : Hid (∀ t, okT t → A (p ++ [t]) ≠ none → Maps.has D (.int .i64 t) = false → p ++ [t] ∈ Bl ∧ bw' (p ++ [t]) = bk S (p ++ [t])) := Lib.hid (fun t ht hA2 hl => by
            have := HHAS.out t ht
            rw [hl] at this
            have h2 : kids A p t = none := by cases hk : kids A p t <;> simp [hk] at this ⊢
            obtain ⟨g2, m2, h3⟩ := HT2.out.get hA2
            unfold kids at h2
            rw [at_some h3] at h2
            cases h2)
          have HSRC0 : Hid (∀ q ∈ Bl, (∃ (i : Nat) (r : Wd) (x : Int), i < j ∧ Lv[i]? = some r ∧ q = r ++ [x]) ∨ ∃ x, okT x ∧ Maps.has D (.int .i64 x) = false ∧ q = p ++ [x]) := Lib.hid (fun q hq => .inl (HSRC.out q hq))
          have HRG0 := Lib.hid hrg0
          have HWL0 : Hid (wo.heap.size ≤ w0.heap.size) := Lib.hid (Nat.le_trans HWL.out hg0.size)
          have HOB0 := Lib.hid (HOB.out.chg hc0 (fun _ _ => id))
          have HOL0 := Lib.hid (HOL.out.chg hc0 (fun _ _ => id))
          have HT0 := Lib.hid (HT2.out.chg0 hc0)
          have HS0 := Lib.hid (hc0.blk HS2.out id)
          have HB0 := Lib.hid (hc0.below HB2.out (Nat.le_trans hBw HB2.out.size) (fun _ h => h.elim))
          clear hrg0 hg0 hs0 hc0 hcT c2 HSRC HWL HOB HOL HT2 HS2 HB2 HOWN
          go_loopw [3] (fun v wr => ∃ (Bl : List Wd) (a' : Option Addr) (cp' : Nat) (bw' : Wd → Option Wd) (left : Lit → Bool) (cnt : Nat), v = .slice a' Bl.length cp' ∧ Hid (wr.ranges Try.prog 3 pR m r c D left cnt) ∧ Hid (Mid S A d Lv j Bl bw') ∧ Hid (Bl.Nodup) ∧
            Hid (∀ q ∈ Bl, (∃ (i : Nat) (r : Wd) (x : Int), i < j ∧ Lv[i]? = some r ∧ q = r ++ [x]) ∨ ∃ x, okT x ∧ left (.int .i64 x) = false ∧ q = p ++ [x]) ∧
            Hid (∀ t, okT t → A (p ++ [t]) ≠ none → left (.int .i64 t) = false → p ++ [t] ∈ Bl ∧ bw' (p ++ [t]) = bk S (p ++ [t])) ∧
            Hid (wo.heap.size ≤ wr.heap.size) ∧ Hid (Own wr wo.heap.size 35 1 a' Bl.length cp' (lv A Bl)) ∧ Hid (Own wr B 35 1 (some ⟨gT, 0, none⟩) n cp (lv A Lv)) ∧ Hid (Tr wr B A en bw' c) ∧ Hid (Blk wr gs 45 #[.pointer (some ⟨g0, 0, none⟩), .int .i64 many]) ∧ Hid (Below B w wr)) (fun _ wr => wr.rangeLeft m r)
          case atStart => exact ⟨Bl, a', cp', bw', _, _, rfl, HRG0, HM, HNB, HSRC0, HM0, HWL0, HOB0, HOL0, HT0, HS0, HB0⟩
          case round =>
            clear HM HNB HM0 HSRC0 HRG0 HWL0 HOB0 HOL0 HT0 HS0 HB0 HBL16
            obtain ⟨Bl, a', cp', bw', left, cnt, rfl, HRG, HM, HNB, HSRC, HLEFT, HWL, HOB, HOL, HT2, HS2, HB2⟩ := hrel
            have HBL16 : Hid (Bl.length ≤ 16) := Lib.hid (Nat.le_trans (few HNB.out (fun p hp => ⟨(HD.out p).1 (HM.out.deep p hp).1, (HM.out.deep p hp).2⟩)) hS)
            go_wp2_with (first
              | (at_next; refine wpList_next_ranges _ rfl (.tmp 26) rfl 3 key3 pR (Value.int .i64) ptr (fun key kl hkey => by obtain ⟨x, rfl, _⟩ := Maps.keyOf_int_inv Try.underlying3 hkey; exact ⟨x, rfl⟩) (fun v y hv => by obtain ⟨f, rfl, _⟩ := pR_inv hv; exact ⟨f, rfl⟩) m r c D left cnt rfl HRG.out ?_ ?_)
              | go_in)
            · intro hz hl0
              have HM1 : Hid (Mid S A d Lv (j + 1) Bl bw') := Lib.hid ⟨HM.out.deep, fun i q t hi hq hA2 => by
                rcases Nat.lt_or_ge i j with hij | hij
                · exact HM.out.done i q t hij hq hA2
                · obtain rfl : i = j := by omega
                  rw [HP.out] at hq
                  injection hq with hq
                  subst hq
                  exact HLEFT.out t (HT2.out.wf _ t hA2) hA2 (hl0 _), HM.out.low⟩
              have HSRC1 : Hid (∀ q ∈ Bl, ∃ (i : Nat) (r : Wd) (x : Int), i < j + 1 ∧ Lv[i]? = some r ∧ q = r ++ [x]) := Lib.hid (fun q hq => by
                rcases HSRC.out q hq with ⟨i, r, x, h1, h2, h3⟩ | ⟨x, h1, _, h3⟩
                · exact ⟨i, r, x, by omega, h2, h3⟩
                · exact ⟨j, p, x, by omega, HP.out, h3⟩)
              clear hz hl0
              go_wp2_with fail
              go_roundw
              case rel => exact ⟨j + 1, Bl, a', cp', bw', by omega, by go_num, rfl, HM1, HNB, HSRC1, HWL, HOB, HOL, HT2, HS2, HB2⟩
              case measure => simp [intOf]; omega
            · intro x f kl y1 y2 w1 cnt1 hkey hlk hv hat hrg1 hlt hg1 hs1 hen
              obtain ⟨x', ex, rfl, hxok⟩ := Maps.keyOf_int_inv Try.underlying3 hkey
              cases ex
              have hxok : okT x := hxok
              rw [pR_ptr] at hv
              injection hv with hv
              injection hv with hy1 hy2
              subst hy1
              have hf : f = kids A p x := by
                have h1 := HAT.out x hxok
                rw [hat] at h1
                injection h1 with h1
                injection h1 with _ h1
                exact code_inj h1
              have hsome : (kids A p x).isSome = true := by
                rw [← HHAS.out x hxok]
                exact Maps.has_true_of_atKey hat
              rw [← hf] at hsome
              obtain ⟨gx, rfl⟩ := Option.isSome_iff_exists.1 hsome
              obtain ⟨mx, hAx⟩ : ∃ mx, A (p ++ [x]) = some (gx, mx) := by
                unfold kids at_ at hf
                cases hA2 : A (p ++ [x]) with
                | none => rw [hA2] at hf; cases hf
                | some y =>
                  rw [hA2] at hf
                  injection hf with hf
                  exact ⟨y.2, by rw [hf]⟩
              have hc1 : Chg (fun i => i = r) wr w1 := Chg.of_grown hg1 (fun k hk => by injection hk with hk; exact .inl hk.symm)
              have hT1 : Tr w1 B A en bw' c := HT2.out.chg hc1 (fun q g' m' hq => ⟨(ranges_cells HRG.out (HT2.out.node q g' m' hq)).2, ranges_map HRG.out (HT2.out.map q g' m' hq)⟩)
              have hS1 : Blk w1 gs 45 #[.pointer (some ⟨g0, 0, none⟩), .int .i64 many] := hc1.blk HS2.out (ranges_cells HRG.out HS2.out).2
              have hOB1 := HOB.out.chg hc1 (fun k hk e => (ranges_own HRG.out HOB.out).2 (by rw [hk, e]))
              have hOL1 := HOL.out.chg hc1 (fun k hk e => (ranges_own HRG.out HOL.out).2 (by rw [hk, e]))
              have hrB : B ≤ r := by rw [← HRr.out]; exact Nat.le_trans hBw HRB.out
              have hB1 : Below B w w1 := hc1.below HB2.out (Nat.le_trans hBw HB2.out.size) (fun i hi => by omega)
              obtain ⟨gr, mr, hAr⟩ : ∃ gr mr, A (stepW S (bk S p) x) = some (gr, mr) := hT1.get ((HD.out _).2 (stepW_in S _ x))
              have hlow := HM.out.low
              have TS := Lib.hid (step_any (L := d) hT1 hS1 H0.out HD.out hlow (q := bk S p) (fun p' hp' => ⟨bk_in hp', by have := bk_len hp'; have := HPD.out; omega⟩) hxok hAr)
              have hnp := hT1.node p g m HA.out
              rw [hlow p (by rw [HA.out]; simp) (by rw [HPD.out]; exact Nat.le_refl _)] at hnp
              have c3 : w1.cell? ⟨g, 3, none⟩ = some (ptr (atO A (bk S p))) := hnp.cell 3 rfl
              have hnx := hT1.node (p ++ [x]) gx mx hAx
              have cx3 : w1.cell? ⟨gx, 3, none⟩ = some (ptr (atO A (bw' (p ++ [x])))) := hnx.cell 3 rfl
              have fx3 := hnx.frozen 3
              have hset := (Chg.refl (fun i => i = gx) w1).set (p := ⟨gx, 3, none⟩) (.inl rfl) (.pointer (some ⟨gr, 0, none⟩))
              have hbx := hnx.set 3 (.pointer (some ⟨gr, 0, none⟩))
              have hbx' : Blk (w1.setCell ⟨gx, 3, none⟩ (.pointer (some ⟨gr, 0, none⟩))) gx 51 (nc (p ++ [x]) (en (p ++ [x])) mx (atO A (bk S (p ++ [x])))) := by
                rw [bk_step]
                have e : atO A (some (stepW S (bk S p) x)) = some gr := at_some hAr
                rw [e]
                exact hbx
              have hT2 := hT1.turn hAx hset hbx'
              have hT2' : Tr (w1.setCell ⟨gx, 3, none⟩ (.pointer (some ⟨gr, 0, none⟩))) B A en (fun q => if q = p ++ [x] then bk S (p ++ [x]) else bw' q) c := hT2.en_congr (fun q => by
                show en q = if q = p ++ [x] then en (p ++ [x]) else en q
                by_cases hq : q = p ++ [x]
                · rw [if_pos hq, hq]
                · rw [if_neg hq])
              have hrg2 := hrg1.kept (set_grown w1 gx 3 (.pointer (some ⟨gr, 0, none⟩))) (fun e => (ranges_cells hrg1 hnx).1 (by injection e with e; exact e.symm)) (fun e => (ranges_cells hrg1 hnx).2 (by injection e with e; exact e.symm))
              have hxB := (hT1.base _ _ _ hAx).1
              have hnel : ∀ {B'' : Nat} {a'' : Option Addr} {n'' c'' : Nat} {xs : List Value}, Own w1 B'' 35 1 a'' n'' c'' xs → ∀ k, ob a'' = some k → ¬ k = gx := fun ho k hk e => ho.ne hnx (by decide) (by rw [hk, e])
              have hOB2 := hOB1.chg hset (hnel hOB1)
              have hOL2 := hOL1.chg hset (hnel hOL1)
              have hS2 := hset.blk hS1 (fun e => (hnx.ne hS1 (by decide)) e.symm)
              have hB2 := hset.below hB1 (Nat.le_trans hBw hB1.size) (fun i hi => by omega)
              obtain ⟨w2, HW2⟩ : ∃ w2, Hid (w1.setCell ⟨gx, 3, none⟩ (.pointer (some ⟨gr, 0, none⟩)) = w2) := ⟨_, rfl⟩
              rw [HW2.out] at hT2' hrg2 hOB2 hOL2 hS2 hB2
              have hka := (Chg.refl (fun _ => False) w2).alloc (.cells #[.pointer (some ⟨gx, 0, none⟩)] 35)
              have HOZ := Lib.hid (hOB2.chg hka (fun _ _ => id))
              have HRZ := Lib.hid (rd_new w2 (.pointer (some ⟨gx, 0, none⟩)) 35)
              have H1C := Lib.hid (show ∀ u ∈ [Value.pointer (some ⟨gx, 0, none⟩)], u.oneCell' = true by simp [Value.oneCell'])
              have HKA := Lib.hid hka
              have HT5 := Lib.hid hT2'
              have HRG5 := Lib.hid hrg2
              have HOL5 := Lib.hid hOL2
              have HS5 := Lib.hid hS2
              have HB5 := Lib.hid hB2
              have HAX := Lib.hid hAx
              have HXOK := Lib.hid hxok
              have HLT := Lib.hid hlt
              have HLK := Lib.hid hlk
              have hbB : B ≤ w2.heap.size := Nat.le_trans hBw HB5.out.size
              have HBB := Lib.hid hbB
              have hen' : (Instr.entry (.pointer (some ⟨r, 0, none⟩))).run Try.prog w1 = .ok (.tuple #[.int .i64 x, .pointer (some ⟨gx, 0, none⟩)]) w1 := hen
              have hob : wo.heap.size ≤ w2.heap.size := by have := HWL.out; have := hc1.size; have := hset.size; rw [HW2.out] at this; omega
              have hbl := HBL16.out
              obtain ⟨ub, HUB⟩ : ∃ ub, Hid (ptr (atO A (bk S p)) = ub) := ⟨_, rfl⟩
              rw [HUB.out] at TS c3
              have HW2' := HW2.out
              clear hkey hat hf hsome hlow hnp hnx hset hbx hbx' hT2 hT2' hrg2 hnel hOB2 hOL2 hS2 hB2 hka hen hT1 hS1 hOB1 hOL1 hB1 hc1 hAr hAx hxok hlt hg1 hs1 hlk HW2
              go_wp2_with fail
              refine TS.out.mono ?_
              rintro e w' ⟨rfl, rfl⟩
              go_wp2_with (at_builtin; refine wpList_app ptrs54 (by omega) rfl (.tmp 42) (.tmp 44) rfl (B := wo.heap.size) (by rfl) HOZ.out (by rfl) HRZ.out H1C.out (by omega) (by omega) (by simp; omega) ?_; intro a9 cp9 w9 hown9 hg9 hat9)
              have hoZm := ranges_own (HRG5.out.alloc (.cells #[.pointer (some ⟨gx, 0, none⟩)] 35)) HOZ.out
              have hrg9 := (HRG5.out.alloc (.cells #[.pointer (some ⟨gx, 0, none⟩)] 35)).kept hg9 (fun e => hoZm.1 e.symm) (fun e => hoZm.2 e.symm)
              have hcg := (HKA.out.mono (T := fun i => ob a' = some i) (fun _ _ h => h.elim)).trans (Chg.of_grown' hg9)
              have hoa : ∀ k, ob (some (⟨gT, 0, none⟩ : Addr)) = some k → ¬ ob a' = some k := fun k hk e => by
                have h1 := (HOZ.out.lt k e).1
                have h2 := (HO.out.lt k hk).2
                omega
              go_roundw
              case rel =>
                refine ⟨Bl ++ [p ++ [x]], a9, cp9, fun q => if q = p ++ [x] then bk S (p ++ [x]) else bw' q, _, cnt1, by simp, Lib.hid hrg9, Lib.hid (HM.out.one HPD.out (by rw [HAX.out]; simp)), Lib.hid ?_, Lib.hid ?_, Lib.hid ?_, Lib.hid ?_, Lib.hid ?_, Lib.hid (HOL5.out.chg hcg hoa), Lib.hid (HT5.out.chg hcg ?_), Lib.hid (hcg.blk HS5.out ?_), Lib.hid (hcg.below HB5.out HBB.out ?_)⟩
                · refine List.nodup_append.2 ⟨HNB.out, by simp, fun q hq q' hq' e => ?_⟩
                  simp at hq'
                  subst hq'
                  subst e
                  rcases HSRC.out _ hq with ⟨i, r', y, h1, h2, h3⟩ | ⟨y, h1, h2, h3⟩
                  · obtain ⟨e1, _⟩ := List.append_inj' h3 rfl
                    obtain ⟨hi1, hi2⟩ := List.getElem?_eq_some_iff.1 h2
                    obtain ⟨hj1, hj2⟩ := List.getElem?_eq_some_iff.1 HP.out
                    exact List.pairwise_iff_getElem.1 HND.out i j hi1 hj1 h1 (by rw [hi2, hj2]; exact e1.symm)
                  · have e1 := (List.append_inj' h3 rfl).2
                    injection e1 with e1
                    subst e1
                    rw [HLK.out] at h2
                    cases h2
                · intro q hq
                  rcases List.mem_append.1 hq with hq | hq
                  · rcases HSRC.out q hq with h | ⟨y, h1, h2, h3⟩
                    · exact .inl h
                    · exact .inr ⟨y, h1, by simp [h2], h3⟩
                  · simp at hq
                    exact .inr ⟨x, HXOK.out, by simp [Lit.sameKey], hq⟩
                · intro t ht hA2 hl
                  show _ ∧ (if p ++ [t] = p ++ [x] then _ else _) = _
                  rcases kept_not (kl := .int .i64 x) (z := .int .i64 x) hl with h | h
                  · obtain ⟨h1, h2⟩ := HLEFT.out t ht hA2 h
                    refine ⟨List.mem_append.2 (.inl h1), ?_⟩
                    by_cases e : p ++ [t] = p ++ [x]
                    · rw [if_pos e, e]
                    · rw [if_neg e]; exact h2
                  · subst h
                    exact ⟨List.mem_append.2 (.inr (by simp)), if_pos rfl⟩
                · have := hcg.size
                  omega
                · rw [lv_append]
                  have e : lv A [p ++ [x]] = [Value.pointer (some ⟨gx, 0, none⟩)] := by simp [lv, at_some HAX.out, ptr]
                  rw [e, List.length_append]
                  exact hown9
                · intro q g' m' hq
                  have hoz := HOZ.out
                  have hn := (HT5.out.chg0 HKA.out).node q g' m' hq
                  have hm := (HT5.out.chg0 HKA.out).map q g' m' hq
                  exact ⟨fun e => hoz.ne hn (by decide) e, fun e => own_map hoz hm e⟩
                · intro e
                  exact HOZ.out.ne (HKA.out.blk HS5.out id) (by decide) e
                · intro k hk
                  have := (HOZ.out.lt k hk).1
                  omega
              case measure => rw [hrg9.left_eq, HRG.out.left_eq]; exact HLT.out
        · have hje : j = n := by omega
          subst hje
          have FIN2 : Hid (∀ p, A p ≠ none → p.length = d + 1 → p ∈ Bl ∧ bw' p = bk S p) := Lib.hid (fun p hp hl => by
            rcases List.eq_nil_or_concat p with rfl | ⟨q, t, rfl⟩
            · simp at hl
            · rw [List.concat_eq_append] at hp hl ⊢
              have hq := HT2.out.up q t hp
              have hm := HL2.out q hq (by simp at hl; exact hl)
              obtain ⟨i, hi⟩ := List.getElem?_of_mem hm
              have hij : i < j := by
                have := (List.getElem?_eq_some_iff.1 hi).1
                rw [HN.out] at this
                exact this
              exact HM.out.done i q t hij hi hp)
          have hbl := HBL16.out
          go_wp2_with fail
          go_roundg (gk - 1)
          case measure => omega
          case rel =>
            exact ⟨d + 1, Bl, a', cp', bw', by omega, rfl, by omega, HNB, Lib.hid HM.out.deep, Lib.hid (fun p hp hl => (FIN2.out p hp hl).1), Lib.hid (fun p hp hl => by
              rcases Nat.lt_or_ge d p.length with h | h
              · exact (FIN2.out p hp (by omega)).2
              · exact HM.out.low p hp h), Lib.hid (HOB.out.lower hBo), HT2, HS2, HB2⟩
end
end Go.Proofs.Ytcjhlkndcgldjaa.StL
