/-
  Walks over the stops: New.
-/
import Derived.Test.YtcjhlkndcgldjaaStL
namespace Go.Proofs.Ytcjhlkndcgldjaa.StN
open Go.RowKit Go.Proofs.Ytcjhlkndcgldjaa.Kit Go.Proofs.Ytcjhlkndcgldjaa.StP Go.Proofs.Ytcjhlkndcgldjaa.StM Go.Proofs.Ytcjhlkndcgldjaa.StW Go.Proofs.Ytcjhlkndcgldjaa.StK Go.Proofs.Ytcjhlkndcgldjaa.StL
attribute [local go_sem high] max_imax min_imin
attribute [local go_sem ↓] Go.wp_at_zero Go.wp_at_succ
set_option linter.unusedVariables false

/-- Sequences in memory. -/
structure StopsAt (w : World) (a : Option Addr) (c : Nat) (S : List Wd) : Prop where
  rows : ∃ vs : List Value, Rd w 1 a S.length c vs ∧ ∀ (i : Nat) (x : Wd), S[i]? = some x → ∃ a' c', vs[i]? = some (.slice a' x.length c') ∧ Rd w 1 a' x.length c' (ints x)
  ok : ∀ x ∈ S, ∀ t ∈ x, okT t
theorem rd_on {w w' : World} {a : Option Addr} {m c : Nat} {xs : List Value} (h : Rd w 1 a m c xs) (hb : Below w.heap.size w w') : Rd w' 1 a m c xs := h.below hb (fun hm k hk => h.lt (by omega) hm k hk)
theorem StopsAt.on {w w' : World} {a : Option Addr} {c : Nat} {S : List Wd} (h : StopsAt w a c S) (hb : Below w.heap.size w w') : StopsAt w' a c S := by
  obtain ⟨⟨vs, h1, h2⟩, h3⟩ := h
  exact ⟨⟨vs, rd_on h1 hb, fun i x hx => by obtain ⟨a', c', h4, h5⟩ := h2 i x hx; exact ⟨a', c', h4, rd_on h5 hb⟩⟩, h3⟩

/-- A set that New made, in memory. -/
structure SetM (w : World) (B gs : Nat) (S : List Wd) (A : Adr) (c g0 m0 : Nat) : Prop where
  tree : Tr w B A (endsI S) (bk S) c
  dom : ∀ p, A p ≠ none ↔ wd S p = true
  root : A [] = some (g0, m0)
  blk : Blk w gs 45 #[.pointer (some ⟨g0, 0, none⟩), .int .i64 (S.length : Int)]
theorem SetM.on {w w' : World} {B gs c g0 m0 : Nat} {S : List Wd} {A : Adr} (h : SetM w B gs S A c g0 m0) (hb : Below w.heap.size w w') : SetM w' B gs S A c g0 m0 :=
  ⟨h.tree.below hb, h.dom, h.root, (hb.block _ h.blk.lt).trans h.blk⟩

/-- New's error. -/
def good (x : Wd) : Bool := decide (1 ≤ x.length) && decide (x.length ≤ 16)
def newE (S : List Wd) : Int := if S.length ≤ 16 then (if S.all good = true then 0 else 1) else 5
theorem wd_snoc (S : List Wd) (x p : Wd) : wd (S ++ [x]) p = true ↔ wd S p = true ∨ p <+: x := by
  rw [wd_iff, wd_iff]
  simp only [List.mem_append, List.mem_singleton]
  constructor
  · rintro (h | ⟨y, hy | rfl, hp⟩)
    · exact .inl (.inl h)
    · exact .inl (.inr ⟨y, hy, hp⟩)
    · exact .inr hp
  · rintro ((h | ⟨y, hy, hp⟩) | h)
    · exact .inl h
    · exact .inr ⟨y, .inl hy, hp⟩
    · exact .inr ⟨x, .inr rfl, h⟩

section
variable {w : World}
def NewR (w : World) (S : List Wd) (e : Ending) (w' : World) : Prop := Below w.heap.size w w' ∧ ∃ p, e = .returned (.tuple #[.pointer p, .int .i64 (newE S)]) ∧
  ((newE S ≠ 0 ∧ p = none) ∨ (newE S = 0 ∧ ∃ gs A c g0 m0, p = some ⟨gs, 0, none⟩ ∧ SetM w' w.heap.size gs S A c g0 m0))

set_option maxHeartbeats 2000000 in
theorem new_any {a : Option Addr} {c : Nat} {S : List Wd} (h : StopsAt w a c S) : Calls Try.prog 9 #[.slice a S.length c] w (NewR w S) := by
  obtain ⟨⟨vs, hr, hrow⟩, hok⟩ := h
  have hcap := Nat.le_trans hr.cap hr.max
  unfold maxLen at hcap
  by_cases hbig : 16 < S.length
  · have FIN : Hid (NewR w S (.returned (.tuple #[.pointer none, .int .i64 5])) w) := Lib.hid (by
      have e : newE S = 5 := if_neg (by omega)
      exact ⟨Below.refl _ _, none, by rw [e], .inl ⟨by rw [e]; omega, rfl⟩⟩)
    clear hr hrow hok
    go_enter Try.func9, Try.ntmps9
    go_wp2
    go_ret2
    exact FIN.out
  · have hS : S.length ≤ 16 := by omega
    have HR := Lib.hid hr
    have HROW := Lib.hid hrow
    have HOK := Lib.hid hok
    clear hr hrow hok hbig
    have TG := Lib.hid (grow_any (w := w) 0)
    obtain ⟨n, HN⟩ : ∃ n, Hid (S.length = n) := ⟨_, rfl⟩
    rw [HN.out] at HR hS hcap ⊢
    have HNE : Hid (newE S = if S.all good = true then 0 else 1) := Lib.hid (if_pos (by rw [HN.out]; exact hS))
    go_enter Try.func9, Try.ntmps9
    go_wp2_with fail
    refine TG.out.mono ?_
    rintro e w1 ⟨rfl, gm, gb, gc, gz⟩
    have hb1 : Below w.heap.size w w1 := gc.none
    have hw1 : w.heap.size ≤ w1.heap.size := hb1.size
    have hk := (Chg.refl (fun _ => False) w1).alloc (.cells #[.pointer (some ⟨w.heap.size + 1, 0, none⟩), .int .i64 0] 45)
    have hgs := Blk.new w1 #[.pointer (some ⟨w.heap.size + 1, 0, none⟩), .int .i64 0] 45
    have hT0 : Tr w1 w.heap.size (fun p => if p = [] then some (w.heap.size + 1, w.heap.size) else none) (endsI []) (fun _ => none) 0 := by
      refine ⟨fun p g m hp => ?_, fun p g m hp => ?_, fun p g m hp => ?_, fun p q g m g' m' hp hq hne => ?_, fun p t hp => ?_, fun p t hp => ?_, by simp⟩
      · by_cases h : p = []
        · subst h
          simp at hp
          obtain ⟨rfl, rfl⟩ := hp
          exact gb
        · simp [h] at hp
      · by_cases h : p = []
        · subst h
          simp at hp
          obtain ⟨rfl, rfl⟩ := hp
          refine gm.congr (fun x _ => ?_)
          simp [kids, at_]
        · simp [h] at hp
      · by_cases h : p = []
        · subst h
          simp at hp
          obtain ⟨rfl, rfl⟩ := hp
          omega
        · simp [h] at hp
      · by_cases h : p = []
        · by_cases h' : q = []
          · exact absurd (h.trans h'.symm) hne
          · simp [h'] at hq
        · simp [h] at hp
      · simp at hp
      · simp at hp
    obtain ⟨gs, HGS⟩ : ∃ gs, Hid (w1.heap.size = gs) := ⟨_, rfl⟩
    rw [HGS.out] at hgs
    have HT0 := Lib.hid (hT0.chg0 hk)
    have HB0 := Lib.hid (hb1.trans (hk.none.mono hb1.size))
    have HGB := Lib.hid hgs
    have hgsB : w.heap.size ≤ gs := by rw [← HGS.out]; exact hw1
    clear gm gb gc gz hk hgs hT0 hb1 hw1
    go_wp2_with fail
    rw [HGS.out]
    go_loopw [15] (fun i wr => ∃ (k : Nat) (A : Adr) (d : Nat), k ≤ n ∧ i = .int .i64 k ∧ d ≤ 16 * k ∧ Hid (Tr wr w.heap.size A (endsI (S.take k)) (fun _ => none) d) ∧ Hid (∀ p, A p ≠ none ↔ wd (S.take k) p = true) ∧ Hid (∃ m0, A [] = some (w.heap.size + 1, m0)) ∧ Hid (∀ x ∈ S.take k, good x = true) ∧
      Hid (Blk wr gs 45 #[.pointer (some ⟨w.heap.size + 1, 0, none⟩), .int .i64 (k : Int)]) ∧ Hid (Below w.heap.size w wr)) (fun i _ => n - (intOf i).toNat)
    case atStart => exact ⟨0, _, 0, Nat.zero_le _, rfl, by omega, HT0, Lib.hid (fun p => by
      by_cases h : p = []
      · subst h; simp [wd_nil]
      · simp [h, wd]), Lib.hid ⟨w.heap.size, by simp⟩, Lib.hid (fun x hx => by simp at hx), HGB, HB0⟩
    case round =>
      obtain ⟨k, A, d, hk, rfl, hd, HT, HD, HRT, HGD, HSB, HBe⟩ := hrel
      by_cases hlt : k < n
      · obtain ⟨x, hx⟩ : ∃ x, S[k]? = some x := ⟨_, List.getElem?_eq_getElem (by rw [HN.out]; exact hlt)⟩
        obtain ⟨b, off, u, rfl, hu, hcu⟩ := (rd_on HR.out HBe.out).get hlt
        obtain ⟨ax, cx, hv, hxr⟩ := HROW.out k x hx
        rw [hu] at hv
        injection hv with hv
        subst hv
        have k0 : (0 : Int) ≤ (k : Int) := by omega
        have k1 : (k : Int) < (n : Int) := by omega
        have hxmax := Nat.le_trans hxr.cap hxr.max
        unfold maxLen at hxmax
        have hxm : x ∈ S := List.mem_of_getElem? hx
        have htk : S.take (k + 1) = S.take k ++ [x] := by rw [List.take_add_one, hx]; rfl
        have HTK := Lib.hid htk
        have HX := Lib.hid hxr
        have HXOK := Lib.hid (HOK.out x hxm)
        by_cases hg : 1 ≤ x.length ∧ x.length ≤ 16
        · obtain ⟨m0, hroot⟩ := HRT.out
          have hs' : Blk wr gs 45 #[ptr (at_ A []), .int .i64 (k : Int)] := by
            have e : ptr (at_ A []) = .pointer (some ⟨w.heap.size + 1, 0, none⟩) := by rw [at_some hroot]; rfl
            rw [e]
            exact HSB.out
          have TA := Lib.hid (add_any (many := k) HT.out hs' hgsB HBe.out.size (rd_on HX.out HBe.out) (fun h0 q hq => HX.out.lt (by omega) h0 q hq) hg.2 HXOK.out (by omega) (by omega) (fun p hp => by
            have h1 : ¬ (0 ≤ endsI (S.take k) p) := fun h => by
              have := (HD.out p).2 (endsI_wd h)
              exact this hp
            have := endsI_neg (S.take k) p
            omega) (endsI_neg _) (fun p => by
            have := endsI_lt (S.take k) p
            simp at this
            omega))
          have HROOT := Lib.hid hroot
          have hg1 := hg.1
          have hg2 := hg.2
          have HGG : Hid (good x = true) := Lib.hid (by simp [good, hg1, hg2])
          obtain ⟨xn, HXN⟩ : ∃ xn, Hid (x.length = xn) := ⟨_, rfl⟩
          rw [HXN.out] at TA hg1 hg2 hcu
          have p0 : (1 : Int) ≤ (xn : Int) := by omega
          have p1 : (xn : Int) ≤ 16 := by omega
          clear hg hu hxr hx hs' hroot htk hxm
          go_wp2_with fail
          refine TA.out.mono ?_
          rintro e w5 ⟨A', rfl, hadd, ht5, hs5, hb5⟩
          have hHT5 := Lib.hid (show Tr w5 w.heap.size A' (endsI (S.take (k + 1))) (fun _ => none) (d + x.length) from ht5.en_congr (fun p => by
            rw [HTK.out, endsI_snoc]
            have : (S.take k).length = k := by rw [List.length_take, HN.out]; omega
            rw [this]))
          have hHD5 := Lib.hid (show ∀ p, A' p ≠ none ↔ wd (S.take (k + 1)) p = true from fun p => by
            rw [HTK.out, wd_snoc, hadd.dom, HD.out]
            constructor
            · rintro (h | ⟨j, _, rfl⟩)
              · exact .inl h
              · exact .inr (List.take_prefix _ _)
            · rintro (h | h)
              · exact .inl h
              · exact .inr ⟨p.length, h.length_le, List.prefix_iff_eq_take.1 h⟩)
          have hroot5 : Hid (∃ m0, A' [] = some (w.heap.size + 1, m0)) := Lib.hid ⟨m0, by rw [hadd.old [] (by rw [HROOT.out]; simp)]; exact HROOT.out⟩
          have hgood5 : Hid (∀ y ∈ S.take (k + 1), good y = true) := Lib.hid (fun y hy => by
            rw [HTK.out] at hy
            rcases List.mem_append.1 hy with hy | hy
            · exact HGD.out y hy
            · simp at hy; subst hy; exact HGG.out)
          have hs5' : Hid (Blk w5 gs 45 #[.pointer (some ⟨w.heap.size + 1, 0, none⟩), .int .i64 ((k + 1 : Nat) : Int)]) := Lib.hid (by
            have e : ptr (at_ A []) = .pointer (some ⟨w.heap.size + 1, 0, none⟩) := by rw [at_some HROOT.out]; rfl
            rw [e] at hs5
            exact hs5)
          have hbe5 := Lib.hid (HBe.out.trans hb5)
          have hd5 : d + x.length ≤ 16 * (k + 1) := by rw [HXN.out]; omega
          clear ht5 hs5 hb5 hadd
          go_wp2_with fail
          go_roundw
          case rel => exact ⟨k + 1, A', d + x.length, by omega, by go_num, hd5, hHT5, hHD5, hroot5, hgood5, hs5', hbe5⟩
          case measure => simp [intOf]; omega
        · have hE : newE S = 1 := by
            rw [HNE.out, if_neg]
            intro h
            have := List.all_eq_true.1 h x hxm
            simp [good] at this
            omega
          have FIN : Hid (NewR w S (.returned (.tuple #[.pointer none, .int .i64 1])) wr) := Lib.hid ⟨HBe.out, none, by rw [hE], .inl ⟨by rw [hE]; omega, rfl⟩⟩
          obtain ⟨xn, HXN⟩ : ∃ xn, Hid (x.length = xn) := ⟨_, rfl⟩
          rw [HXN.out] at hcu hg hxmax
          clear hu hxr hx htk hxm hE HT HD HRT HGD HSB HBe
          by_cases hg1 : xn < 1
          · clear hg
            go_wp2
            go_ret2
            exact FIN.out
          · have hg2 : 16 < xn := by omega
            have hg3 : 1 ≤ xn := by omega
            clear hg hg1
            go_wp2
            go_ret2
            exact FIN.out
      · have hke : k = n := by omega
        subst hke
        have hSt : S.take k = S := List.take_of_length_le (by rw [HN.out]; exact Nat.le_refl _)
        rw [hSt] at HT HD HGD
        obtain ⟨m0, hroot⟩ := HRT.out
        have TL := Lib.hid (link_any (many := (k : Int)) HT.out HSB.out hroot HD.out (by rw [HN.out]; exact hS) (fun p hp => by
          rcases (wd_iff S p).1 ((HD.out p).1 hp) with rfl | ⟨x, hx, hpx⟩
          · simp
          · have h1 := HGD.out x hx
            simp [good] at h1
            have := hpx.length_le
            omega) hgsB HBe.out.size)
        have HROOT := Lib.hid hroot
        have hE : Hid (newE S = 0) := Lib.hid (by rw [HNE.out, if_pos]; exact List.all_eq_true.2 HGD.out)
        clear hroot hSt
        go_wp2_with fail
        refine TL.out.mono ?_
        rintro e w6 ⟨rfl, ht6, hs6, hb6⟩
        have FIN : Hid (NewR w S (.returned (.tuple #[.pointer (some ⟨gs, 0, none⟩), .int .i64 0])) w6) := Lib.hid ⟨HBe.out.trans hb6, _, by rw [hE.out], .inr ⟨hE.out, gs, A, d, _, m0, rfl, ht6, HD.out, HROOT.out, by rw [HN.out]; exact hs6⟩⟩
        clear ht6 hs6 hb6
        go_wp2
        go_ret2
        exact FIN.out
end
end Go.Proofs.Ytcjhlkndcgldjaa.StN
