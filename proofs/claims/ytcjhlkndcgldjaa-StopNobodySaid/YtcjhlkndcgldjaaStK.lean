/-
  Walks over the stops: step, link.
-/
import Derived.Test.YtcjhlkndcgldjaaStW
namespace Go.Proofs.Ytcjhlkndcgldjaa.StK
open Go.RowKit Go.Proofs.Ytcjhlkndcgldjaa.Kit Go.Proofs.Ytcjhlkndcgldjaa.StP Go.Proofs.Ytcjhlkndcgldjaa.StM
attribute [local go_sem high] max_imax min_imin
attribute [local go_sem ↓] Go.wp_at_zero Go.wp_at_succ
set_option linter.unusedVariables false

/-- Where a token leads. -/
def stepW (S : List Wd) (q : Option Wd) (t : Int) : Wd := match q with
  | none => []
  | some p => lsuf S (p ++ [t])
theorem stepW_in (S : List Wd) (q : Option Wd) (t : Int) : wd S (stepW S q t) = true := by
  cases q with
  | none => rfl
  | some p => exact lsuf_in S _
theorem bk_step (S : List Wd) (p : Wd) (t : Int) : bk S (p ++ [t]) = some (stepW S (bk S p) t) := by
  rw [bk_snoc]
  cases bk S p <;> rfl
theorem stepW_yes {S : List Wd} {p : Wd} {t : Int} (h : wd S (p ++ [t]) = true) : stepW S (some p) t = p ++ [t] := lsuf_of_in h
theorem stepW_no {S : List Wd} {p : Wd} {t : Int} (h : wd S (p ++ [t]) = false) : stepW S (some p) t = stepW S (bk S p) t := by
  cases p with
  | nil =>
    show lsuf S [t] = []
    rw [lsuf_not h]
    rfl
  | cons a r =>
    show lsuf S (a :: (r ++ [t])) = lsuf S (lsuf S r ++ [t])
    rw [lsuf_not (show wd S (a :: (r ++ [t])) = false from h), lsuf_snoc]

section
variable {w w' : World} {B c : Nat} {A : Adr} {en : Wd → Int} {bw : Wd → Option Wd} {S : List Wd}

theorem bk_len {p q : Wd} (h : bk S p = some q) : q.length < p.length := by
  cases p with
  | nil => cases h
  | cons a r =>
    injection h with h
    subst h
    have := lsuf_le S r
    simp
    omega
theorem bk_in {p q : Wd} (h : bk S p = some q) : wd S q = true := by
  cases p with
  | nil => cases h
  | cons a r =>
    injection h with h
    subst h
    exact lsuf_in S r

theorem step_any {gs g0 m0 L : Nat} {many : Int} (h : Tr w B A en bw c) (hs : Blk w gs 45 #[.pointer (some ⟨g0, 0, none⟩), .int .i64 many]) (h0 : A [] = some (g0, m0)) (hdom : ∀ p, A p ≠ none ↔ wd S p = true)
    (hbw : ∀ p, A p ≠ none → p.length ≤ L → bw p = bk S p) {q : Option Wd} (hq : ∀ p, q = some p → wd S p = true ∧ p.length ≤ L) {t : Int} (ht : okT t) {gr mr : Nat} (hr : A (stepW S q t) = some (gr, mr)) :
    Calls Try.prog 24 #[.pointer (some ⟨gs, 0, none⟩), ptr (atO A q), .int .i64 t] w fun e w' => e = .returned (.pointer (some ⟨gr, 0, none⟩)) ∧ w = w' := by
  have HT := Lib.hid h
  have c0 : w.cell? ⟨gs, 0, none⟩ = some (.pointer (some ⟨g0, 0, none⟩)) := hs.cell 0 rfl
  have HD := Lib.hid hdom
  have HBW := Lib.hid hbw
  have HQ := Lib.hid hq
  have HR := Lib.hid hr
  have H0 := Lib.hid h0
  have HTT := Lib.hid ht
  clear h hs hdom hbw hq hr h0 ht
  obtain ⟨v, HV⟩ : ∃ v, Hid (ptr (atO A q) = v) := ⟨_, rfl⟩
  rw [HV.out]
  go_enter Try.func24, Try.ntmps24
  go_wp2_with fail
  go_loopg [1] (L + 2) (fun k v wr => ∃ q' : Option Wd, Hid (v = ptr (atO A q')) ∧ Hid (∀ p, q' = some p → wd S p = true ∧ p.length ≤ L ∧ p.length + 1 < k) ∧ 0 < k ∧ Hid (A (stepW S q' t) = some (gr, mr)) ∧ wr = w)
  case atStart => exact ⟨q, Lib.hid HV.out.symm, Lib.hid (fun p hp => ⟨(HQ.out p hp).1, (HQ.out p hp).2, by have := (HQ.out p hp).2; omega⟩), by omega, HR, rfl⟩
  case round =>
    obtain ⟨q', HV', HQ', hk0, HR', rfl⟩ := hrel
    rw [HV'.out]
    cases q' with
    | none =>
      have e1 : gr = g0 := by
        have h1 := HR'.out
        have h2 : A (stepW S none t) = some (g0, m0) := H0.out
        rw [h2] at h1
        injection h1 with h1
        injection h1 with h1 _
        exact h1.symm
      subst e1
      have e2 : ptr (atO A (none : Option Wd)) = .pointer none := rfl
      rw [e2]
      go_wp2_with fail
      go_ret
      exact ⟨rfl, rfl⟩
    | some p =>
      obtain ⟨hp1, hp2, hp3⟩ := HQ'.out p rfl
      obtain ⟨g, m, hA⟩ := HT.out.get ((HD.out p).2 hp1)
      have e2 : ptr (atO A (some p)) = .pointer (some ⟨g, 0, none⟩) := by
        show ptr (at_ A p) = _
        rw [at_some hA]
        rfl
      rw [e2]
      have hnode := HT.out.node p g m hA
      have c2 : wr.cell? ⟨g, 2, none⟩ = some (.map (some m)) := hnode.cell 2 rfl
      have c3 : wr.cell? ⟨g, 3, none⟩ = some (ptr (atO A (bw p))) := hnode.cell 3 rfl
      have hl := (HT.out.map p g m hA).look HTT.out
      have hb := HBW.out p (by rw [hA]; simp) hp2
      rw [hb] at c3
      clear hnode hb
      cases hw : wd S (p ++ [t]) with
      | true =>
        have h1 := HR'.out
        rw [stepW_yes hw] at h1
        have ek : kids A p t = some gr := at_some h1
        rw [ek] at hl
        have hl' : (Instr.lookup 49 (.map (some m)) (.int .i64 t) false).run Try.prog wr = .ok (.pointer (some ⟨gr, 0, none⟩)) wr := hl
        clear hl ek h1 hw c3 hp1 hp2 hp3 hA e2
        go_wp2_with fail
        go_ret
        exact ⟨rfl, rfl⟩
      | false =>
        have h1 := HR'.out
        rw [stepW_no hw] at h1
        have hno : A (p ++ [t]) = none := by
          cases hA2 : A (p ++ [t]) with
          | none => rfl
          | some y =>
            have := (HD.out (p ++ [t])).1 (by rw [hA2]; simp)
            rw [hw] at this
            cases this
        have ek : kids A p t = none := by unfold kids at_; rw [hno]; rfl
        rw [ek] at hl
        have hl' : (Instr.lookup 49 (.map (some m)) (.int .i64 t) false).run Try.prog wr = .ok (.pointer none) wr := hl
        have H1 := Lib.hid h1
        have HN : Hid (∀ p', bk S p = some p' → wd S p' = true ∧ p'.length ≤ L ∧ p'.length + 1 < gk - 1) := Lib.hid (fun p' hp' => by
          have := bk_len hp'
          exact ⟨bk_in hp', by omega, by omega⟩)
        obtain ⟨u, HU⟩ : ∃ u, Hid (ptr (atO A (bk S p)) = u) := ⟨_, rfl⟩
        rw [HU.out] at c3
        clear hl ek h1 hw hno hp1 hp2 hA e2
        go_wp2_with fail
        go_roundg (gk - 1)
        case measure => omega
        case rel => exact ⟨bk S p, Lib.hid HU.out.symm, HN, by omega, H1, rfl⟩

/-! Links. -/
theorem ptr_info : (Try.prog.info? 35).map (fun i => (i.zero, i.size, i.bytes)) = some (some (.pointer none), 1, 8) := by kernel_rfl
theorem ptrs54 : ElemT Try.prog 54 35 1 8 := by
  refine ⟨Try.underlying54, ?_⟩
  have h := ptr_info
  cases hi : Try.prog.info? 35 with
  | none => rw [hi] at h; simp at h
  | some i =>
    rw [hi] at h
    simp at h
    exact ⟨i, _, rfl, h.1, h.2.1, h.2.2, rfl⟩
/-- Nodes, as a list of pointers. -/
def lv (A : Adr) (L : List Wd) : List Value := L.map fun p => ptr (at_ A p)
theorem lv_len (A : Adr) (L : List Wd) : (lv A L).length = L.length := by simp [lv]
theorem lv_one (A : Adr) (L : List Wd) : ∀ u ∈ lv A L, u.oneCell' = true := by
  intro u hu
  simp only [lv, List.mem_map] at hu
  obtain ⟨x, _, rfl⟩ := hu
  rfl
theorem lv_append (A : Adr) (L M : List Wd) : lv A (L ++ M) = lv A L ++ lv A M := by simp [lv]
theorem rd_new (w : World) (v : Value) (e : TypeId) : Rd (w.alloc (.cells #[v] e)) 1 (some ⟨w.heap.size, 0, none⟩) 1 1 [v] := (Own.made (B := w.heap.size) w #[v] e 1 (Nat.le_refl _) (by unfold maxLen; omega) rfl).rd
theorem own_cell {e : TypeId} {a : Option Addr} {n k : Nat} {xs : List Value} (h : Own w B e 1 a n k xs) {i : Nat} {v : Value} (hv : xs[i]? = some v) : ∃ gT, a = some ⟨gT, 0, none⟩ ∧ w.cell? ⟨gT, i, none⟩ = some v := by
  obtain ⟨hl, ⟨rfl, rfl, _⟩ | ⟨gT, cur, rfl, _⟩⟩ := h.form
  · have := (List.getElem?_eq_some_iff.1 hv).1
    omega
  · refine ⟨gT, rfl, ?_⟩
    have := h.row.cells (g := gT) rfl i v hv
    rw [Go.WideShapes.add_plain, Nat.zero_add] at this
    exact this
/-- A list's block is no map, no node. -/
theorem own_map {e : TypeId} {a : Option Addr} {n k b c : Nat} {xs : List Value} {f : Int → Option Nat} (h : Own w B e 1 a n k xs) (hm : MapN w b c f) : ob a ≠ some b := by
  obtain ⟨D, ⟨es, clock, hb, _⟩, _⟩ := hm
  obtain ⟨_, ⟨rfl, _⟩ | ⟨g, cur, rfl, _, hh, _⟩⟩ := h.form
  · simp [ob]
  · intro e
    have : g = b := by simpa [ob] using e
    subst this
    rw [hh] at hb
    cases hb
theorem blk_map {g b c : Nat} {t : TypeId} {cs : Array Value} {f : Int → Option Nat} (h : Blk w g t cs) (hm : MapN w b c f) : g ≠ b := by
  obtain ⟨D, ⟨es, clock, hb, _⟩, _⟩ := hm
  intro e
  subst e
  unfold Blk at h
  rw [h] at hb
  cases hb
/-- Lists turn no tree. -/
theorem tr_list {e : TypeId} {a : Option Addr} {n k : Nat} {xs : List Value} {B' : Nat} (h : Tr w B A en bw c) (ho : Own w B' e 1 a n k xs) (he : e ≠ 51) (hc : Chg (fun i => ob a = some i) w w') : Tr w' B A en bw c :=
  h.chg hc (fun p g m hp => ⟨fun e' => ho.ne (h.node p g m hp) he e', fun e' => own_map ho (h.map p g m hp) e'⟩)
theorem set_grown (w : World) (g j : Nat) (u : Value) : w.grownBy (w.setCell ⟨g, j, none⟩ u) (some g) :=
  ⟨rfl, rfl, rfl, by simp, fun k _ hk => heap_setCell_other w ⟨g, j, none⟩ k u (fun e => hk (by simp [e]))⟩

/-- What is linked when j nodes of a level are through, and of the next one those keys that are not left. -/
structure Mid (S : List Wd) (A : Adr) (d : Nat) (Lv : List Wd) (j : Nat) (Bl : List Wd) (bw : Wd → Option Wd) : Prop where
  deep : ∀ p ∈ Bl, A p ≠ none ∧ p.length = d + 1
  done : ∀ i p t, i < j → Lv[i]? = some p → A (p ++ [t]) ≠ none → p ++ [t] ∈ Bl ∧ bw (p ++ [t]) = bk S (p ++ [t])
  low : ∀ p, A p ≠ none → p.length ≤ d → bw p = bk S p
theorem Mid.start {S : List Wd} {A : Adr} {d : Nat} {Lv : List Wd} {bw : Wd → Option Wd} (h : ∀ p, A p ≠ none → p.length ≤ d → bw p = bk S p) : Mid S A d Lv 0 [] bw :=
  ⟨fun p hp => by simp at hp, fun i p t hi => by omega, h⟩
/-- One child more. -/
theorem Mid.one {S : List Wd} {A : Adr} {d : Nat} {Lv : List Wd} {j : Nat} {Bl : List Wd} {bw : Wd → Option Wd} (h : Mid S A d Lv j Bl bw) {p : Wd} {t : Int} (hp : p.length = d) (hA : A (p ++ [t]) ≠ none) :
    Mid S A d Lv j (Bl ++ [p ++ [t]]) (fun q => if q = p ++ [t] then bk S (p ++ [t]) else bw q) := by
  refine ⟨fun q hq => ?_, fun i q x hi hq hx => ?_, fun q hq hl => ?_⟩
  · rcases List.mem_append.1 hq with hq | hq
    · exact h.deep q hq
    · simp at hq
      subst hq
      exact ⟨hA, by simp [hp]⟩
  · obtain ⟨h1, h2⟩ := h.done i q x hi hq hx
    refine ⟨List.mem_append.2 (.inl h1), ?_⟩
    show (if q ++ [x] = p ++ [t] then _ else _) = _
    by_cases e : q ++ [x] = p ++ [t]
    · rw [if_pos e, e]
    · rw [if_neg e]; exact h2
  · show (if q = p ++ [t] then _ else _) = _
    rw [if_neg (fun e => by rw [e] at hl; simp at hl; omega)]
    exact h.low q hq hl
end
end Go.Proofs.Ytcjhlkndcgldjaa.StK
