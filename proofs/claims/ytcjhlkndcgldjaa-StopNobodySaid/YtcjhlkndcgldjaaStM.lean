/-
  A map of whole numbers to pointers that the call made; a tree of beginnings in memory.
-/
import Derived.Test.YtcjhlkndcgldjaaProg
import Derived.Test.YtcjhlkndcgldjaaLists
import Derived.Test.YtcjhlkndcgldjaaStP
import Derived.Maps.Own
import Derived.Maps.Views
import Derived.Maps.OwnSet
import Derived.Maps.RangeWalk
import Derived.Deep.QuietTactic
import Derived.BigQuiet
import Derived.Deep.DeepCutAuto
import Derived.Deep.CutBlock
import Derived.Deep.RegionHeld3
import Derived.Deep.RegionLaw
import Derived.Deep.LoopGhost
import Derived.Deep.DrawnRows
import Derived.Outline
import Derived.KernelRfl
import Derived.IntWalk
import Derived.Lib.LazyBuf
namespace Go.Proofs.Ytcjhlkndcgldjaa.StM
open Go.RowKit Go.Proofs.Ytcjhlkndcgldjaa.Kit Go.Proofs.Ytcjhlkndcgldjaa.StP
set_option linter.unusedVariables false

/-- A pointer to a block's head, or nil, as a datum. -/
def code (f : Option Nat) : Int := match f with
  | some g => (g : Int)
  | none => -1
theorem code_inj {f g : Option Nat} (h : code f = code g) : f = g := by
  cases f <;> cases g <;> simp [code] at h ⊢ <;> omega
def ptr (f : Option Nat) : Value := .pointer (f.map fun g => ⟨g, 0, none⟩)
def pR (v : Value) : Option (DataW Unit × List MemPlace) := match v with
  | .pointer none => some (.lit (.int .i64 (-1)), [])
  | .pointer (some ⟨g, 0, none⟩) => some (.lit (.int .i64 (g : Int)), [])
  | _ => none
theorem pR_ptr (f : Option Nat) : pR (ptr f) = some (.lit (.int .i64 (code f)), []) := by
  cases f <;> rfl
theorem pR_inv {v : Value} {y : DataW Unit × List MemPlace} (h : pR v = some y) : ∃ f, v = ptr f ∧ y = (.lit (.int .i64 (code f)), []) := by
  unfold pR at h
  split at h
  · injection h with h
    exact ⟨none, rfl, h.symm⟩
  · rename_i g
    injection h with h
    exact ⟨some g, rfl, h.symm⟩
  · cases h

def okT (x : Int) : Prop := (Lit.int .i64 x).wf = true
/-- Block b is a map of at most n entries that has the keys for which f tells something, and tells it. -/
def MapN (w : World) (b n : Nat) (f : Int → Option Nat) : Prop :=
  ∃ D : DataW Unit, w.ownsMap Try.prog 3 pR b n D ∧ Maps.IsMap D ∧ (∀ x, okT x → D.atKey (.int .i64 x) (.lit (.int .i64 (-1))) = .lit (.int .i64 (code (f x)))) ∧ ∀ x, okT x → Maps.has D (.int .i64 x) = (f x).isSome

section
variable {w w' : World} {b n : Nat} {f : Int → Option Nat}
theorem key3 : Maps.Keyed Try.prog 3 := Maps.int_keyed Try.underlying3
theorem MapN.made (w : World) : MapN (w.alloc (.map #[] 0)) w.heap.size 0 (fun _ => none) := ⟨.map [], World.ownsMap_made w _ _ _, Maps.isMap_empty, fun x _ => rfl, fun x _ => rfl⟩
theorem MapN.lt (h : MapN w b n f) : b < w.heap.size := by obtain ⟨D, h, _⟩ := h; exact h.lt
theorem MapN.chg {T : Nat → Prop} (h : MapN w b n f) (hc : Chg T w w') (hb : ¬ T b) : MapN w' b n f := by
  have hlt := h.lt
  obtain ⟨D, ⟨es, clock, hbl, F, hs, hD⟩, hv⟩ := h
  exact ⟨D, ⟨es, clock, (hc.block b hlt hb).trans hbl, F, hs, hD⟩, hv⟩
theorem MapN.mono {m : Nat} (h : MapN w b n f) (hm : n ≤ m) : MapN w b m f := by obtain ⟨D, h, hv⟩ := h; exact ⟨D, h.mono hm, hv⟩
theorem MapN.congr {f' : Int → Option Nat} (h : MapN w b n f) (hf : ∀ x, okT x → f' x = f x) : MapN w b n f' := by
  obtain ⟨D, h, hm, h1, h2⟩ := h
  exact ⟨D, h, hm, fun x hx => by rw [hf x hx]; exact h1 x hx, fun x hx => by rw [hf x hx]; exact h2 x hx⟩
theorem MapN.look (h : MapN w b n f) {x : Int} (hx : okT x) : (Instr.lookup 49 (.map (some b)) (.int .i64 x) false).run Try.prog w = .ok (ptr (f x)) w := by
  obtain ⟨D, h, hm, hv, _⟩ := h
  obtain ⟨v, ps, hrun, hr⟩ := h.lookup (t := 49) (e := 35) (z := .pointer none) (zd := .lit (.int .i64 (-1))) (zp := []) key3 Try.underlying49 (by simp [go_sem]) rfl (Maps.keyOf_int_mk Try.underlying3 hx)
  rw [hv x hx] at hr
  obtain ⟨g, rfl, hg⟩ := pR_inv hr
  simp only [Prod.mk.injEq, DataW.lit.injEq, Lit.int.injEq, true_and] at hg
  rw [code_inj hg.1]
  exact hrun
theorem MapN.store (h : MapN w b n f) {x : Int} (hx : okT x) (hn : n < maxLen) (g : Nat) :
    ∃ w', (Instr.mapUpdate 49 (.map (some b)) (.int .i64 x) (ptr (some g))).run Try.prog w = .ok () w' ∧ MapN w' b (n + 1) (fun m => if x = m then some g else f m) ∧ Chg (fun k => k = b) w w' := by
  obtain ⟨D, h, hm, hv, hh⟩ := h
  obtain ⟨w', h1, h2, h3⟩ := h.update (t := 49) (e := 35) key3 Try.underlying49 hn (Maps.keyOf_int_mk Try.underlying3 hx) (pR_ptr (some g))
  refine ⟨w', h1, ⟨_, h2, hm.put _ _, fun y hy => ?_, fun y hy => ?_⟩, Chg.of_grown h3 (fun k hk => by injection hk with hk; exact .inl hk.symm)⟩
  · by_cases hxy : x = y
    · subst hxy
      show _ = DataW.lit (.int .i64 (code (if x = x then some g else f x)))
      rw [if_pos rfl]
      exact Maps.atKey_put_same (k := .int .i64 x) hm trivial _ _
    · show _ = DataW.lit (.int .i64 (code (if x = y then some g else f y)))
      rw [if_neg hxy, Maps.atKey_put_other (by intro h; injection h with _ h; exact hxy h.symm)]
      exact hv y hy
  · by_cases hxy : x = y
    · subst hxy
      show _ = (if x = x then some g else f x).isSome
      rw [if_pos rfl]
      exact Maps.has_put_same (k := .int .i64 x) hm trivial _
    · show _ = (if x = y then some g else f y).isSome
      rw [if_neg hxy, Maps.has_put_other (by intro h; injection h with _ h; exact hxy h.symm)]
      exact hh y hy
/-- How many entries: some just if it tells something somewhere; with the map's datum. -/
theorem lenD (h : MapN w b n f) : ∃ D : DataW Unit, w.ownsMap Try.prog 3 pR b n D ∧ (0 < Maps.size D ↔ ∃ x, okT x ∧ f x ≠ none) ∧ Maps.size D ≤ n := by
  obtain ⟨D, h, hm, hv, hh⟩ := h
  refine ⟨D, h, ?_, h.size_le⟩
  obtain ⟨es, clock, hb, F, hs, hD⟩ := h
  constructor
  · intro hk
    obtain ⟨es', hD'⟩ := hm
    subst hD'
    rw [Maps.size_eq] at hk
    obtain ⟨p, hp⟩ : ∃ p, p ∈ es' := ⟨es'[0], List.getElem_mem hk⟩
    injection hD with hD
    rw [hD, mem_sorted, List.mem_map] at hp
    obtain ⟨e, he, rfl⟩ := hp
    obtain ⟨y, hy⟩ := F.reads e he
    obtain ⟨x, _, hx, hw⟩ := Maps.keyOf_int_inv Try.underlying3 (WideElems.rd_key hy)
    refine ⟨x, hw, fun h0 => ?_⟩
    have := hh x hw
    rw [h0, Maps.has_eq] at this
    have h2 : es'.any (fun p => p.1.sameKey (.int .i64 x)) = true := List.any_eq_true.2 ⟨WideElems.rg Try.prog 3 pR e, by rw [hD, mem_sorted, List.mem_map]; exact ⟨e, he, rfl⟩, by rw [WideElems.rg_of hy, hx]; simp [Lit.sameKey]⟩
    rw [h2] at this
    cases this
  · rintro ⟨x, hx, hf⟩
    have := hh x hx
    obtain ⟨es', rfl⟩ := hm
    rw [Maps.has_eq] at this
    rcases hf2 : f x with _ | g
    · exact absurd hf2 hf
    · rw [hf2] at this
      obtain ⟨p, hp, _⟩ := List.any_eq_true.1 this
      exact List.length_pos_of_mem hp
end

/-! A tree of beginnings. -/
/-- Where a beginning's node lies, and its map. -/
abbrev Adr := Wd → Option (Nat × Nat)
def at_ (A : Adr) (p : Wd) : Option Nat := (A p).map (·.1)
def atO (A : Adr) (q : Option Wd) : Option Nat := q.bind (at_ A)
def kids (A : Adr) (p : Wd) (t : Int) : Option Nat := at_ A (p ++ [t])
/-- A node's cells. -/
def nc (p : Wd) (e : Int) (m : Nat) (b : Option Nat) : Array Value := #[.int .i64 (p.length : Int), .int .i64 e, .map (some m), ptr b]
structure Tr (w : World) (B : Nat) (A : Adr) (en : Wd → Int) (bw : Wd → Option Wd) (c : Nat) : Prop where
  node : ∀ p g m, A p = some (g, m) → Blk w g 51 (nc p (en p) m (atO A (bw p)))
  map : ∀ p g m, A p = some (g, m) → MapN w m c (kids A p)
  base : ∀ p g m, A p = some (g, m) → B ≤ g ∧ B ≤ m
  inj : ∀ p q g m g' m', A p = some (g, m) → A q = some (g', m') → p ≠ q → g ≠ g' ∧ m ≠ m'
  up : ∀ p t, A (p ++ [t]) ≠ none → A p ≠ none
  wf : ∀ p t, A (p ++ [t]) ≠ none → okT t
  root : A [] ≠ none

section
variable {w w' : World} {B c : Nat} {A : Adr} {en : Wd → Int} {bw : Wd → Option Wd}
theorem Tr.get (h : Tr w B A en bw c) {p : Wd} (hp : A p ≠ none) : ∃ g m, A p = some (g, m) := by
  cases hA : A p with
  | none => exact absurd hA hp
  | some x => exact ⟨x.1, x.2, rfl⟩
theorem at_some {p : Wd} {g m : Nat} (h : A p = some (g, m)) : at_ A p = some g := by simp [at_, h]
theorem Tr.up' (h : Tr w B A en bw c) {p q : Wd} (hp : A (p ++ q) ≠ none) : A p ≠ none := by
  obtain ⟨n, hn⟩ : ∃ n, q.length = n := ⟨_, rfl⟩
  induction n generalizing q with
  | zero =>
    obtain rfl := List.eq_nil_of_length_eq_zero hn
    simpa using hp
  | succ n ih =>
    rcases List.eq_nil_or_concat q with rfl | ⟨r, t, rfl⟩
    · simp at hn
    · rw [List.concat_eq_append] at hp hn
      exact ih (h.up (p ++ r) t (by rw [List.append_assoc]; exact hp)) (by simp at hn; exact hn)
/-- Other blocks may turn. -/
theorem Tr.chg {T : Nat → Prop} (h : Tr w B A en bw c) (hc : Chg T w w') (hg : ∀ p g m, A p = some (g, m) → ¬ T g ∧ ¬ T m) : Tr w' B A en bw c :=
  ⟨fun p g m hp => hc.blk (h.node p g m hp) (hg p g m hp).1, fun p g m hp => (h.map p g m hp).chg hc (hg p g m hp).2, h.base, h.inj, h.up, h.wf, h.root⟩
theorem Tr.below (h : Tr w B A en bw c) (hb : Below w.heap.size w w') : Tr w' B A en bw c :=
  h.chg (T := fun _ => False) ⟨hb.os, hb.tape, hb.output, hb.size, fun i hi _ => hb.block i hi⟩ (fun _ _ _ _ => ⟨id, id⟩)
theorem Tr.chg0 (h : Tr w B A en bw c) (hc : Chg (fun _ => False) w w') : Tr w' B A en bw c := h.chg hc (fun _ _ _ _ => ⟨id, id⟩)
theorem Tr.mono {d : Nat} (h : Tr w B A en bw c) (hd : c ≤ d) : Tr w B A en bw d := ⟨h.node, fun p g m hp => (h.map p g m hp).mono hd, h.base, h.inj, h.up, h.wf, h.root⟩
/-- A node is no map. -/
theorem Tr.ne (h : Tr w B A en bw c) {p q : Wd} {g m g' m' : Nat} (hp : A p = some (g, m)) (hq : A q = some (g', m')) : g ≠ m' := by
  intro e
  have h1 := h.node p g m hp
  obtain ⟨D, ⟨es, clock, hb, _⟩, _⟩ := h.map q g' m' hq
  rw [← e] at hb
  unfold Blk at h1
  rw [h1] at hb
  cases hb
/-- One node's own cells turn. -/
theorem Tr.turn (h : Tr w B A en bw c) {p : Wd} {g m : Nat} (hp : A p = some (g, m)) (hc : Chg (fun i => i = g) w w') {e : Int} {b : Option Wd} (hb : Blk w' g 51 (nc p e m (atO A b))) :
    Tr w' B A (fun q => if q = p then e else en q) (fun q => if q = p then b else bw q) c := by
  refine ⟨fun q g' m' hq => ?_, fun q g' m' hq => (h.map q g' m' hq).chg hc (fun e => h.ne hp hq e.symm), h.base, h.inj, h.up, h.wf, h.root⟩
  by_cases hqp : q = p
  · subst hqp
    rw [hp] at hq
    injection hq with hq
    injection hq with h1 h2
    subst h1
    subst h2
    show Blk w' g 51 (nc q (if q = q then e else en q) m (atO A (if q = q then b else bw q)))
    rw [if_pos rfl, if_pos rfl]
    exact hb
  · show Blk w' g' 51 (nc q (if q = p then e else en q) m' (atO A (if q = p then b else bw q)))
    rw [if_neg hqp, if_neg hqp]
    exact hc.blk (h.node q g' m' hq) (fun e => (h.inj q p g' m' g m hq hp hqp).1 e)
theorem Tr.en_congr {en' : Wd → Int} (h : Tr w B A en bw c) (he : ∀ p, en' p = en p) : Tr w B A en' bw c := by
  have : en' = en := funext he
  rw [this]
  exact h
theorem Tr.bw_congr {bw' : Wd → Option Wd} (h : Tr w B A en bw c) (he : ∀ p, bw' p = bw p) : Tr w B A en bw' c := by
  have : bw' = bw := funext he
  rw [this]
  exact h
/-- With one node more. -/
def more (A : Adr) (q : Wd) (x : Nat × Nat) : Adr := fun p => if p = q then some x else A p
theorem more_same (A : Adr) (q : Wd) (x : Nat × Nat) : more A q x q = some x := if_pos rfl
theorem more_else (A : Adr) {p q : Wd} (x : Nat × Nat) (h : p ≠ q) : more A q x p = A p := if_neg h
theorem snoc_ne (p : Wd) (t : Int) : p ≠ p ++ [t] := fun h => by
  have := congrArg List.length h
  simp at this
/-- A new node below p. -/
theorem Tr.more (h : Tr w B A en (fun _ => none) c) {p : Wd} {g m : Nat} (hp : A p = some (g, m)) {t : Int} (ht : okT t) (hno : A (p ++ [t]) = none) {g' m' : Nat} (hen : en (p ++ [t]) = -1)
    {T : Nat → Prop} (hc : Chg T w w') (hT : ∀ q g m, A q = some (g, m) → ¬ T g) (hT2 : ∀ q g m, A q = some (g, m) → q ≠ p → ¬ T m)
    (hn : Blk w' g' 51 (nc (p ++ [t]) (-1) m' none)) (hm : MapN w' m' (c + 1) (fun _ => none)) (hpm : MapN w' m (c + 1) (fun x => if t = x then some g' else kids A p x))
    (hB : B ≤ g' ∧ B ≤ m') (hnew : ∀ q g m, A q = some (g, m) → g ≠ g' ∧ m ≠ m') : Tr w' B (more A (p ++ [t]) (g', m')) en (fun _ => none) (c + 1) := by
  have key : ∀ q, A q ≠ none → q ≠ p ++ [t] := fun q hq e => hq (by rw [e]; exact hno)
  have kids_else : ∀ q, q ≠ p → kids (StM.more A (p ++ [t]) (g', m')) q = kids A q := fun q hq => by
    funext x
    unfold kids at_
    rw [more_else A (p := q ++ [x]) (q := p ++ [t]) _ (fun e => hq (List.append_inj' e rfl).1)]
  refine ⟨fun q g2 m2 hq => ?_, fun q g2 m2 hq => ?_, fun q g2 m2 hq => ?_, fun q r g2 m2 g3 m3 hq hr hne => ?_, fun q x hq => ?_, fun q x hq => ?_, ?_⟩
  · by_cases hqt : q = p ++ [t]
    · subst hqt
      rw [more_same] at hq
      injection hq with hq
      injection hq with h1 h2
      subst h1
      subst h2
      rw [hen]
      exact hn
    · rw [more_else A _ hqt] at hq
      exact hc.blk (h.node q g2 m2 hq) (hT q g2 m2 hq)
  · by_cases hqt : q = p ++ [t]
    · subst hqt
      rw [more_same] at hq
      injection hq with hq
      injection hq with h1 h2
      subst h1
      subst h2
      refine hm.congr (fun x _ => ?_)
      rw [kids_else _ (fun e => snoc_ne p t e.symm)]
      have : A (p ++ [t] ++ [x]) = none := by
        cases hA : A (p ++ [t] ++ [x]) with
        | none => rfl
        | some y => exact absurd hno (h.up _ x (by rw [hA]; simp))
      show at_ A (p ++ [t] ++ [x]) = none
      unfold at_
      rw [this]
      rfl
    · rw [more_else A _ hqt] at hq
      by_cases hqp : q = p
      · subst hqp
        rw [hp] at hq
        injection hq with hq
        injection hq with h1 h2
        subst h1
        subst h2
        refine hpm.congr (fun x _ => ?_)
        unfold kids at_
        by_cases hx : t = x
        · subst hx
          rw [if_pos rfl, more_same]
          rfl
        · rw [if_neg hx, more_else A _ (fun e => hx (by have := (List.append_inj' e rfl).2; injection this with this; exact this.symm))]
      · rw [kids_else q hqp]
        exact ((h.map q g2 m2 hq).chg hc (hT2 q g2 m2 hq hqp)).mono (Nat.le_succ c)
  · by_cases hqt : q = p ++ [t]
    · subst hqt
      rw [more_same] at hq
      injection hq with hq
      injection hq with h1 h2
      subst h1
      subst h2
      exact hB
    · rw [more_else A _ hqt] at hq
      exact h.base q g2 m2 hq
  · by_cases hqt : q = p ++ [t]
    · subst hqt
      rw [more_same] at hq
      injection hq with hq
      injection hq with h1 h2
      subst h1
      subst h2
      rw [more_else A _ (fun e => hne e.symm)] at hr
      have := hnew r g3 m3 hr
      exact ⟨fun e => this.1 e.symm, fun e => this.2 e.symm⟩
    · rw [more_else A _ hqt] at hq
      by_cases hrt : r = p ++ [t]
      · subst hrt
        rw [more_same] at hr
        injection hr with hr
        injection hr with h1 h2
        subst h1
        subst h2
        exact hnew q g2 m2 hq
      · rw [more_else A _ hrt] at hr
        exact h.inj q r g2 m2 g3 m3 hq hr hne
  · by_cases hqt : q = p ++ [t]
    · subst hqt
      rw [more_same]
      simp
    · rw [more_else A _ hqt]
      by_cases hxt : q ++ [x] = p ++ [t]
      · obtain ⟨rfl, _⟩ := List.append_inj' hxt rfl
        rw [hp]
        simp
      · rw [more_else A _ hxt] at hq
        exact h.up q x hq
  · by_cases hxt : q ++ [x] = p ++ [t]
    · have := (List.append_inj' hxt rfl).2
      injection this with this
      rw [this]
      exact ht
    · rw [more_else A _ hxt] at hq
      exact h.wf q x hq
  · rw [more_else A _ (by simp)]
    exact h.root
end
end Go.Proofs.Ytcjhlkndcgldjaa.StM
