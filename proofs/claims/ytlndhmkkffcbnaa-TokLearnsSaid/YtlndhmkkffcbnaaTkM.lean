/-
  Pairs of whole numbers: as values, as a map's keys; a map of pairs to whole numbers that the call made.
-/
import Derived.Test.YtlndhmkkffcbnaaProg
import Derived.Test.YtlndhmkkffcbnaaLists
import Derived.DeepKeys4
import Derived.MapViews
import Derived.Maps.Own
import Derived.Maps.Views
import Derived.Maps.OwnSet
import Derived.Maps.RangeWalk
import Derived.Deep.QuietTactic
import Derived.BigQuiet
import Derived.Deep.DeepCutAuto
import Derived.Deep.CutBlock
import Derived.Deep.RegionHeld3
import Derived.Deep.RegionLaw
import Derived.Deep.LoopGhost
import Derived.Deep.DrawnRows
import Derived.Outline
import Derived.KernelRfl
import Derived.IntWalk
import Derived.Lib.LazyBuf
namespace Go.Proofs.Ytlndhmkkffcbnaa.TkM
open Go.RowKit Go.Proofs.Ytlndhmkkffcbnaa.Kit
set_option linter.unusedVariables false

abbrev Pr := Int × Int
def okT (x : Int) : Prop := (Lit.int .i64 x).wf = true
theorem okT_iff (x : Int) : okT x ↔ -9223372036854775808 ≤ x ∧ x ≤ 9223372036854775807 := by
  unfold okT
  simp [Lit.wf, IntKind.min, IntKind.max, IntKind.signed, IntKind.bits]
def okP (p : Pr) : Prop := okT p.1 ∧ okT p.2
def pv (p : Pr) : Value := .agg #[.int .i64 p.1, .int .i64 p.2]
theorem pv_inj {p q : Pr} (h : pv p = pv q) : p = q := by
  unfold pv at h
  injection h with h
  have h1 := congrArg (fun a => a[0]?) h
  have h2 := congrArg (fun a => a[1]?) h
  simp at h1 h2
  exact Prod.ext h1 h2
theorem key54 : Maps.Keyed Try.prog 54 := Maps.Keyed.of_law (deep_law_laid (by kernel_rfl : laidOutB Try.prog = true) (m := 2) (by omega) (of_decide_eq_true (by kernel_rfl)) (by kernel_rfl) (by rw [Try.underlying54]))
theorem cells54 : Try.prog.cellsOf 54 = 2 := by kernel_rfl
theorem formed54 (p : Pr) : (pv p).formed Try.prog 54 = true := by simp [pv, Value.formed, Try.underlying54, cells54]
theorem wide54 : (match Try.prog.underlying 54 with | some (.array _ _) | some (.struct _) => true | _ => false) = true := by rw [Try.underlying54]
theorem keyAt54 : Try.prog.keyTypeAt (Try.prog.types.size + 1) 54 = true := by kernel_rfl
theorem trod54 {p : Pr} (h : okP p) : DataW.Trod (fun _ => ()) Try.prog default 0 (fun _ => true) true 54 (pv p) (.agg [.lit (.int .i64 p.1), .lit (.int .i64 p.2)]) [] :=
  ⟨2, by
    obtain ⟨ha, hb⟩ := h
    unfold okT at ha hb
    have c3 : Try.prog.cellsOf 3 = 1 := by kernel_rfl
    show DataW.trod _ Try.prog default 0 (fun _ => true) true (1 + 1) 54 [.int .i64 p.1, .int .i64 p.2] = _
    rw [DataW.trod_step]
    unfold DataW.trodStep
    simp only [Try.underlying54]
    rw [if_pos (by rw [cells54]; rfl)]
    simp [c3, DataW.trod, Try.underlying3, ha, hb]⟩
/-- A pair as a key. -/
def K (p : Pr) : Lit := (DataW.agg [.lit (.int .i64 p.1), .lit (.int .i64 p.2)] : DataW Unit).asKey
theorem K_some {p : Pr} (h : okP p) : keyOf Try.prog 54 (pv p) = some (K p) := (keyOf_asKey keyAt54 wide54 (formed54 p) (trod54 h)).1
theorem K_inj {p q : Pr} (hp : okP p) (hq : okP q) (h : K p = K q) : p = q := by
  have h1 := K_some hp
  rw [h] at h1
  exact pv_inj (key54.inj h1 (K_some hq))

/-- A whole number as a map's element. -/
def iR (v : Value) : Option (DataW Unit × List MemPlace) := match v with
  | .int .i64 x => some (.lit (.int .i64 x), [])
  | _ => none
theorem iR_inv {v : Value} {y : DataW Unit × List MemPlace} (h : iR v = some y) : ∃ x, v = .int .i64 x ∧ y = (.lit (.int .i64 x), []) := by
  unfold iR at h
  split at h
  · rename_i x
    injection h with h
    exact ⟨x, rfl, h.symm⟩
  · cases h
/-- Block b is a map of at most n entries that tells f of each pair. -/
def MapP (w : World) (b n : Nat) (f : Pr → Int) : Prop :=
  ∃ D : DataW Unit, w.ownsMap Try.prog 54 iR b n D ∧ Maps.IsMap D ∧ ∀ p, okP p → D.atKey (K p) (.lit (.int .i64 0)) = .lit (.int .i64 (f p))
section
variable {w w' : World} {b n : Nat} {f : Pr → Int}
theorem MapP.made (w : World) : MapP (w.alloc (.map #[] 0)) w.heap.size 0 (fun _ => 0) := ⟨.map [], World.ownsMap_made w _ _ _, Maps.isMap_empty, fun x _ => rfl⟩
theorem MapP.lt (h : MapP w b n f) : b < w.heap.size := by obtain ⟨D, h, _⟩ := h; exact h.lt
theorem MapP.at_ (h : MapP w b n f) : ∃ es k, w.heap[b]? = some (.map es k) := by
  obtain ⟨D, ⟨es, clock, hbl, _⟩, _⟩ := h
  exact ⟨es, clock, hbl⟩
theorem MapP.chg {T : Nat → Prop} (h : MapP w b n f) (hc : Chg T w w') (hb : ¬ T b) : MapP w' b n f := by
  have hlt := h.lt
  obtain ⟨D, ⟨es, clock, hbl, F, hs, hD⟩, hv⟩ := h
  exact ⟨D, ⟨es, clock, (hc.block b hlt hb).trans hbl, F, hs, hD⟩, hv⟩
theorem MapP.mono {m : Nat} (h : MapP w b n f) (hm : n ≤ m) : MapP w b m f := by obtain ⟨D, h, hv⟩ := h; exact ⟨D, h.mono hm, hv⟩
theorem MapP.congr {f' : Pr → Int} (h : MapP w b n f) (hf : ∀ x, okP x → f' x = f x) : MapP w b n f' := by
  obtain ⟨D, h, hm, h1⟩ := h
  exact ⟨D, h, hm, fun x hx => by rw [hf x hx]; exact h1 x hx⟩
theorem MapP.look (h : MapP w b n f) {p : Pr} (hp : okP p) : (Instr.lookup 61 (.map (some b)) (pv p) false).run Try.prog w = .ok (.int .i64 (f p)) w := by
  obtain ⟨D, h, hm, hv⟩ := h
  obtain ⟨v, ps, hrun, hr⟩ := h.lookup (t := 61) (e := 3) (z := .int .i64 0) (zd := .lit (.int .i64 0)) (zp := []) key54 Try.underlying61 (by simp [go_sem]) rfl (K_some hp)
  rw [hv p hp] at hr
  obtain ⟨g, rfl, hg⟩ := iR_inv hr
  simp only [Prod.mk.injEq, DataW.lit.injEq, Lit.int.injEq, true_and] at hg
  rw [hg.1]
  exact hrun
theorem K_key {p : Pr} (hp : okP p) : WideAt.IsKeyLit (K p) := key54.key (K_some hp)
theorem MapP.store (h : MapP w b n f) {p : Pr} (hp : okP p) (hn : n < maxLen) (x : Int) :
    ∃ w', (Instr.mapUpdate 61 (.map (some b)) (pv p) (.int .i64 x)).run Try.prog w = .ok () w' ∧ MapP w' b (n + 1) (fun m => if p = m then x else f m) ∧ Chg (fun k => k = b) w w' := by
  obtain ⟨D, h, hm, hv⟩ := h
  obtain ⟨w', h1, h2, h3⟩ := h.update (t := 61) (e := 3) key54 Try.underlying61 hn (K_some hp) (show iR (.int .i64 x) = some (.lit (.int .i64 x), []) from rfl)
  refine ⟨w', h1, ⟨_, h2, hm.put _ _, fun y hy => ?_⟩, Chg.of_grown h3 (fun k hk => by injection hk with hk; exact .inl hk.symm)⟩
  by_cases hxy : p = y
  · subst hxy
    show _ = DataW.lit (.int .i64 (if p = p then x else f p))
    rw [if_pos rfl]
    exact Maps.atKey_put_same hm (K_key hp) _ _
  · show _ = DataW.lit (.int .i64 (if p = y then x else f y))
    rw [if_neg hxy, Maps.atKey_put_other (fun h => hxy (K_inj hy hp h).symm)]
    exact hv y hy
end

/-- Pairs' cells. -/
def prs (L : List Pr) : List Value := (L.map fun p => [Value.int .i64 p.1, Value.int .i64 p.2]).flatten
theorem prs_nil : prs [] = [] := rfl
theorem prs_cons (p : Pr) (L : List Pr) : prs (p :: L) = [Value.int .i64 p.1, Value.int .i64 p.2] ++ prs L := rfl
theorem prs_append (L M : List Pr) : prs (L ++ M) = prs L ++ prs M := by simp [prs]
theorem prs_len : ∀ L : List Pr, (prs L).length = L.length * 2
  | [] => rfl
  | p :: L => by rw [prs_cons, List.length_append, prs_len L]; simp; omega
theorem prs_get : ∀ {L : List Pr} {k : Nat} {p : Pr}, L[k]? = some p → (prs L)[k * 2]? = some (.int .i64 p.1) ∧ (prs L)[k * 2 + 1]? = some (.int .i64 p.2)
  | [], k, p, h => by simp at h
  | q :: L, 0, p, h => by
    simp at h
    subst h
    exact ⟨rfl, rfl⟩
  | q :: L, k + 1, p, h => by
    simp at h
    obtain ⟨h1, h2⟩ := prs_get (L := L) h
    rw [prs_cons, show (k + 1) * 2 = 2 + k * 2 by omega, show 2 + k * 2 + 1 = 2 + (k * 2 + 1) by omega]
    constructor
    · rw [List.getElem?_append_right (by simp)]
      simpa using h1
    · rw [List.getElem?_append_right (by simp)]
      simpa using h2
theorem prs_one (L : List Pr) : ∀ u ∈ prs L, u.oneCell' = true := by
  intro u hu
  simp only [prs, List.mem_flatten, List.mem_map] at hu
  obtain ⟨l, ⟨p, _, rfl⟩, hu⟩ := hu
  simp at hu
  rcases hu with rfl | rfl <;> rfl
/-- A pair of a slice that reads. -/
theorem rd_pair {w : World} {a : Option Addr} {n c : Nat} {L : List Pr} (h : Rd w 2 a n c (prs L)) {k : Nat} (hk : k < n) :
    ∃ b off p, a = some ⟨b, off, none⟩ ∧ L[k]? = some p ∧ w.cell? ⟨b, off + k * 2, none⟩ = some (.int .i64 p.1) ∧ w.cell? ⟨b, off + k * 2 + 1, none⟩ = some (.int .i64 p.2) := by
  obtain ⟨b, off, rfl, hcell⟩ := h.at_ (by omega)
  have hl : L.length = n := by
    have := h.len
    rw [prs_len] at this
    omega
  have hkl : k < L.length := by omega
  obtain ⟨h1, h2⟩ := prs_get (List.getElem?_eq_getElem hkl)
  exact ⟨b, off, L[k], rfl, List.getElem?_eq_getElem hkl, hcell _ _ h1, by rw [Nat.add_assoc]; exact hcell _ _ h2⟩
end Go.Proofs.Ytlndhmkkffcbnaa.TkM
