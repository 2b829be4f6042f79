/-
  What an argument reads as, by its shape: whole numbers, bools, texts, slices, arrays and structs of these, however deep. One theorem opens them all.
-/
import Derived.ChangeArms
import Derived.OpenShut
import Derived.WideShapes
import Derived.DataReads
import Derived.Deep.Slices
namespace Go.Proofs.Ytlndhmkkffcbnaa.Kit

/-- The shape of a type: 'cons f r': a field and those behind it; 'none': no field. -/
inductive Sh where
  | int (k : IntKind)
  | bool
  | str
  | slice (e : Sh)
  | arr (n : Nat) (e : Sh)
  | struct (fs : Sh)
  | none
  | cons (f r : Sh)

/-- How many cells. -/
def Sh.size : Sh → Nat
  | .int _ => 1
  | .bool => 1
  | .str => 1
  | .slice _ => 1
  | .arr n e => n * e.size
  | .struct fs => fs.size
  | .none => 0
  | .cons f r => f.size + r.size

/-- What cells of a shape hold. -/
def Reads (w : World) : Sh → List Value → Prop
  | .int k, cs => ∃ n, cs = [.int k n] ∧ (Lit.int k n).wf = true
  | .bool, cs => ∃ b, cs = [.bool b]
  | .str, cs => ∃ s, cs = [.string s] ∧ s.size ≤ maxLen
  | .slice e, cs => cs = [.slice none 0 0] ∨ ∃ a len cap, cs = [.slice (some a) len cap] ∧ len ≤ cap ∧ cap ≤ maxLen ∧
      ∀ i, i < len → ∃ es : List Value, es.length = e.size ∧ (∀ (j : Nat) v, es[j]? = some v → w.cell? (a.add (i * e.size + j)) = some v) ∧ Reads w e es
  | .arr n e, cs => cs.length = n * e.size ∧ ∀ i, i < n → Reads w e ((cs.drop (i * e.size)).take e.size)
  | .struct fs, cs => cs.length = fs.size ∧ Reads w fs cs
  | .none, _ => True
  | .cons f r, cs => Reads w f (cs.take f.size) ∧ Reads w r (cs.drop f.size)

/-- Does a type have the shape? (first: of a type; second: of fields from an offset on) -/
def fit (P : Program) : Sh → (TypeId → Bool) × (List Field → Nat → Bool)
  | .int k => (fun t => match P.underlying t with
    | some (.int k') => decide (k' = k)
    | _ => false, fun _ _ => false)
  | .bool => (fun t => match P.underlying t with
    | some .bool => true
    | _ => false, fun _ _ => false)
  | .str => (fun t => match P.underlying t with
    | some .string => true
    | _ => false, fun _ _ => false)
  | .slice e => (fun t => match P.underlying t with
    | some (.slice u) => P.cellsOf u == e.size && (fit P e).1 u
    | _ => false, fun _ _ => false)
  | .arr n e => (fun t => match P.underlying t with
    | some (.array n' u) => n' == n && P.cellsOf t == n * e.size && P.cellsOf u == e.size && (fit P e).1 u
    | _ => false, fun _ _ => false)
  | .struct fs => (fun t => match P.underlying t with
    | some (.struct l) => P.cellsOf t == fs.size && (fit P fs).2 l.toList 0
    | _ => false, fun _ _ => false)
  | .none => (fun _ => false, fun l _ => l.isEmpty)
  | .cons f r => (fun _ => false, fun l off => match l with
    | x :: l' => x.offset == off && P.cellsOf x.type == f.size && (fit P f).1 x.type && (fit P r).2 l' (off + f.size)
    | [] => false)

section
variable {H : Type} {enc : TypeId × Value → H} {P : Program} {w : World} {base : Nat} {spare : Nat → Bool} {held : Bool}

theorem reads_of (sh : Sh) :
    (∀ (t : TypeId) (fuel : Nat) (cs : List Value) (x : DataW H × List MemPlace), (fit P sh).1 t = true → DataW.trod enc P w base spare held fuel t cs = some x → Reads w sh cs) ∧
    (∀ (l : List Field) (off fuel : Nat) (cs : List Value), (fit P sh).2 l off = true →
      (∀ (i : Nat) (f : Field), l[i]? = some f → ∃ x, DataW.trod enc P w base spare held fuel f.type ((cs.drop f.offset).take (P.cellsOf f.type)) = some x) → Reads w sh (cs.drop off)) := by
  induction sh with
  | int k =>
    refine ⟨fun t fuel cs x hf h => ?_, fun l off fuel cs hf _ => by simp [fit] at hf⟩
    simp only [fit] at hf
    split at hf
    · rename_i k' ht
      have hk : k' = k := of_decide_eq_true hf
      subst hk
      obtain ⟨n, hc, _, hw⟩ := DataW.trod_int ht h
      exact ⟨n, hc, hw⟩
    · exact absurd hf (by simp)
  | bool =>
    refine ⟨fun t fuel cs x hf h => ?_, fun l off fuel cs hf _ => by simp [fit] at hf⟩
    simp only [fit] at hf
    split at hf
    · rename_i ht
      obtain ⟨b, hc, _⟩ := DataW.trod_bool ht h
      exact ⟨b, hc⟩
    · exact absurd hf (by simp)
  | str =>
    refine ⟨fun t fuel cs x hf h => ?_, fun l off fuel cs hf _ => by simp [fit] at hf⟩
    simp only [fit] at hf
    split at hf
    · rename_i ht
      obtain ⟨s, hc, _, hs⟩ := DataW.trod_string ht h
      exact ⟨s, hc, hs⟩
    · exact absurd hf (by simp)
  | slice e ih =>
    refine ⟨fun t fuel cs x hf h => ?_, fun l off fuel cs hf _ => by simp [fit] at hf⟩
    simp only [fit] at hf
    split at hf
    · rename_i u ht
      simp only [Bool.and_eq_true, beq_iff_eq] at hf
      obtain ⟨hc, hu⟩ := hf
      rcases DataW.trod_slice ht h with ⟨h0, _⟩ | ⟨a, len, cap, elems, rest, n, _, hcs, _, _, hl, hm, hlen, hel, _⟩
      · exact .inl h0
      · refine .inr ⟨a, len, cap, hcs, hl, hm, fun i hi => ?_⟩
        have hi' := hel i hi
        rw [List.getElem?_eq_getElem (by omega)] at hi'
        obtain ⟨es, he, ht'⟩ := Option.bind_eq_some_iff.1 hi'
        obtain ⟨_, hlen', hcell⟩ := World.cells?_some he
        rw [hc] at hlen' hcell
        refine ⟨es, hlen', fun j v hj => ?_, ih.1 u n es _ hu ht'⟩
        have hj' : j < es.length := (List.getElem?_eq_some_iff.1 hj).1
        have := hcell j (by omega)
        rw [Go.Deep.add_add] at this
        rw [this, hj]
    · exact absurd hf (by simp)
  | arr m e ih =>
    refine ⟨fun t fuel cs x hf h => ?_, fun l off fuel cs hf _ => by simp [fit] at hf⟩
    simp only [fit] at hf
    split at hf
    · rename_i n' u ht
      simp only [Bool.and_eq_true, beq_iff_eq] at hf
      obtain ⟨⟨⟨hn, hct⟩, hcu⟩, hu⟩ := hf
      subst hn
      obtain ⟨xs, k, _, _, hlen, hxl, hx⟩ := DataW.trod_array ht h
      refine ⟨hlen.trans hct, fun i hi => ?_⟩
      have := hx i hi
      rw [hcu, List.getElem?_eq_getElem (by omega)] at this
      exact ih.1 u k _ _ hu this
    · exact absurd hf (by simp)
  | struct fs ih =>
    refine ⟨fun t fuel cs x hf h => ?_, fun l off fuel cs hf _ => by simp [fit] at hf⟩
    simp only [fit] at hf
    split at hf
    · rename_i l ht
      simp only [Bool.and_eq_true, beq_iff_eq] at hf
      obtain ⟨hct, hl⟩ := hf
      obtain ⟨xs, k, _, _, hlen, hxl, hx⟩ := DataW.trod_struct ht h
      refine ⟨hlen.trans hct, ?_⟩
      have := ih.2 l.toList 0 k cs hl (fun i f hi => by
        have hi' : l[i]? = some f := by simpa using hi
        have hlt : i < l.size := (Array.getElem?_eq_some_iff.1 hi').1
        exact ⟨xs[i]'(by omega), by rw [hx i f hi', List.getElem?_eq_getElem (by omega)]⟩)
      simpa using this
    · exact absurd hf (by simp)
  | none =>
    refine ⟨fun t fuel cs x hf h => by simp [fit] at hf, fun l off fuel cs hf hx => trivial⟩
  | cons f r ihf ihr =>
    refine ⟨fun t fuel cs x hf h => by simp [fit] at hf, fun l off fuel cs hf hx => ?_⟩
    simp only [fit] at hf
    split at hf
    · rename_i x l'
      simp only [Bool.and_eq_true, beq_iff_eq] at hf
      obtain ⟨⟨⟨ho, hc⟩, hfx⟩, hr⟩ := hf
      obtain ⟨y, hy⟩ := hx 0 x rfl
      rw [ho, hc] at hy
      refine ⟨ihf.1 _ _ _ _ hfx hy, ?_⟩
      have := ihr.2 l' (off + f.size) fuel cs hr (fun i g hi => hx (i + 1) g (by simpa using hi))
      rw [List.drop_drop]
      exact this
    · exact absurd hf (by simp)

/-- An argument of a shape. -/
def Arg (w : World) : Sh → Value → Prop
  | .struct fs, v => ∃ cs : List Value, v = .agg cs.toArray ∧ Reads w (.struct fs) cs
  | .arr n e, v => ∃ cs : List Value, v = .agg cs.toArray ∧ Reads w (.arr n e) cs
  | sh, v => Reads w sh [v]

/-- An argument of a shape, opened. -/
theorem open_arg {r : Reach} {b0 : Nat} {t : TypeId} {v : Value} {d : DataW H} {p : List MemPlace} (sh : Sh) (hf : (fit P sh).1 t = true) (hv : Value.okWide P w r b0 t v)
    (h : DataW.Trod enc P w base spare held t v d p) : Arg w sh v := by
  obtain ⟨fuel, hx⟩ := h
  have hr := (reads_of sh).1 t fuel _ _ hf hx
  cases sh with
  | int k =>
    simp only [fit] at hf
    split at hf
    · rename_i k' ht
      obtain ⟨n, rfl⟩ := Go.WideShapes.okWide_int ht hv
      exact hr
    · exact absurd hf (by simp)
  | bool =>
    simp only [fit] at hf
    split at hf
    · rename_i ht
      obtain ⟨n, rfl⟩ := Go.WideShapes.okWide_bool ht hv
      exact hr
    · exact absurd hf (by simp)
  | str =>
    simp only [fit] at hf
    split at hf
    · rename_i ht
      obtain ⟨n, rfl⟩ := Go.WideShapes.okWide_string ht hv
      exact hr
    · exact absurd hf (by simp)
  | slice e =>
    simp only [fit] at hf
    split at hf
    · rename_i u ht
      obtain ⟨a, l, c, rfl⟩ := Go.WideShapes.okWide_slice ht hv
      exact hr
    · exact absurd hf (by simp)
  | arr n e =>
    simp only [fit] at hf
    split at hf
    · rename_i n' u ht
      simp only [Value.okWide, ht] at hv
      obtain ⟨cs, rfl, _⟩ := hv
      exact ⟨cs.toList, rfl, hr⟩
    · exact absurd hf (by simp)
  | struct fs =>
    simp only [fit] at hf
    split at hf
    · rename_i l ht
      obtain ⟨cs, rfl, _⟩ := Go.WideShapes.okWide_struct ht hv
      exact ⟨cs.toList, rfl, hr⟩
    · exact absurd hf (by simp)
  | none => simp [fit] at hf
  | cons f r => simp [fit] at hf
end
end Go.Proofs.Ytlndhmkkffcbnaa.Kit
