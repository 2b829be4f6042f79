/-
  What the row says of the size of a slice that lies in a struct's field.
-/
import Derived.Test.YtoghkikjgilpdaaOpen
import Derived.SizedLaws
namespace Go.Proofs.Ytoghkikjgilpdaa.Kit

theorem field_sized {H : Type} {enc : TypeId × Value → H} {P : Program} {W : World} {base : Nat} {spare : Nat → Bool} {held : Bool} {t e : TypeId} {cs : Array Value} {d : DataW H} {ps : List MemPlace} {ts : List TypeId} {ds : List (DataW H)} {j : Nat}
    (hsz : (DataW.weightsEach P ts ds).all (· ≤ reachBytes) = true) (ht : ts[j]? = some t) (hd : ds[j]? = some d) {fs : Array Field} (hu : P.underlying t = some (.struct fs)) {i o : Nat} {f : Field} (hf : fs[i]? = some f) (ho : f.offset = o)
    (hc : P.cellsOf f.type = 1) (hs : P.underlying f.type = some (.slice e)) {B : Nat} (hB : P.bytesOf e = B) (h : DataW.Trod enc P W base spare held t (.agg cs) d ps)
    {a : Option Addr} {len cap : Nat} (hv : cs.toList[o]? = some (.slice a len cap)) : len * B ≤ 140737488351232 := by
  obtain ⟨fuel, hx⟩ := h
  have hall : ∀ n ∈ d.weights P t, n ≤ reachBytes := fun n hn => by
    have := List.all_eq_true.1 hsz n (DataW.weights_mem_each ht hd n hn)
    simpa using this
  obtain ⟨xs, k, _, hxe, _, hxl, hxf⟩ := DataW.trod_struct hu hx
  have hfi := hxf i f hf
  have hlt : i < fs.size := (Array.getElem?_eq_some_iff.1 hf).1
  have hcell : (cs.toList.drop f.offset).take (P.cellsOf f.type) = [.slice a len cap] := by
    rw [ho, hc, List.take_one, List.head?_drop, hv]
    rfl
  have hfi2 : DataW.trod enc P W base spare held k f.type [.slice a len cap] = xs[i]? := by rw [← hcell]; exact hfi
  rw [List.getElem?_eq_getElem (by omega)] at hfi2
  rcases DataW.trod_slice hs hfi2 with ⟨h0, _⟩ | ⟨a', len', cap', elems, rest, n, _, hcs, hy, _, hl, _, hlen, _⟩
  · injection h0 with h0 _
    injection h0 with _ h0 _
    subst h0
    simp
  · injection hcs with hcs _
    injection hcs with _ h1 _
    subst h1
    have hd' : d = .agg (xs.map (·.1)) := (Prod.mk.inj hxe).1
    have hin : (elems.length + rest.length) * P.bytesOf e ∈ d.weights P t := by
      rw [hd']
      have e1 : (fs.toList.map (·.type))[i]? = some f.type := by simp [hf]
      have e2 : (xs.map (·.1))[i]? = some (DataW.slice (elems.map (·.1)) (rest.map (·.1))) := by
        rw [List.getElem?_map, List.getElem?_eq_getElem (by omega)]
        simp [hy]
      have := DataW.weights_mem_each (P := P) e1 e2 ((elems.length + rest.length) * P.bytesOf e) (by simp [DataW.weights, hs])
      simpa [DataW.weights, hu] using this
    have := hall _ hin
    rw [hB] at this
    have h3 : len * B ≤ (elems.length + rest.length) * B := Nat.mul_le_mul_right _ (by omega)
    unfold reachBytes at this
    omega
end Go.Proofs.Ytoghkikjgilpdaa.Kit
