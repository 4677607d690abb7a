/- Arguments opened: what each part weighs, structs by field, slices of strings as lists. No program is named here. -/
import Derived.ProofKit
import Derived.SizedLaws
import Derived.SliceStrings
import Derived.Deep.Slices
import Derived.Test.YtcciodpchdijgaaGreatBase
namespace Go.Proofs.YtcciodpchdijgaaGreat
open Go.ChangeShapes Go.WideShapes Go.ChangeAt Go.RowKit Go.Deep

section
variable {H : Type} {enc : TypeId × Value → H} {P : Program} {w : World}

/-- Each part within the reach. -/
def Small (P : Program) (t : TypeId) (d : DataW H) : Prop := ∀ n ∈ d.weights P t, n ≤ reachBytes

theorem small_arg {ts : List TypeId} {ds : List (DataW H)} (h : (DataW.weightsEach P ts ds).all (· ≤ reachBytes) = true) {j : Nat} {t : TypeId} {d : DataW H} (ht : ts[j]? = some t) (hd : ds[j]? = some d) : Small P t d := fun n hn => by
  simpa using List.all_eq_true.1 h n (DataW.weights_mem_each ht hd n hn)
theorem small_field {t : TypeId} {fs : Array Field} (hs : P.underlying t = some (.struct fs)) {parts : List (DataW H)} (h : Small P t (.agg parts)) {j : Nat} {f : Field} {d : DataW H} (hf : fs[j]? = some f) (hd : parts[j]? = some d) : Small P f.type d := fun n hn => by
  refine h n ?_
  simp only [DataW.weights, hs]
  exact DataW.weights_mem_each (j := j) (by rw [List.getElem?_map, Array.getElem?_toList, hf]; rfl) hd n hn
theorem mem_weightsAll {e : TypeId} : ∀ {ds : List (DataW H)} {d : DataW H}, d ∈ ds → ∀ n ∈ d.weights P e, n ∈ DataW.weightsAll P e ds
  | x :: ds, d, hd, n, hn => by
    simp only [DataW.weightsAll, List.mem_append]
    rcases List.mem_cons.1 hd with rfl | hd
    · exact .inl hn
    · exact .inr (mem_weightsAll hd n hn)
theorem small_elem {t e : TypeId} (hs : P.underlying t = some (.slice e)) {elems spare : List (DataW H)} (h : Small P t (.slice elems spare)) {d : DataW H} (hd : d ∈ elems) : Small P e d := fun n hn => by
  refine h n ?_
  simp only [DataW.weights, hs, List.mem_cons, List.mem_append]
  exact .inr (.inl (mem_weightsAll hd n hn))
theorem small_slice {t e : TypeId} (hs : P.underlying t = some (.slice e)) {elems spare : List (DataW H)} (h : Small P t (.slice elems spare)) : (elems.length + spare.length) * P.bytesOf e ≤ 140737488351232 :=
  h _ (by simp [DataW.weights, hs])
theorem small_string {t : TypeId} {bytes : List UInt8} (h : Small P t (.lit (.string bytes) : DataW H)) : bytes.length ≤ 140737488351232 := h _ (by simp [DataW.weights])

/-- A struct by its fields. -/
theorem fields_opened {t : TypeId} {fs : Array Field} {fuel : Nat} {cs : List Value} {x : DataW H × List MemPlace} (ht : P.underlying t = some (.struct fs)) (h : DataW.trod enc P w 0 (fun _ => true) true fuel t cs = some x) :
    cs.length = P.cellsOf t ∧ ∃ (ys : List (DataW H × List MemPlace)) (n : Nat), x.1 = .agg (ys.map (·.1)) ∧ ∀ (j : Nat) (f : Field), fs[j]? = some f → ∃ y, ys[j]? = some y ∧ (ys.map (·.1))[j]? = some y.1 ∧ DataW.trod enc P w 0 (fun _ => true) true n f.type ((cs.drop f.offset).take (P.cellsOf f.type)) = some y := by
  obtain ⟨ys, n, _, rfl, hl, hlen, hf⟩ := DataW.trod_struct ht h
  refine ⟨hl, ys, n, rfl, fun j f hj => ?_⟩
  have hjl : j < ys.length := by rw [hlen]; exact (Array.getElem?_eq_some_iff.1 hj).1
  have hy : ys[j]? = some ys[j] := List.getElem?_eq_getElem hjl
  exact ⟨ys[j], hy, by rw [List.getElem?_map, hy]; rfl, (hf j f hj).trans hy⟩

/-- A slice of strings. -/
theorem strings_opened {t e : TypeId} {fuel : Nat} {v : Value} {x : DataW H × List MemPlace} (ht : P.underlying t = some (.slice e)) (he : P.underlying e = some .string) (hc : P.cellsOf e = 1) (hb : P.bytesOf e = 16)
    (h : DataW.trod enc P w 0 (fun _ => true) true fuel t [v] = some x) (hs : Small P t x.1) :
    ∃ (A : Option Addr) (c : Nat) (rows : List ByteArray), v = .slice A rows.length c ∧ Reads (fun b => b < w.heap.size) w 1 A rows.length (rows.map Value.string) ∧ rows.length * 16 ≤ 140737488351232 ∧ ∀ s ∈ rows, s.size ≤ 140737488351232 := by
  rcases open_strings ht he hc h with ⟨hcs, hx⟩ | ⟨a, len, cap, ss, hcs, _, hl, hm, hz, hx, hcl, _⟩
  · obtain rfl : v = _ := by simpa using hcs
    exact ⟨none, 0, [], rfl, Reads.none_, by simp, by simp⟩
  · obtain rfl : v = _ := by simpa using hcs
    have hz' : ss.length = cap := by simpa using hz
    have hll : (ss.take len).length = len := by simp; omega
    rw [hx] at hs
    have hsz := small_slice ht hs
    rw [hb] at hsz
    simp only [strs, List.length_map] at hsz
    have hsm : ∀ s ∈ ss.take len, s.size ≤ 140737488351232 := fun s hm => by
      have := small_string (small_elem ht hs (d := .lit (.string s.data.toList)) (List.mem_map.2 ⟨s, hm, rfl⟩))
      simpa using this
    refine ⟨some a, cap, ss.take len, by rw [hll], ⟨by simp, fun hn => ?_⟩, by simp at hsz ⊢; omega, hsm⟩
    rw [hll] at hn
    have h0 := hcl 0 (by omega)
    obtain ⟨b, off, spot⟩ := a
    have hspot : spot = none := by simpa [Addr.add] using World.cell?_spot h0
    subst hspot
    refine ⟨b, off, rfl, World.block_lt_of_cell? w _ h0, World.block_lt_of_cell? w _ h0, fun j u hu => ?_⟩
    have hj : j < len := by
      have := (List.getElem?_eq_some_iff.1 hu).1
      simp at this; omega
    have e1 : (⟨b, off, none⟩ : Addr).add j = ⟨b, off + j, none⟩ := by cases j <;> simp [Addr.add]
    rw [← e1, hcl j (by omega)]
    rw [List.getElem?_map, List.getElem?_take, if_pos hj, List.getElem?_eq_getElem (by omega)] at hu
    rw [← hu]
    simp
    rw [List.getElem?_eq_getElem (by omega)]
    rfl
end
end Go.Proofs.YtcciodpchdijgaaGreat
