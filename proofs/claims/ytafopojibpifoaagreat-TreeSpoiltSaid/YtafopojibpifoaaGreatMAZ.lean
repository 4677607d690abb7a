/- The last step of a law's row, once for all laws: a law that answers true and turns nothing that was there meets its row. -/
import Derived.ProofKit
import Derived.Below
import Derived.ChangeSame
import Derived.SizedLaws
import Derived.SliceStrings
import Derived.Deep.Slices
import Derived.Test.YtafopojibpifoaaGreatMAA
import Derived.Test.YtafopojibpifoaaGreatMAN
import Derived.ChangeSlices

namespace Go.Proofs.YtafopojibpifoaaGreat
open Go.ChangeShapes Go.WideShapes Go.ChangeAt Go.RowKit

section
variable {H : Type} {enc : TypeId × Value → H} {P : Program}

theorem trodAll_stays (hl : laidOutB P = true) {W W' : World} {sp : Nat → Bool} : ∀ {ts : List TypeId} {vs : List Value} {ds : List (DataW H)} {ps : List MemPlace},
    (∀ t ∈ ts, P.readableRec t = true ∧ t < P.types.size) → DataW.TrodAll enc P W 0 (fun _ => true) true ts vs ds ps →
    (∀ x ∈ ps, W.sameAt W' x) → (∀ x ∈ ps, sp x.block = true) → DataW.TrodAll enc P W' 0 sp true ts vs ds ps
  | [], _, _, _, _, h, _, _ => by
    obtain ⟨rfl, rfl, rfl⟩ := trodAll_nil h
    exact trodAll_mk0
  | t :: ts, _, _, _, hr, h, hs, hp => by
    obtain ⟨v, vs1, d, ds1, a, b, rfl, rfl, rfl, h1, h2⟩ := trodAll_cons h
    refine ⟨a, b, WideElems.Trod_stays hl (hr t (by simp)).1 (hr t (by simp)).2 h1 (fun x hx => hs x (by simp [hx])) (fun x hx => hp x (by simp [hx])), ?_, rfl⟩
    exact trodAll_stays hl (fun t' ht' => hr t' (by simp [ht'])) h2 (fun x hx => hs x (by simp [hx])) (fun x hx => hp x (by simp [hx]))

theorem law_post {f : Func} {s : ChangeSpec} {apart fresh handsOn : Bool} {W W' : World} {args : Array Value} {ds : List (DataW H)} {before : List MemPlace} {TB : TypeId}
    (hl : laidOutB P = true) (hr : ∀ t ∈ f.params.toList, P.readableRec t = true ∧ t < P.types.size) (hB : P.underlying TB = some .bool) (hrt : f.resultTypes = #[TB]) (hv : s.vars = [])
    (hW : DataW.Whole enc P f.params.toList s.vars apart W args.toList ds [] before)
    (hfn : s.fn H (ds ++ []) = { results := [.lit (.bool true)], args := ds }) (hb : Below W.heap.size W W') :
    s.post enc P f apart fresh handsOn false W args (.bool true) W' := by
  have hlt : ∀ p ∈ before, p.block < W.heap.size := fun p hp => hW.lt p hp
  have hold : ∀ p ∈ before, (fun b => decide (b < W.heap.size)) p.block = true := fun p hp => by simpa using hlt p hp
  have hW' := hW
  obtain ⟨p, q, hA, hV, rfl, _, _⟩ := hW
  rw [hv] at hV
  obtain ⟨_, rfl⟩ := trodVars_none hV
  have hres : ∀ (b : Nat) (sp : Nat → Bool) (hd : Bool), DataW.TrodAll enc P W' b sp hd f.resultTypes.toList ((Value.bool true).resultList f.resultTypes.size) (s.fn H (ds ++ [])).results [] := fun b sp hd => by
    rw [hfn, hrt]
    exact trodAll_mk1 (shut_bool hB true)
  refine ⟨ds, [], _, [], p, [], hW', hres _ _ _, ?_, ?_, World.keptBut_mono (fun x hx => ⟨hx, ?_⟩) (hb.frame (· ∈ p ++ [])), fun h => by cases h⟩
  · rw [hfn]
    exact trodAll_stays hl hr hA (fun x hx => hb.same (hlt x (by simp [hx]))) (fun x hx => hold x (by simp [hx]))
  · rw [hfn, hv]
    exact rfl
  · simp only [List.append_nil] at hx
    exact Or.inr (Or.inl hx)
end
end Go.Proofs.YtafopojibpifoaaGreat

/- Arguments opened: what each part weighs, structs by field, slices of strings as lists. No program is named here. -/
namespace Go.Proofs.YtafopojibpifoaaGreat
open Go.ChangeShapes Go.WideShapes Go.ChangeAt Go.RowKit Go.Deep

section
variable {H : Type} {enc : TypeId × Value → H} {P : Program} {w : World}

/-- Each part within the reach. -/
def Small (P : Program) (t : TypeId) (d : DataW H) : Prop := ∀ n ∈ d.weights P t, n ≤ reachBytes

theorem small_arg {ts : List TypeId} {ds : List (DataW H)} (h : (DataW.weightsEach P ts ds).all (· ≤ reachBytes) = true) {j : Nat} {t : TypeId} {d : DataW H} (ht : ts[j]? = some t) (hd : ds[j]? = some d) : Small P t d := fun n hn => by
  simpa using List.all_eq_true.1 h n (DataW.weights_mem_each ht hd n hn)
theorem small_field {t : TypeId} {fs : Array Field} (hs : P.underlying t = some (.struct fs)) {parts : List (DataW H)} (h : Small P t (.agg parts)) {j : Nat} {f : Field} {d : DataW H} (hf : fs[j]? = some f) (hd : parts[j]? = some d) : Small P f.type d := fun n hn => by
  refine h n ?_
  simp only [DataW.weights, hs]
  exact DataW.weights_mem_each (j := j) (by rw [List.getElem?_map, Array.getElem?_toList, hf]; rfl) hd n hn
theorem mem_weightsAll {e : TypeId} : ∀ {ds : List (DataW H)} {d : DataW H}, d ∈ ds → ∀ n ∈ d.weights P e, n ∈ DataW.weightsAll P e ds
  | x :: ds, d, hd, n, hn => by
    simp only [DataW.weightsAll, List.mem_append]
    rcases List.mem_cons.1 hd with rfl | hd
    · exact .inl hn
    · exact .inr (mem_weightsAll hd n hn)
theorem small_elem {t e : TypeId} (hs : P.underlying t = some (.slice e)) {elems spare : List (DataW H)} (h : Small P t (.slice elems spare)) {d : DataW H} (hd : d ∈ elems) : Small P e d := fun n hn => by
  refine h n ?_
  simp only [DataW.weights, hs, List.mem_cons, List.mem_append]
  exact .inr (.inl (mem_weightsAll hd n hn))
theorem small_slice {t e : TypeId} (hs : P.underlying t = some (.slice e)) {elems spare : List (DataW H)} (h : Small P t (.slice elems spare)) : (elems.length + spare.length) * P.bytesOf e ≤ 140737488351232 :=
  h _ (by simp [DataW.weights, hs])
theorem small_string {t : TypeId} {bytes : List UInt8} (h : Small P t (.lit (.string bytes) : DataW H)) : bytes.length ≤ 140737488351232 := h _ (by simp [DataW.weights])

/-- A struct by its fields. -/
theorem fields_opened {t : TypeId} {fs : Array Field} {fuel : Nat} {cs : List Value} {x : DataW H × List MemPlace} (ht : P.underlying t = some (.struct fs)) (h : DataW.trod enc P w 0 (fun _ => true) true fuel t cs = some x) :
    cs.length = P.cellsOf t ∧ ∃ (ys : List (DataW H × List MemPlace)) (n : Nat), x.1 = .agg (ys.map (·.1)) ∧ ∀ (j : Nat) (f : Field), fs[j]? = some f → ∃ y, ys[j]? = some y ∧ (ys.map (·.1))[j]? = some y.1 ∧ DataW.trod enc P w 0 (fun _ => true) true n f.type ((cs.drop f.offset).take (P.cellsOf f.type)) = some y := by
  obtain ⟨ys, n, _, rfl, hl, hlen, hf⟩ := DataW.trod_struct ht h
  refine ⟨hl, ys, n, rfl, fun j f hj => ?_⟩
  have hjl : j < ys.length := by rw [hlen]; exact (Array.getElem?_eq_some_iff.1 hj).1
  have hy : ys[j]? = some ys[j] := List.getElem?_eq_getElem hjl
  exact ⟨ys[j], hy, by rw [List.getElem?_map, hy]; rfl, (hf j f hj).trans hy⟩

/-- A slice of strings. -/
theorem strings_opened {t e : TypeId} {fuel : Nat} {v : Value} {x : DataW H × List MemPlace} (ht : P.underlying t = some (.slice e)) (he : P.underlying e = some .string) (hc : P.cellsOf e = 1) (hb : P.bytesOf e = 16)
    (h : DataW.trod enc P w 0 (fun _ => true) true fuel t [v] = some x) (hs : Small P t x.1) :
    ∃ (A : Option Addr) (c : Nat) (rows : List ByteArray), v = .slice A rows.length c ∧ Reads (fun b => b < w.heap.size) w 1 A rows.length (rows.map Value.string) ∧ rows.length * 16 ≤ 140737488351232 ∧ ∀ s ∈ rows, s.size ≤ 140737488351232 := by
  rcases open_strings ht he hc h with ⟨hcs, hx⟩ | ⟨a, len, cap, ss, hcs, _, hl, hm, hz, hx, hcl, _⟩
  · obtain rfl : v = _ := by simpa using hcs
    exact ⟨none, 0, [], rfl, Reads.none_, by simp, by simp⟩
  · obtain rfl : v = _ := by simpa using hcs
    have hz' : ss.length = cap := by simpa using hz
    have hll : (ss.take len).length = len := by simp; omega
    rw [hx] at hs
    have hsz := small_slice ht hs
    rw [hb] at hsz
    simp only [strs, List.length_map] at hsz
    have hsm : ∀ s ∈ ss.take len, s.size ≤ 140737488351232 := fun s hm => by
      have := small_string (small_elem ht hs (d := .lit (.string s.data.toList)) (List.mem_map.2 ⟨s, hm, rfl⟩))
      simpa using this
    refine ⟨some a, cap, ss.take len, by rw [hll], ⟨by simp, fun hn => ?_⟩, by simp at hsz ⊢; omega, hsm⟩
    rw [hll] at hn
    have h0 := hcl 0 (by omega)
    obtain ⟨b, off, spot⟩ := a
    have hspot : spot = none := by simpa [Addr.add] using World.cell?_spot h0
    subst hspot
    refine ⟨b, off, rfl, World.block_lt_of_cell? w _ h0, World.block_lt_of_cell? w _ h0, fun j u hu => ?_⟩
    have hj : j < len := by
      have := (List.getElem?_eq_some_iff.1 hu).1
      simp at this; omega
    have e1 : (⟨b, off, none⟩ : Addr).add j = ⟨b, off + j, none⟩ := by cases j <;> simp [Addr.add]
    rw [← e1, hcl j (by omega)]
    rw [List.getElem?_map, List.getElem?_take, if_pos hj, List.getElem?_eq_getElem (by omega)] at hu
    rw [← hu]
    simp
    rw [List.getElem?_eq_getElem (by omega)]
    rfl
end
end Go.Proofs.YtafopojibpifoaaGreat

/- The arguments of the laws of the package pentimentolaw18 opened: rows as they come in. -/
namespace Go.Proofs.YtafopojibpifoaaGreat
open Go.ChangeShapes Go.WideShapes Go.ChangeAt Go.RowKit Go.Deep

theorem u8_nat {n : Int} (h : (Lit.int .u8 n).wf = true) : ∃ m : Nat, n = (m : Int) ∧ m < 256 := by
  simp [Lit.wf, IntKind.min, IntKind.max, IntKind.signed, IntKind.bits] at h
  exact ⟨n.toNat, by omega, by omega⟩
theorem u16_nat {n : Int} (h : (Lit.int .u16 n).wf = true) : ∃ m : Nat, n = (m : Int) ∧ m < 65536 := by
  simp [Lit.wf, IntKind.min, IntKind.max, IntKind.signed, IntKind.bits] at h
  exact ⟨n.toNat, by omega, by omega⟩
theorem u32_nat {n : Int} (h : (Lit.int .u32 n).wf = true) : ∃ m : Nat, n = (m : Int) ∧ m < 4294967296 := by
  simp [Lit.wf, IntKind.min, IntKind.max, IntKind.signed, IntKind.bits] at h
  exact ⟨n.toNat, by omega, by omega⟩
theorem u64_nat {n : Int} (h : (Lit.int .u64 n).wf = true) : ∃ m : Nat, n = (m : Int) ∧ m < 18446744073709551616 := by
  simp [Lit.wf, IntKind.min, IntKind.max, IntKind.signed, IntKind.bits] at h
  exact ⟨n.toNat, by omega, by omega⟩
theorem i64_lt {n : Int} (h : (Lit.int .i64 n).wf = true) : n < 9223372036854775808 := by
  simp [Lit.wf, IntKind.min, IntKind.max, IntKind.signed, IntKind.bits] at h
  omega
theorem str_of (s : ByteArray) : Value.string s = str s.data.toList := by simp [str]

set_option maxRecDepth 100000 in
/-- A roll, opened. -/
theorem roll_opened {H : Type} {enc : TypeId × Value → H} {w : World} {fuel : Nat} {cs : List Value} {x : DataW H × List MemPlace} (h : DataW.trod enc Tryz.prog w 0 (fun _ => true) true fuel 41 cs = some x) :
    ∃ p s : Nat, cs = [.int .u32 p, .int .u16 s] ∧ s < 65536 := by
  obtain ⟨hl, ys, n, hx, hf⟩ := fields_opened Tryz.underlying41 h
  rw [show Tryz.prog.cellsOf 41 = 2 by kernel_rfl] at hl
  match cs, hl with
  | [v0, v1], _ =>
    obtain ⟨y0, _, _, h0⟩ := hf 0 _ rfl
    obtain ⟨y1, _, _, h1⟩ := hf 1 _ rfl
    have c32 : Tryz.prog.cellsOf 33 = 1 := by kernel_rfl
    have c16 : Tryz.prog.cellsOf 39 = 1 := by kernel_rfl
    replace h0 : DataW.trod enc Tryz.prog w 0 (fun _ => true) true n 33 [v0] = some y0 := by rw [← h0]; show _ = DataW.trod _ _ _ _ _ _ _ _ (List.take (Tryz.prog.cellsOf 33) _); rw [c32]; rfl
    replace h1 : DataW.trod enc Tryz.prog w 0 (fun _ => true) true n 39 [v1] = some y1 := by rw [← h1]; show _ = DataW.trod _ _ _ _ _ _ _ _ (List.take (Tryz.prog.cellsOf 39) _); rw [c16]; rfl
    obtain ⟨a, e0, _, w0⟩ := DataW.trod_int Tryz.underlying33 h0
    obtain ⟨b, e1, _, w1⟩ := DataW.trod_int Tryz.underlying39 h1
    simp at e0 e1
    obtain ⟨p, rfl, _⟩ := u32_nat w0
    obtain ⟨s, rfl, hs⟩ := u16_nat w1
    subst e0 e1
    exact ⟨p, s, rfl, hs⟩

set_option maxRecDepth 100000 in
/-- A row, opened. -/
theorem row_opened {H : Type} {enc : TypeId × Value → H} {w : World} {fuel : Nat} {cs : List Value} {x : DataW H × List MemPlace} (h : DataW.trod enc Tryz.prog w 0 (fun _ => true) true fuel 43 cs = some x) (hs : Small Tryz.prog 43 x.1) :
    ∃ r : Sp.Rx, cs = rxCs r ∧ (r.tx < 18446744073709551616 ∧ r.slot < 65536) ∧ r.key.length < 140737488355329 ∧ r.value.length < 140737488355329 ∧ r.pad < 9223372036854775808 := by
  obtain ⟨hl, ys, n, hx, hf⟩ := fields_opened Tryz.underlying43 h
  rw [show Tryz.prog.cellsOf 43 = 7 by kernel_rfl] at hl
  match cs, hl with
  | [v0, v1, v2, v3, v4, v5, v6], _ =>
    obtain ⟨y0, _, hy0, h0⟩ := hf 0 _ rfl
    obtain ⟨y1, _, _, h1⟩ := hf 1 _ rfl
    obtain ⟨y2, _, _, h2⟩ := hf 2 _ rfl
    obtain ⟨y3, _, _, h3⟩ := hf 3 _ rfl
    obtain ⟨y4, _, hy4, h4⟩ := hf 4 _ rfl
    obtain ⟨y5, _, _, h5⟩ := hf 5 _ rfl
    rw [hx] at hs
    have hs0 := small_field Tryz.underlying43 hs (j := 0) rfl hy0
    have hs4 := small_field Tryz.underlying43 hs (j := 4) rfl hy4
    have c64 : Tryz.prog.cellsOf 38 = 1 := by kernel_rfl
    have ci : Tryz.prog.cellsOf 3 = 1 := by kernel_rfl
    have cb : Tryz.prog.cellsOf 4 = 1 := by kernel_rfl
    have cs1 : Tryz.prog.cellsOf 9 = 1 := by kernel_rfl
    have cr : Tryz.prog.cellsOf 41 = 2 := by kernel_rfl
    replace h0 : DataW.trod enc Tryz.prog w 0 (fun _ => true) true n 9 [v0] = some y0 := by rw [← h0]; show _ = DataW.trod _ _ _ _ _ _ _ _ (List.take (Tryz.prog.cellsOf 9) _); rw [cs1]; rfl
    replace h1 : DataW.trod enc Tryz.prog w 0 (fun _ => true) true n 4 [v1] = some y1 := by rw [← h1]; show _ = DataW.trod _ _ _ _ _ _ _ _ (List.take (Tryz.prog.cellsOf 4) _); rw [cb]; rfl
    replace h2 : DataW.trod enc Tryz.prog w 0 (fun _ => true) true n 38 [v2] = some y2 := by rw [← h2]; show _ = DataW.trod _ _ _ _ _ _ _ _ (List.take (Tryz.prog.cellsOf 38) _); rw [c64]; rfl
    replace h3 : DataW.trod enc Tryz.prog w 0 (fun _ => true) true n 41 [v3, v4] = some y3 := by rw [← h3]; show _ = DataW.trod _ _ _ _ _ _ _ _ (List.take (Tryz.prog.cellsOf 41) _); rw [cr]; rfl
    replace h4 : DataW.trod enc Tryz.prog w 0 (fun _ => true) true n 9 [v5] = some y4 := by rw [← h4]; show _ = DataW.trod _ _ _ _ _ _ _ _ (List.take (Tryz.prog.cellsOf 9) _); rw [cs1]; rfl
    replace h5 : DataW.trod enc Tryz.prog w 0 (fun _ => true) true n 3 [v6] = some y5 := by rw [← h5]; show _ = DataW.trod _ _ _ _ _ _ _ _ (List.take (Tryz.prog.cellsOf 3) _); rw [ci]; rfl
    obtain ⟨k, e0, ey0, _⟩ := DataW.trod_string Tryz.underlying9 h0
    obtain ⟨b, e1, _⟩ := DataW.trod_bool Tryz.underlying4 h1
    obtain ⟨t, e2, _, w2⟩ := DataW.trod_int Tryz.underlying38 h2
    obtain ⟨p, s, e3, hs3⟩ := roll_opened h3
    obtain ⟨u, e4, ey4, _⟩ := DataW.trod_string Tryz.underlying9 h4
    obtain ⟨d, e5, _, w5⟩ := DataW.trod_int Tryz.underlying3 h5
    simp at e0 e1 e2 e3 e4 e5
    obtain ⟨tx, rfl, htx⟩ := u64_nat w2
    rw [ey0] at hs0
    rw [ey4] at hs4
    have hz0 := small_string hs0
    have hz4 := small_string hs4
    obtain ⟨e3, e3'⟩ := e3
    subst e0 e1 e2 e3 e3' e4 e5
    exact ⟨⟨k.data.toList, b, tx, p, s, u.data.toList, d⟩, by simp [rxCs, str], ⟨htx, hs3⟩, by show k.data.toList.length < _; omega, by show u.data.toList.length < _; omega, i64_lt w5⟩

set_option maxRecDepth 100000 in
/-- A list of rows, opened. -/
theorem rows_opened {H : Type} {enc : TypeId × Value → H} {w : World} {fuel : Nat} {v : Value} {x : DataW H × List MemPlace} (h : DataW.trod enc Tryz.prog w 0 (fun _ => true) true fuel 22 [v] = some x) (hs : Small Tryz.prog 22 x.1) :
    ∃ (A : Option Addr) (c : Nat) (l : List Sp.Rx), v = .slice A l.length c ∧ l.length ≤ c ∧ RxsAt (fun b => b < w.heap.size) w A l ∧ l.length ≤ 140737488351232 ∧ ∀ r ∈ l, (r.tx < 18446744073709551616 ∧ r.slot < 65536) ∧ r.key.length < 140737488355329 ∧ r.value.length < 140737488355329 ∧ r.pad < 9223372036854775808 := by
  rcases open_slice Tryz.underlying22 h with ⟨hcs, _⟩ | ⟨a, len, cap, m, n, D, Pl, hcs, _, hl, hm, hmm, hx, hc⟩
  · obtain rfl : v = _ := by simpa using hcs
    exact ⟨none, 0, [], rfl, by simp, ⟨rfl, fun h => absurd h (by simp)⟩, by simp, by simp⟩
  · obtain rfl : v = _ := by simpa using hcs
    have hlm : len ≤ m := by rw [hmm]; split <;> omega
    rw [hx] at hs
    have hsz := small_slice Tryz.underlying22 hs
    rw [show Tryz.prog.bytesOf 43 = 64 by kernel_rfl] at hsz
    simp only [List.length_map, List.length_range] at hsz
    have c7 : Tryz.prog.cellsOf 43 = 7 := by kernel_rfl
    obtain ⟨S, hS⟩ := choose_lt (α := Sp.Rx) (n := len) (p := fun i r => w.cells? 0 (a.add (i * 7)) 7 = some (rxCs r) ∧ (r.tx < 18446744073709551616 ∧ r.slot < 65536) ∧ r.key.length < 140737488355329 ∧ r.value.length < 140737488355329 ∧ r.pad < 9223372036854775808) (fun i hi => by
      obtain ⟨cs', h1, h2⟩ := hc i (by omega)
      have hsi := small_elem Tryz.underlying22 hs (d := D i) (List.mem_map.2 ⟨i, List.mem_range.2 hi, rfl⟩)
      obtain ⟨r, rfl, q1, q2⟩ := row_opened h2 hsi
      rw [c7] at h1
      exact ⟨r, h1, q1, q2⟩)
    refine ⟨some a, cap, (List.range len).map S, by simp, by simpa using hl, ⟨by
      have : ∀ l : List Sp.Rx, (l.flatMap rxCs).length = l.length * 7 := fun l => by
        induction l with
        | nil => rfl
        | cons x l ih => rw [List.flatMap_cons, List.length_append, ih]; simp [Nat.succ_mul]; omega
      exact this _, fun hn => ?_⟩, by simp; omega, fun s hm => ?_⟩
    · simp at hn
      obtain ⟨b, off, spot⟩ := a
      obtain ⟨_, _, hc0⟩ := World.cells?_some (hS 0 hn).1
      have k0 := hc0 0 (by omega)
      have k0' : w.cell? ((⟨b, off, spot⟩ : Addr)) = some (str (S 0).key) := by simpa [Addr.add, rxCs] using k0
      have hspot : spot = none := by simpa using World.cell?_spot k0'
      subst hspot
      refine ⟨b, off, rfl, World.block_lt_of_cell? w _ k0', World.block_lt_of_cell? w _ k0', fun j u hu => ?_⟩
      have hj : j < len * 7 := by
        have := (List.getElem?_eq_some_iff.1 hu).1
        have h2 : ∀ l : List Sp.Rx, (l.flatMap rxCs).length = l.length * 7 := fun l => by
          induction l with
          | nil => rfl
          | cons x l ih => rw [List.flatMap_cons, List.length_append, ih]; simp [Nat.succ_mul]; omega
        rw [h2] at this; simpa using this
      have ej : j = j / 7 * 7 + j % 7 := by omega
      rw [ej, rxs_get _ (j / 7) (j % 7) (by simp; omega) (by omega)] at hu
      simp only [List.getElem_map, List.getElem_range] at hu
      obtain ⟨_, _, hcj⟩ := World.cells?_some (hS (j / 7) (by omega)).1
      have := hcj (j % 7) (by omega)
      rw [add_add] at this
      have e2 : (⟨b, off, none⟩ : Addr).add (j / 7 * 7 + j % 7) = ⟨b, off + j, none⟩ := by rw [← ej]; cases j <;> simp [Addr.add]
      rw [e2, hu] at this
      exact this
    · obtain ⟨i, hi, rfl⟩ := List.mem_map.1 hm
      exact (hS i (by simpa using hi)).2
end Go.Proofs.YtafopojibpifoaaGreat
