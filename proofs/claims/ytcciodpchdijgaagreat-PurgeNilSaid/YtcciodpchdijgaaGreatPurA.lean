/- The argument of the law PurgeNil opened: a view. -/
import Derived.Test.YtcciodpchdijgaaGreatHead
import Derived.Test.YtcciodpchdijgaaGreatArg
import Derived.Test.YtcciodpchdijgaaGreatPurN
import Derived.ChangeSlices
namespace Go.Proofs.YtcciodpchdijgaaGreat
open Go.ChangeShapes Go.WideShapes Go.ChangeAt Go.RowKit Go.Deep

theorem u64_nat {n : Int} (h : (Lit.int .u64 n).wf = true) : ∃ m : Nat, n = (m : Int) ∧ m < 18446744073709551616 := by
  simp [Lit.wf, IntKind.min, IntKind.max, IntKind.signed, IntKind.bits] at h
  exact ⟨n.toNat, by omega, by omega⟩
set_option maxRecDepth 100000 in
/-- A view, opened. -/
theorem view_opened {H : Type} {enc : TypeId × Value → H} {w : World} {fuel : Nat} {cs : List Value} {x : DataW H × List MemPlace} (h : DataW.trod enc Tryz.prog w 0 (fun _ => true) true fuel 55 cs = some x) (hs : Small Tryz.prog 55 x.1) :
    ∃ (own next : Nat) (A : Option Addr) (c : Nat) (xs : List Nat), cs = [.int .u64 own, .int .u64 next, .slice A xs.length c] ∧ own < 18446744073709551616 ∧ next < 18446744073709551616 ∧ U64s (fun b => b < w.heap.size) w A xs ∧ xs.length ≤ 140737488351232 ∧ ∀ n ∈ xs, n < 18446744073709551616 := by
  obtain ⟨hl, ys, n, hx, hf⟩ := fields_opened Tryz.underlying55 h
  rw [show Tryz.prog.cellsOf 55 = 3 by kernel_rfl] at hl
  match cs, hl with
  | [v0, v1, v2], _ =>
    obtain ⟨y0, _, _, h0⟩ := hf 0 _ rfl
    obtain ⟨y1, _, _, h1⟩ := hf 1 _ rfl
    obtain ⟨y2, _, hy2, h2⟩ := hf 2 _ rfl
    rw [hx] at hs
    have hs2 := small_field Tryz.underlying55 hs (j := 2) rfl hy2
    have c64 : Tryz.prog.cellsOf 22 = 1 := by kernel_rfl
    have cs1 : Tryz.prog.cellsOf 53 = 1 := by kernel_rfl
    replace h0 : DataW.trod enc Tryz.prog w 0 (fun _ => true) true n 22 [v0] = some y0 := by rw [← h0]; show _ = DataW.trod _ _ _ _ _ _ _ _ (List.take (Tryz.prog.cellsOf 22) _); rw [c64]; rfl
    replace h1 : DataW.trod enc Tryz.prog w 0 (fun _ => true) true n 22 [v1] = some y1 := by rw [← h1]; show _ = DataW.trod _ _ _ _ _ _ _ _ (List.take (Tryz.prog.cellsOf 22) _); rw [c64]; rfl
    replace h2 : DataW.trod enc Tryz.prog w 0 (fun _ => true) true n 53 [v2] = some y2 := by rw [← h2]; show _ = DataW.trod _ _ _ _ _ _ _ _ (List.take (Tryz.prog.cellsOf 53) _); rw [cs1]; rfl
    obtain ⟨a, e0, _, w0⟩ := DataW.trod_int Tryz.underlying22 h0
    obtain ⟨b, e1, _, w1⟩ := DataW.trod_int Tryz.underlying22 h1
    obtain ⟨own, rfl, ho⟩ := u64_nat w0
    obtain ⟨next, rfl, hn⟩ := u64_nat w1
    simp at e0 e1
    subst e0 e1
    rcases open_slice Tryz.underlying53 h2 with ⟨hcs, _⟩ | ⟨a, len, cap, m, n', D, Pl, hcs, _, hl, hm, hmm, hx2, hc⟩
    · obtain rfl : v2 = _ := by simpa using hcs
      exact ⟨own, next, none, 0, [], rfl, ho, hn, Reads.none_, by simp, by simp⟩
    · obtain rfl : v2 = _ := by simpa using hcs
      have hlm : len ≤ m := by rw [hmm]; split <;> omega
      rw [hx2] at hs2
      have hsz := small_slice Tryz.underlying53 hs2
      rw [show Tryz.prog.bytesOf 22 = 8 by kernel_rfl] at hsz
      simp only [List.length_map, List.length_range] at hsz
      obtain ⟨S, hS⟩ := choose_lt (α := Nat) (n := len) (p := fun i s => w.cell? (a.add i) = some (.int .u64 s) ∧ s < 18446744073709551616) (fun i hi => by
        obtain ⟨cs', h1, h2⟩ := hc i (by omega)
        rw [c64, Nat.mul_one] at h1
        obtain ⟨z, rfl, _, wz⟩ := DataW.trod_int Tryz.underlying22 h2
        obtain ⟨s, rfl, hs⟩ := u64_nat wz
        exact ⟨s, cell_of_cells?_one h1, hs⟩)
      refine ⟨own, next, some a, cap, (List.range len).map S, by simp, ho, hn, ⟨by simp, fun hn => ?_⟩, by simp; omega, fun s hm => ?_⟩
      · simp at hn
        obtain ⟨b, off, spot⟩ := a
        have k0 := (hS 0 hn).1
        have hspot : spot = none := by simpa [Addr.add] using World.cell?_spot k0
        subst hspot
        refine ⟨b, off, rfl, World.block_lt_of_cell? w _ k0, World.block_lt_of_cell? w _ k0, fun j u hu => ?_⟩
        have hj : j < len := by
          have := (List.getElem?_eq_some_iff.1 hu).1
          simpa using this
        have e1 : (⟨b, off, none⟩ : Addr).add j = ⟨b, off + j, none⟩ := by cases j <;> simp [Addr.add]
        rw [← e1, (hS j hj).1]
        rw [← hu]
        simp
        rw [List.getElem?_range hj]
        rfl
      · obtain ⟨i, hi, rfl⟩ := List.mem_map.1 hm
        exact (hS i (by simpa using hi)).2
set_option maxRecDepth 100000 in
/-- Its list is where lists are. -/
theorem view_addr {W : World} {base own next n c : Nat} {A : Option Addr} (h : Value.okWide Tryz.prog W .any base 55 (.agg #[.int .u64 own, .int .u64 next, .slice A n c])) : A = none ∨ ∃ b o, A = some ⟨b, o, none⟩ := by
  simp only [Value.okWide, Tryz.underlying55] at h
  obtain ⟨cs, h1, _, ts, hts, _, hc⟩ := h
  have hts' : Tryz.prog.cellTypes Tryz.prog.depth 55 = some [22, 22, 53] := by kernel_rfl
  rw [hts'] at hts
  cases hts
  cases h1
  obtain ⟨u, hu, ho⟩ := hc 2 _ rfl
  have hu : some 53 = some u := hu
  obtain rfl := Option.some.inj hu
  unfold Cell.okWide Cell.ok at ho
  rw [Tryz.underlying53] at ho
  cases A with
  | none => exact .inl rfl
  | some a =>
    obtain ⟨b, o, s⟩ := a
    obtain ⟨_, _, _, hs, _⟩ := ho
    have hs : s = none := hs
    subst hs
    exact .inr ⟨b, o, rfl⟩
end Go.Proofs.YtcciodpchdijgaaGreat
