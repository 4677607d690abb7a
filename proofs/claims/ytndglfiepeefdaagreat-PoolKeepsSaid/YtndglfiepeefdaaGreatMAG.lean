/- The arguments of PoolKeeps opened: acts. -/
import Derived.Test.YtndglfiepeefdaaGreatMAF
import Derived.Test.YtndglfiepeefdaaGreatMAZ
import Derived.ChangeSlices

namespace Go.Proofs.YtndglfiepeefdaaGreat
open Go.ChangeShapes Go.WideShapes Go.ChangeAt Go.RowKit Go.Deep

theorem u8_natK {n : Int} (h : (Lit.int .u8 n).wf = true) : ∃ m : Nat, n = (m : Int) ∧ m < 256 := by
  simp [Lit.wf, IntKind.min, IntKind.max, IntKind.signed, IntKind.bits] at h
  exact ⟨n.toNat, by omega, by omega⟩
theorem u32_natK {n : Int} (h : (Lit.int .u32 n).wf = true) : ∃ m : Nat, n = (m : Int) ∧ m < 4294967296 := by
  simp [Lit.wf, IntKind.min, IntKind.max, IntKind.signed, IntKind.bits] at h
  exact ⟨n.toNat, by omega, by omega⟩
instance : Inhabited KAct := ⟨⟨0, 0, .empty, 0, []⟩⟩

set_option maxRecDepth 100000 in
/-- A page's rows, opened. -/
theorem page_rowsK {H : Type} {enc : TypeId × Value → H} {w : World} {fuel : Nat} {cs : List Value} {x : DataW H × List MemPlace} (h : DataW.trod enc Tryz.prog w 0 (fun _ => true) true fuel 32 cs = some x) (hs : Small Tryz.prog 32 x.1) :
    ∃ (A : Option Addr) (c : Nat) (rows : List ByteArray), cs[5]? = some (.slice A rows.length c) ∧ Reads (fun b => b < w.heap.size) w 1 A rows.length (rows.map Value.string) ∧ rows.length * 16 ≤ 140737488351232 ∧ ∀ s ∈ rows, s.size ≤ 140737488351232 := by
  obtain ⟨hl, ys, n, hx, hf⟩ := fields_opened Tryz.underlying32 h
  rw [show Tryz.prog.cellsOf 32 = 6 by kernel_rfl] at hl
  match cs, hl with
  | [v0, v1, v2, v3, v4, v5], _ =>
    obtain ⟨y5, _, hy5, h5⟩ := hf 5 _ rfl
    rw [hx] at hs
    have hs5 := small_field Tryz.underlying32 hs (j := 5) rfl hy5
    have cs1 : Tryz.prog.cellsOf 30 = 1 := by kernel_rfl
    replace h5 : DataW.trod enc Tryz.prog w 0 (fun _ => true) true n 30 [v5] = some y5 := by rw [← h5]; show _ = DataW.trod _ _ _ _ _ _ _ _ (List.take (Tryz.prog.cellsOf 30) _); rw [cs1]; rfl
    obtain ⟨A, c, rows, rfl, hR, hl, hz⟩ := strings_opened Tryz.underlying30 Tryz.underlying9 (by kernel_rfl) (by kernel_rfl) h5 hs5
    exact ⟨A, c, rows, rfl, hR, hl, hz⟩

/-- An act's cells. -/
structure KCells (w : World) (cs : List Value) (a : KAct) : Prop where
  len : cs.length = 11
  c0 : cs[0]? = some (.int .u8 a.do_)
  c1 : cs[1]? = some (.int .u32 a.page)
  c9 : cs[9]? = some (.string a.row)
  c10 : ∃ P c, cs[10]? = some (.slice P a.np c)
  c7 : ∃ R c, cs[7]? = some (.slice R a.rows.length c) ∧ Reads (fun b => b < w.heap.size) w 1 R a.rows.length (a.rows.map Value.string)
  b0 : a.do_ < 256 ∧ a.page < 4294967296
  ok : a.hv.ok

set_option maxRecDepth 100000 in
set_option maxHeartbeats 1000000 in
/-- An act, opened. -/
theorem act_openedK {H : Type} {enc : TypeId × Value → H} {w : World} {fuel : Nat} {cs : List Value} {x : DataW H × List MemPlace} (h : DataW.trod enc Tryz.prog w 0 (fun _ => true) true fuel 35 cs = some x) (hs : Small Tryz.prog 35 x.1) :
    ∃ a : KAct, KCells w cs a := by
  obtain ⟨hl, ys, n, hx, hf⟩ := fields_opened Tryz.underlying35 h
  rw [show Tryz.prog.cellsOf 35 = 11 by kernel_rfl] at hl
  match cs, hl with
  | [v0, v1, v2, v3, v4, v5, v6, v7, v8, v9, v10], hl =>
    obtain ⟨y0, _, _, h0⟩ := hf 0 _ rfl
    obtain ⟨y1, _, _, h1⟩ := hf 1 _ rfl
    obtain ⟨y2, _, hy2, h2⟩ := hf 2 _ rfl
    obtain ⟨y4, _, hy4, h4⟩ := hf 4 _ rfl
    obtain ⟨y5, _, hy5, h5⟩ := hf 5 _ rfl
    rw [hx] at hs
    have hs2 := small_field Tryz.underlying35 hs (j := 2) rfl hy2
    have hs4 := small_field Tryz.underlying35 hs (j := 4) rfl hy4
    have hs5 := small_field Tryz.underlying35 hs (j := 5) rfl hy5
    have c8 : Tryz.prog.cellsOf 5 = 1 := by kernel_rfl
    have c32 : Tryz.prog.cellsOf 28 = 1 := by kernel_rfl
    have cpg : Tryz.prog.cellsOf 32 = 6 := by kernel_rfl
    have cst : Tryz.prog.cellsOf 9 = 1 := by kernel_rfl
    have csl : Tryz.prog.cellsOf 33 = 1 := by kernel_rfl
    replace h0 : DataW.trod enc Tryz.prog w 0 (fun _ => true) true n 5 [v0] = some y0 := by rw [← h0]; show _ = DataW.trod _ _ _ _ _ _ _ _ (List.take (Tryz.prog.cellsOf 5) _); rw [c8]; rfl
    replace h1 : DataW.trod enc Tryz.prog w 0 (fun _ => true) true n 28 [v1] = some y1 := by rw [← h1]; show _ = DataW.trod _ _ _ _ _ _ _ _ (List.take (Tryz.prog.cellsOf 28) _); rw [c32]; rfl
    replace h2 : DataW.trod enc Tryz.prog w 0 (fun _ => true) true n 32 [v2, v3, v4, v5, v6, v7] = some y2 := by rw [← h2]; show _ = DataW.trod _ _ _ _ _ _ _ _ (List.take (Tryz.prog.cellsOf 32) _); rw [cpg]; rfl
    replace h4 : DataW.trod enc Tryz.prog w 0 (fun _ => true) true n 9 [v9] = some y4 := by rw [← h4]; show _ = DataW.trod _ _ _ _ _ _ _ _ (List.take (Tryz.prog.cellsOf 9) _); rw [cst]; rfl
    replace h5 : DataW.trod enc Tryz.prog w 0 (fun _ => true) true n 33 [v10] = some y5 := by rw [← h5]; show _ = DataW.trod _ _ _ _ _ _ _ _ (List.take (Tryz.prog.cellsOf 33) _); rw [csl]; rfl
    obtain ⟨k, e0, _, w0⟩ := DataW.trod_int Tryz.underlying5 h0
    obtain ⟨id, e1, _, w1⟩ := DataW.trod_int Tryz.underlying28 h1
    obtain ⟨s, e4, ey, _⟩ := DataW.trod_string Tryz.underlying9 h4
    simp at e0 e1 e4
    obtain ⟨m, rfl, hm⟩ := u8_natK w0
    obtain ⟨pg, rfl, hpg⟩ := u32_natK w1
    rw [ey] at hs4
    have hsz := small_string hs4
    obtain ⟨A, c, rows, e7, hR, hrl, hrz⟩ := page_rowsK h2 hs2
    obtain ⟨P, np, cp, e10, hnp⟩ : ∃ P np c, v10 = .slice P np c ∧ np ≤ 140737488351232 := by
      rcases open_ints Tryz.underlying33 Tryz.underlying28 (by kernel_rfl) h5 with ⟨hcs, _⟩ | ⟨a, len, cap, zs, hcs, _, hlc, hm', hzl, hxx, _⟩
      · exact ⟨none, 0, 0, by simpa using hcs, by omega⟩
      · refine ⟨some a, len, cap, by simpa using hcs, ?_⟩
        rw [hxx] at hs5
        have hss := small_slice Tryz.underlying33 hs5
        rw [show Tryz.prog.bytesOf 28 = 4 by kernel_rfl] at hss
        have hzl' : zs.length = cap := by simpa using hzl
        simp [lits] at hss
        omega
    subst e0 e1 e4 e10
    exact ⟨⟨m, pg, s, np, rows⟩, ⟨hl, rfl, rfl, rfl, ⟨P, cp, rfl⟩, ⟨A, c, e7, hR⟩, ⟨hm, hpg⟩, ⟨by show s.size ≤ _; simp at hsz; omega, by show np ≤ _; omega, by show rows.length ≤ _; omega, fun z hz => by have := hrz z hz; omega⟩⟩⟩

set_option maxRecDepth 100000 in
/-- A list of acts, opened. -/
theorem acts_openedK {H : Type} {enc : TypeId × Value → H} {w : World} {fuel : Nat} {v : Value} {x : DataW H × List MemPlace} (h : DataW.trod enc Tryz.prog w 0 (fun _ => true) true fuel 22 [v] = some x) (hs : Small Tryz.prog 22 x.1) :
    ∃ (A : Option Addr) (c : Nat) (l : List KAct), v = .slice A l.length c ∧ HvAt w A (l.map KAct.hv) ∧ KActAt w A l ∧ l.length ≤ 140737488351232 ∧ (∀ a ∈ l, a.hv.ok) ∧ ∀ a ∈ l, a.do_ < 256 ∧ a.page < 4294967296 := by
  rcases open_slice Tryz.underlying22 h with ⟨hcs, _⟩ | ⟨a, len, cap, m, n, D, Pl, hcs, _, hl, hm, hmm, hx, hc⟩
  · obtain rfl : v = _ := by simpa using hcs
    exact ⟨none, 0, [], rfl, fun h => absurd h (by simp), fun h => absurd h (by simp), by simp, by simp, by simp⟩
  · obtain rfl : v = _ := by simpa using hcs
    have hlm : len ≤ m := by rw [hmm]; split <;> omega
    rw [hx] at hs
    have hsz := small_slice Tryz.underlying22 hs
    rw [show Tryz.prog.bytesOf 35 = 104 by kernel_rfl] at hsz
    simp only [List.length_map, List.length_range] at hsz
    have c11 : Tryz.prog.cellsOf 35 = 11 := by kernel_rfl
    obtain ⟨S, hS⟩ := choose_lt (α := KAct) (n := len) (p := fun i s => ∃ cs, w.cells? 0 (a.add (i * 11)) 11 = some cs ∧ KCells w cs s) (fun i hi => by
      obtain ⟨cs', h1, h2⟩ := hc i (by omega)
      have hsi := small_elem Tryz.underlying22 hs (d := D i) (List.mem_map.2 ⟨i, List.mem_range.2 hi, rfl⟩)
      obtain ⟨s, q⟩ := act_openedK h2 hsi
      rw [c11] at h1
      exact ⟨s, cs', h1, q⟩)
    obtain ⟨b, off, hab⟩ : ∃ b off, 0 < len → a = ⟨b, off, none⟩ ∧ b < w.heap.size := by
      obtain ⟨b, off, spot⟩ := a
      refine ⟨b, off, fun hn => ?_⟩
      obtain ⟨cs, q1, q2⟩ := hS 0 hn
      obtain ⟨_, _, hc0⟩ := World.cells?_some q1
      have k0 := hc0 0 (by omega)
      rw [q2.c0] at k0
      have k0' : w.cell? ((⟨b, off, spot⟩ : Addr)) = some (.int .u8 (S 0).do_) := by simpa [Addr.add] using k0
      have hspot : spot = none := by simpa using World.cell?_spot k0'
      subst hspot
      exact ⟨rfl, World.block_lt_of_cell? w _ k0'⟩
    have key : ∀ i (hi : i < len) j u, j < 11 → (hS i hi).choose[j]? = some u → w.cell? ⟨b, off + i * 11 + j, none⟩ = some u := fun i hi j u hj hu => by
      obtain ⟨_, _, hcj⟩ := World.cells?_some (hS i hi).choose_spec.1
      have := hcj j hj
      rw [hu, (hab (by omega)).1, add_add] at this
      have e2 : (⟨b, off, none⟩ : Addr).add (i * 11 + j) = ⟨b, off + i * 11 + j, none⟩ := by
        rw [Nat.add_assoc]
        cases hz : i * 11 + j <;> simp [Addr.add]
      rw [e2] at this
      exact this
    refine ⟨some a, cap, (List.range len).map S, by simp, fun hn => ?_, fun hn => ?_, by simp; omega, fun s hm => ?_, fun s hm => ?_⟩
    · have hn' : 0 < len := by simpa using hn
      refine ⟨b, off, by rw [(hab hn').1], (hab hn').2, fun i s hi => ?_⟩
      obtain ⟨hil, hi'⟩ : ∃ hil : i < len, s = (S i).hv := by
        rw [List.getElem?_map, List.getElem?_map] at hi
        by_cases hil : i < len
        · rw [List.getElem?_range hil] at hi
          exact ⟨hil, by simpa using hi.symm⟩
        · rw [List.getElem?_eq_none (by simpa using hil)] at hi; cases hi
      subst hi'
      have q := (hS i hil).choose_spec.2
      obtain ⟨P, c, h10⟩ := q.c10
      obtain ⟨R, cR, h7, hR⟩ := q.c7
      exact ⟨key i hil 9 _ (by omega) q.c9, ⟨P, c, key i hil 10 _ (by omega) h10⟩, R, cR, key i hil 7 _ (by omega) h7, hR⟩
    · have hn' : 0 < len := by simpa using hn
      refine ⟨b, off, by rw [(hab hn').1], (hab hn').2, fun i s hi => ?_⟩
      obtain ⟨hil, hi'⟩ : ∃ hil : i < len, s = S i := by
        rw [List.getElem?_map] at hi
        by_cases hil : i < len
        · rw [List.getElem?_range hil] at hi
          exact ⟨hil, by simpa using hi.symm⟩
        · rw [List.getElem?_eq_none (by simpa using hil)] at hi; cases hi
      subst hi'
      have q := (hS i hil).choose_spec.2
      refine ⟨key i hil 0 _ (by omega) q.c0, key i hil 1 _ (by omega) q.c1, ?_⟩
      have h9 := key i hil 9 _ (by omega) q.c9
      rw [h9]
      simp [KAct.bs, str]
    · obtain ⟨i, hi, rfl⟩ := List.mem_map.1 hm
      exact (hS i (by simpa using hi)).choose_spec.2.ok
    · obtain ⟨i, hi, rfl⟩ := List.mem_map.1 hm
      exact (hS i (by simpa using hi)).choose_spec.2.b0
end Go.Proofs.YtndglfiepeefdaaGreat
